/- Walks: actions one after the other, on the program's side. Walks: actions one after the other, on the program's side, with what lies apart. -/
import Derived.Test.YtkboefmkfpnpjaaGEsLTop18
import Derived.Test.YtkboefmkfpnpjaaGEsLTop12
import Derived.Test.YtkboefmkfpnpjaaGEsLTop13
import Derived.Test.YtkboefmkfpnpjaaGEsLTop19
set_option linter.unusedSimpArgs false
set_option linter.unusedVariables false
namespace Go.Proofs.Ytkboefmkfpnpjaa
open Go Go.RowKit Go.Proofs

theorem OE.keepR {eT eE lo rb : Nat} {w w' : World} {v : Value} {ts : List TE} (h : OE eT eE lo w v ts) (hg : w.grownBy w' (some rb)) (hlt : rb < lo) : OE eT eE lo w' v ts :=
  ⟨Own.kept h.1 hg (h.1.ne_rb hlt), fun x hx => ⟨⟨Own.kept (h.2 x hx).1.1 hg ((h.2 x hx).1.1.ne_rb hlt), (h.2 x hx).1.2⟩, ⟨Own.kept (h.2 x hx).2.1 hg ((h.2 x hx).2.1.ne_rb hlt), (h.2 x hx).2.2⟩⟩⟩
theorem runStep_len {v : List Int} {l : List Actn} (hv : v.length = 32) : (runAll v l).1.length = 32 := by
  have key : ∀ (l : List Actn) (p : List Int × List Eff), (l.foldl runStep p).1.length = p.1.length := by
    intro l
    induction l with
    | nil => intro p; rfl
    | cons x l ih => intro p; rw [List.foldl_cons, ih]; exact vsets_length _ _
  exact (key l (v, [])).trans hv
theorem rowKept {α : Type} {enc : α → List Value} {e sz lo rb : Nat} {W1 w7 : World} {v : Value} {l : List α} {o r : Obj} (hown : Own enc e sz lo W1 v l) (hlt : rb < lo) (hr : W1.heap[rb]? = some r) (g8 : (W1.alloc o).grownBy w7 v.ownBlock) : w7.heap[rb]? = some r := by
  have hs : rb < W1.heap.size := (Array.getElem?_eq_some_iff.1 hr).1
  refine (g8.block rb (by simp; omega) (fun e => ?_)).trans ((heap_alloc_old W1 o hs).trans hr)
  rcases hown.ne_rb hlt with h | h
  · rw [h] at e; cases e
  · exact h e.symm
theorem grownBy_setRow (a : World) (g : Nat) (cs : Array Value) : a.grownBy (a.setRow g cs) (some g) :=
  ⟨rfl, rfl, rfl, by simp [World.setRow], fun n hn hne => setRow_other a g n cs (fun e => hne (by rw [e]))⟩
set_option maxRecDepth 100000 in
set_option maxHeartbeats 4000000 in
theorem runAll_any (v : List Int) (l : List Actn) (vl : Value) (w : World) (hl : SL (RF Actn.enc) 4 w vl l) (hv : v.length = 32) (hvi : valsIn v) (hok : ∀ x ∈ l, x.ok = true) (hlen : l.length ≤ 1000000) :
    Calls Try.prog 70 #[.agg (vA v), vl] w fun e w' => ∃ v2 ts, e = .returned (.tuple #[.agg (vA (runAll v l).1), v2]) ∧ Up w w' ∧ OE 40 31 w.heap.size w' v2 ts ∧ ts.map TE.core = (runAll v l).2 := by
  obtain ⟨p3, c3, rfl, hll, hcl⟩ := hl.open
  have Hl := Lib.hid hl; have Hvi := Lib.hid hvi; have Hok := Lib.hid hok; have Hv := Lib.hid hv
  clear hl hvi hok hv
  go_enter Try.func70, Try.ntmps70
  go_wp2_with fail
  go_loopw [6, 14] (fun s6 s14 wr => ∃ (k : Nat) (ts : List TE), s14 = .int .i64 k ∧ k ≤ l.length ∧ Up w wr ∧ Row 99 wr w.heap.size (runAll v (l.take k)).1 ∧ Row 99 wr (w.heap.size + 1) zeros ∧ OE 40 31 (w.heap.size + 1 + 1) wr s6 ts ∧ ts.map TE.core = (runAll v (l.take k)).2) (fun _ s14 _ => l.length - (intOf s14).toNat)
  case atStart => exact ⟨0, [], rfl, Nat.zero_le _, (.of (by repeat (first | (with_reducible exact Ext.refl _) | (with_reducible refine Ext.up ?_ _) | (with_reducible refine Ext.alloc ?_ _) | (with_reducible refine Ext.drew ?_) | (with_reducible refine Ext.setRow ?_ (by first | exact LeS.le | exact LeS.add _ | (simp; done) | (simp; omega)) _) | (with_reducible refine Ext.setCell ?_ (by first | exact LeS.le | exact LeS.add _ | (simp; done) | (simp; omega)) _)))), Row.of_eq (heap_alloc2_old _ _ _) rfl, Row.of_eq (heap_alloc2_new _ _ _) vA_zeros.symm, ⟨Own.nil _ _ _ _ _, by simp⟩, rfl⟩
  case round =>
    obtain ⟨k, ts, rfl, hk, ⟨z, rfl⟩, r0, r1, hoe, hts⟩ := hrel
    have htl : ts.length ≤ 1000000 := by rw [← List.length_map (f := TE.core), hts, runAll_len, List.length_take]; omega
    have Hoe := Lib.hid hoe; have Hts := Lib.hid hts
    clear hoe hts
    by_cases hlt : k < l.length
    · obtain ⟨x, hxk⟩ := getElem?_some_of_lt hlt
      obtain ⟨g, off, hp, hb, _⟩ := hcl k x hxk
      obtain ⟨c0, c1, c2, c3⟩ := acell hcl hp hxk
      subst hp
      have hxo := Hok.out x (List.mem_of_getElem? hxk)
      have hVi : valsIn (runAll v (l.take k)).1 := runAll_in Hvi.out fun y hy => Hok.out y (List.mem_of_mem_take hy)
      have hVl : (runAll v (l.take k)).1.length = 32 := runStep_len Hv.out
      have Hsn := Lib.hid (runAll_snoc v hxk)
      generalize hR : runAll v (l.take k) = R at *
      have kr := fun w => run_any x R.1 w hVl hVi hxo
      have hei := Lib.hid (fun e he => entsOk_mem (runV_ok hVi hxo) (x := e) he)
      have hVl' := Lib.hid hVl
      have hwl := entsOk_len (runV_ok hVi hxo)
      clear hcl hxk hVi hxo hR hVl
      generalize hE : runV R.1 x = E at *
      have HE := Lib.hid hE; clear hE
      have hL0 := r0.lts
      have hL1 := r1.lts
      have R0 := Lib.hid r0; have R1 := Lib.hid r1
      clear r0 r1
      go_wp2_with (first | (refine wpList_load_row rfl _ _ rfl _ rfl _ _ _ _ (R0.out.up (by repeat (first | (with_reducible exact Ext.refl _) | (with_reducible refine Ext.up ?_ _) | (with_reducible refine Ext.alloc ?_ _) | (with_reducible refine Ext.drew ?_) | (with_reducible refine Ext.setRow ?_ (by first | exact LeS.le | exact LeS.add _ | (simp; done) | (simp; omega)) _) | (with_reducible refine Ext.setCell ?_ (by first | exact LeS.le | exact LeS.add _ | (simp; done) | (simp; omega)) _)))).eq Try.underlying99 rfl (by rw [vA_size, hVl'.out]; exact Try.sVals) ?_) | ((go_at_call 83; refine (kr _).mono ?_; rintro e w' ⟨vr, vw, rfl, ⟨z4, rfl⟩, q1, q2, ap⟩); obtain ⟨p1, cc1, rfl, _, _⟩ := (q1.sl Ent.enc_length).openc; obtain ⟨p2, cc2, rfl, _, hw2⟩ := (q2.sl Ent.enc_length).open; have Q1 := Lib.hid q1; have Q2 := Lib.hid q2; have HW2 := Lib.hid hw2; clear q1 q2 ap hw2))
      have hsz : w.heap.size + 1 < z.val.heap.size := hL1.lt
      have hsz4 : z.val.heap.size < z4.val.heap.size := by have := z4.ext.size; simp at this; omega
      have r05 := R0.out.up (show Ext z.val (z4.val.alloc (.cells #[.bool E.d, .slice p1 E.r.length cc1, .slice p2 E.w.length cc2] 40)) from (by repeat (first | (with_reducible exact Ext.refl _) | (with_reducible refine Ext.up ?_ _) | (with_reducible refine Ext.alloc ?_ _) | (with_reducible refine Ext.drew ?_) | (with_reducible refine Ext.setRow ?_ (by first | exact LeS.le | exact LeS.add _ | (simp; done) | (simp; omega)) _) | (with_reducible refine Ext.setCell ?_ (by first | exact LeS.le | exact LeS.add _ | (simp; done) | (simp; omega)) _))))
      have r15 := R1.out.up (show Ext z.val (z4.val.alloc (.cells #[.bool E.d, .slice p1 E.r.length cc1, .slice p2 E.w.length cc2] 40)) from (by repeat (first | (with_reducible exact Ext.refl _) | (with_reducible refine Ext.up ?_ _) | (with_reducible refine Ext.alloc ?_ _) | (with_reducible refine Ext.drew ?_) | (with_reducible refine Ext.setRow ?_ (by first | exact LeS.le | exact LeS.add _ | (simp; done) | (simp; omega)) _) | (with_reducible refine Ext.setCell ?_ (by first | exact LeS.le | exact LeS.add _ | (simp; done) | (simp; omega)) _))))
      have oe5 := Hoe.out.up (show Ext z.val (z4.val.alloc (.cells #[.bool E.d, .slice p1 E.r.length cc1, .slice p2 E.w.length cc2] 40)) from (by repeat (first | (with_reducible exact Ext.refl _) | (with_reducible refine Ext.up ?_ _) | (with_reducible refine Ext.alloc ?_ _) | (with_reducible refine Ext.drew ?_) | (with_reducible refine Ext.setRow ?_ (by first | exact LeS.le | exact LeS.add _ | (simp; done) | (simp; omega)) _) | (with_reducible refine Ext.setCell ?_ (by first | exact LeS.le | exact LeS.add _ | (simp; done) | (simp; omega)) _))))
      have q15 := Q1.out.up (show Ext z4.val (z4.val.alloc (.cells #[.bool E.d, .slice p1 E.r.length cc1, .slice p2 E.w.length cc2] 40)) from (by repeat (first | (with_reducible exact Ext.refl _) | (with_reducible refine Ext.up ?_ _) | (with_reducible refine Ext.alloc ?_ _) | (with_reducible refine Ext.drew ?_) | (with_reducible refine Ext.setRow ?_ (by first | exact LeS.le | exact LeS.add _ | (simp; done) | (simp; omega)) _) | (with_reducible refine Ext.setCell ?_ (by first | exact LeS.le | exact LeS.add _ | (simp; done) | (simp; omega)) _))))
      have q25 := Q2.out.up (show Ext z4.val (z4.val.alloc (.cells #[.bool E.d, .slice p1 E.r.length cc1, .slice p2 E.w.length cc2] 40)) from (by repeat (first | (with_reducible exact Ext.refl _) | (with_reducible refine Ext.up ?_ _) | (with_reducible refine Ext.alloc ?_ _) | (with_reducible refine Ext.drew ?_) | (with_reducible refine Ext.setRow ?_ (by first | exact LeS.le | exact LeS.add _ | (simp; done) | (simp; omega)) _) | (with_reducible refine Ext.setCell ?_ (by first | exact LeS.le | exact LeS.add _ | (simp; done) | (simp; omega)) _))))
      have hE5 : Ext w (z4.val.alloc (.cells #[.bool E.d, .slice p1 E.r.length cc1, .slice p2 E.w.length cc2] 40)) := (by repeat (first | (with_reducible exact Ext.refl _) | (with_reducible refine Ext.up ?_ _) | (with_reducible refine Ext.alloc ?_ _) | (with_reducible refine Ext.drew ?_) | (with_reducible refine Ext.setRow ?_ (by first | exact LeS.le | exact LeS.add _ | (simp; done) | (simp; omega)) _) | (with_reducible refine Ext.setCell ?_ (by first | exact LeS.le | exact LeS.add _ | (simp; done) | (simp; omega)) _)))
      have e5 : (z4.val.alloc (.cells #[.bool E.d, .slice p1 E.r.length cc1, .slice p2 E.w.length cc2] 40)).heap[z4.val.heap.size]? = some (.cells #[.bool E.d, .slice p1 E.r.length cc1, .slice p2 E.w.length cc2] 40 (0, 0)) := heap_alloc_new _ _
      have hw5 : ∀ (k : Nat) (y : Ent), E.w[k]? = some y → ∃ b off, p2 = some ⟨b, off, none⟩ ∧ w.heap.size < b ∧ LtS b (z4.val.alloc (.cells #[.bool E.d, .slice p1 E.r.length cc1, .slice p2 E.w.length cc2] 40)) ∧ ∀ j u, y.enc[j]? = some u → (z4.val.alloc (.cells #[.bool E.d, .slice p1 E.r.length cc1, .slice p2 E.w.length cc2] 40)).cell? ⟨b, off + k * 2 + j, none⟩ = some u := by
        intro k y hy
        obtain ⟨b, off, rfl, hlb, hcc⟩ := HW2.out k y hy
        have := (World.ownsRow.lt Q2.out b rfl).1
        simp at this
        refine ⟨b, off, rfl, by omega, inferInstance, fun j u hu => (LtS.cell_alloc _ _ _).trans (hcc j u hu)⟩
      have A1 := Lib.hid (Apart.of_lt Hoe.out.1 Q1.out (by simp)).symm
      have A2 := Lib.hid (Apart.of_lt Hoe.out.1 Q2.out (by simp)).symm
      have hlo : w.heap.size + 1 + 1 ≤ (z.val.alloc (.cells #[.int .i64 x.kind, .int .i64 x.src, .int .i64 x.dst, .int .i64 x.amt] 24)).heap.size := by simp; omega
      have hlt5 : z4.val.heap.size < (z4.val.alloc (.cells #[.bool E.d, .slice p1 E.r.length cc1, .slice p2 E.w.length cc2] 40)).heap.size := by simp
      generalize z4.val.alloc (.cells #[.bool E.d, .slice p1 E.r.length cc1, .slice p2 E.w.length cc2] 40) = W5 at *
      generalize z4.val.heap.size = G5 at *
      have HW5 := Lib.hid hw5; have R05 := Lib.hid r05; have R15 := Lib.hid r15; have OE5 := Lib.hid oe5; have Q15 := Lib.hid (q15.lo hlo); have Q25 := Lib.hid (q25.lo hlo); have HE5 := Lib.hid hE5; have E5 := Lib.hid e5
      have hL5 : LtS w.heap.size W5 := ⟨by omega⟩
      have hL51 : LtS (w.heap.size + 1) W5 := ⟨by omega⟩
      have hL5G : LtS G5 W5 := ⟨hlt5⟩
      have hN5 : NeS G5 w.heap.size := ⟨by omega⟩
      have hNw : NeS (w.heap.size + 1) w.heap.size := ⟨by omega⟩
      clear hw5 r05 r15 oe5 q15 q25 hE5 e5 HW2 Q1 Q2 hlo hlt5 R0 R1 kr
      go_loopw [24] (fun s24 wr => ∃ (j : Nat), s24 = .int .i64 j ∧ j ≤ E.w.length ∧ (∃ z5 : ExtR w.heap.size W5, wr = z5.val) ∧ Row 99 wr w.heap.size (vsets R.1 (E.w.take j))) (fun s24 _ => E.w.length - (intOf s24).toNat)
      case atStart => exact ⟨0, rfl, Nat.zero_le _, ⟨⟨W5, grownBy_refl _ _⟩, rfl⟩, R05.out⟩
      case round =>
        obtain ⟨j, rfl, hj, ⟨z5, rfl⟩, rj⟩ := hrel
        by_cases hjl : j < E.w.length
        · obtain ⟨y, hyk⟩ := getElem?_some_of_lt hjl
          obtain ⟨b, offb, rfl, hbw, hlb, hcc⟩ := HW5.out j y hyk
          have hNb : NeS b w.heap.size := ⟨by omega⟩
          have y0 : W5.cell? ⟨b, offb + j * 2, none⟩ = some (.int .i64 y.k) := hcc 0 _ rfl
          have y1 : W5.cell? ⟨b, offb + j * 2 + 1, none⟩ = some (.int .i64 y.v) := hcc 1 _ rfl
          obtain ⟨k0, k1, _, _⟩ := hei.out y (List.mem_of_getElem? hyk)
          have k2 : y.k < 32 := by omega
          obtain ⟨u, hu⟩ := getElem?_some_of_lt (l := vsets R.1 (E.w.take j)) (k := y.k.toNat) (by rw [vsets_length, hVl'.out]; omega)
          have d0 := rj.cell hu
          have f0 := rj.frozen y.k.toNat
          have hLj := rj.lts
          have RJ := Lib.hid rj
          have Hs := Lib.hid (vsets_snoc R.1 hyk)
          clear hcc hyk hu rj
          go_wp2_with fail
          go_roundw
          case rel => exact ⟨j + 1, by go_num, by omega, ExtR.of (grownBy_trans (GB.alloc z5.grown _) (grownBy_set _ _ _)), by rw [Hs.out]; exact (RJ.out.alloc _).set _ _⟩
          case measure => simp [intOf]; omega
        · obtain rfl : j = E.w.length := by omega
          rw [List.take_length] at rj
          have RJ := Lib.hid rj
          have r15 : Row 99 z5.val (w.heap.size + 1) zeros := (z5.block hL51.lt hNw.ne).trans R15.out
          have OEZ := Lib.hid (OE.keepR OE5.out z5.grown (by omega))
          have Q1Z := Lib.hid (Own.kept Q15.out z5.grown (Q15.out.ne_rb (by omega)))
          have Q2Z := Lib.hid (Own.kept Q25.out z5.grown (Q25.out.ne_rb (by omega)))
          have eG := (z5.block hL5G.lt hN5.ne).trans E5.out
          have g50 : z5.val.cell? ⟨G5, 0, none⟩ = some (.bool E.d) := cell_of_row _ _ 0 _ _ _ eG
          have g51 : z5.val.cell? ⟨G5, 1, none⟩ = some (.slice p1 E.r.length cc1) := cell_of_row _ _ 1 _ _ _ eG
          have g52 : z5.val.cell? ⟨G5, 2, none⟩ = some (.slice p2 E.w.length cc2) := cell_of_row _ _ 2 _ _ _ eG
          have HEZ : Hid (Ext w z5.val) := Lib.hid (HE5.out.upR (Nat.le_refl _) z5)
          have hszz : W5.heap.size ≤ z5.val.heap.size := z5.grown.size
          have R1Z := Lib.hid r15
          have hL5l := hL5.lt
          have hL51l := hL51.lt
          clear rj r15 eG
          go_wp2_with (at_builtin; refine wpList_pushG fEff rfl (.tmp 34) (.tmp 36) rfl TE.enc TE.enc_length w (lo := w.heap.size + 1 + 1) [⟨E.d, .slice p1 E.r.length cc1, .slice p2 E.w.length cc2, E.r, E.w⟩] ts rfl OEZ.out.1 HEZ.out (by omega) (by omega) rfl rfl (by go_simp) rfl (oneTE _ (by intro y hy; simp at hy; subst hy; exact ⟨⟨_, _, _, rfl⟩, ⟨_, _, _, rfl⟩⟩)) (by simp; omega) (by simp; omega) ?_; intro v7 z7 o7 g7 b7)
          have S0 := Lib.hid (rowKept OEZ.out.1 (by omega) RJ.out.eq g7)
          have S1 := Lib.hid (rowKept OEZ.out.1 (by omega) R1Z.out.eq g7)
          have OE7 := Lib.hid (OE.snoc (OEZ.out.up (by repeat (first | (with_reducible exact Ext.refl _) | (with_reducible refine Ext.up ?_ _) | (with_reducible refine Ext.alloc ?_ _) | (with_reducible refine Ext.drew ?_) | (with_reducible refine Ext.setRow ?_ (by first | exact LeS.le | exact LeS.add _ | (simp; done) | (simp; omega)) _) | (with_reducible refine Ext.setCell ?_ (by first | exact LeS.le | exact LeS.add _ | (simp; done) | (simp; omega)) _)))) g7 b7 o7 (Q1Z.out.up (by repeat (first | (with_reducible exact Ext.refl _) | (with_reducible refine Ext.up ?_ _) | (with_reducible refine Ext.alloc ?_ _) | (with_reducible refine Ext.drew ?_) | (with_reducible refine Ext.setRow ?_ (by first | exact LeS.le | exact LeS.add _ | (simp; done) | (simp; omega)) _) | (with_reducible refine Ext.setCell ?_ (by first | exact LeS.le | exact LeS.add _ | (simp; done) | (simp; omega)) _)))) A1.out (Q2Z.out.up (by repeat (first | (with_reducible exact Ext.refl _) | (with_reducible refine Ext.up ?_ _) | (with_reducible refine Ext.alloc ?_ _) | (with_reducible refine Ext.drew ?_) | (with_reducible refine Ext.setRow ?_ (by first | exact LeS.le | exact LeS.add _ | (simp; done) | (simp; omega)) _) | (with_reducible refine Ext.setCell ?_ (by first | exact LeS.le | exact LeS.add _ | (simp; done) | (simp; omega)) _)))) A2.out)
          clear o7 g7 b7
          go_wp2_with fail
          go_roundw
          case rel =>
            refine ⟨k + 1, _, by go_num, by omega, ⟨z7, rfl⟩, ?_, S1.out, OE7.out, ?_⟩
            · rw [Hsn.out]
              show Row 99 z7.val w.heap.size (vsets R.1 (runV R.1 x).w)
              rw [HE.out]
              exact S0.out
            · rw [Hsn.out]
              show _ = R.2 ++ [runV R.1 x]
              rw [HE.out, List.map_append, Hts.out]; rfl
          case measure => simp [intOf]; omega
    · obtain rfl : k = l.length := by omega
      rw [List.take_length] at r0 Hts
      have hRl : (runAll v l).1.length = 32 := runStep_len Hv.out
      have R0 := Lib.hid r0; have R1 := Lib.hid r1
      clear hcl r0 r1
      go_wp2_with (first | (refine wpList_load_row rfl _ _ rfl _ rfl _ _ _ _ R0.out.eq Try.underlying99 rfl (by rw [vA_size, hRl]; exact Try.sVals) ?_) | (refine wpList_store_row rfl _ _ _ rfl _ _ rfl rfl _ _ R1.out.eq (by rw [vA_size, hRl]; exact Try.sVals) (by rw [vA_size, vA_size, hRl, zeros_length]) (vA_one _) ?_))
      refine bodyPost_ret (results_cell_row2 (p := 4) (q := 5) (by kernel_rfl) _ _ (w.heap.size + 1) _ (vA (runAll v l).1) (0, 0) _ rfl rfl (R1.out.setRow _).eq Try.underlying99 rfl (by rw [vA_size, hRl]; exact Try.sVals)) rfl ⟨_, ts, rfl, (.of (by repeat (first | exact Ext.refl _ | refine Ext.up ?_ _ | refine Ext.alloc ?_ _ | refine Ext.drew ?_ | refine Ext.setRow ?_ (by first | (dsimp only; omega) | exact LeS.le | exact LeS.add _ | (simp; done) | (simp; omega)) _ | refine Ext.setCell ?_ (by first | (dsimp only; omega) | exact LeS.le | exact LeS.add _ | (simp; done) | (simp; omega)) _))), (OE.keepR Hoe.out (grownBy_setRow _ _ _) (by omega)).lo (by omega), Hts.out⟩
end Go.Proofs.Ytkboefmkfpnpjaa
namespace Go.Proofs.Ytkboefmkfpnpjaa
open Go Go.RowKit Go.Proofs

/-- All reads and writes of effects lie apart. -/
def PW (ts : List TE) : Prop := (∀ x ∈ ts, Apart x.vr x.vw) ∧ ts.Pairwise fun x y => (Apart x.vr y.vr ∧ Apart x.vr y.vw) ∧ (Apart x.vw y.vr ∧ Apart x.vw y.vw)
theorem PW.nil : PW [] := ⟨by simp, List.Pairwise.nil⟩
theorem PW.snoc {ts : List TE} {x : TE} (h : PW ts) (hx : Apart x.vr x.vw) (hy : ∀ y ∈ ts, (Apart y.vr x.vr ∧ Apart y.vr x.vw) ∧ (Apart y.vw x.vr ∧ Apart y.vw x.vw)) : PW (ts ++ [x]) := by
  refine ⟨fun y hm => ?_, ?_⟩
  · rcases List.mem_append.1 hm with hm | hm
    · exact h.1 y hm
    · rw [List.mem_singleton] at hm; subst hm; exact hx
  · rw [List.pairwise_append]
    refine ⟨h.2, List.pairwise_singleton _ _, fun a ha b hb => ?_⟩
    rw [List.mem_singleton] at hb; subst hb
    exact hy a ha
set_option maxRecDepth 100000 in
set_option maxHeartbeats 4000000 in
theorem runAll_anyP (v : List Int) (l : List Actn) (vl : Value) (w : World) (hl : SL (RF Actn.enc) 4 w vl l) (hv : v.length = 32) (hvi : valsIn v) (hok : ∀ x ∈ l, x.ok = true) (hlen : l.length ≤ 1000000) :
    Calls Try.prog 70 #[.agg (vA v), vl] w fun e w' => ∃ v2 ts, e = .returned (.tuple #[.agg (vA (runAll v l).1), v2]) ∧ Up w w' ∧ OE 40 31 w.heap.size w' v2 ts ∧ ts.map TE.core = (runAll v l).2 ∧ PW ts := by
  obtain ⟨p3, c3, rfl, hll, hcl⟩ := hl.open
  have Hl := Lib.hid hl; have Hvi := Lib.hid hvi; have Hok := Lib.hid hok; have Hv := Lib.hid hv
  clear hl hvi hok hv
  go_enter Try.func70, Try.ntmps70
  go_wp2_with fail
  go_loopw [6, 14] (fun s6 s14 wr => ∃ (k : Nat) (ts : List TE), s14 = .int .i64 k ∧ k ≤ l.length ∧ Up w wr ∧ Row 99 wr w.heap.size (runAll v (l.take k)).1 ∧ Row 99 wr (w.heap.size + 1) zeros ∧ OE 40 31 (w.heap.size + 1 + 1) wr s6 ts ∧ ts.map TE.core = (runAll v (l.take k)).2 ∧ PW ts) (fun _ s14 _ => l.length - (intOf s14).toNat)
  case atStart => exact ⟨0, [], rfl, Nat.zero_le _, (.of (by repeat (first | (with_reducible exact Ext.refl _) | (with_reducible refine Ext.up ?_ _) | (with_reducible refine Ext.alloc ?_ _) | (with_reducible refine Ext.drew ?_) | (with_reducible refine Ext.setRow ?_ (by first | exact LeS.le | exact LeS.add _ | (simp; done) | (simp; omega)) _) | (with_reducible refine Ext.setCell ?_ (by first | exact LeS.le | exact LeS.add _ | (simp; done) | (simp; omega)) _)))), Row.of_eq (heap_alloc2_old _ _ _) rfl, Row.of_eq (heap_alloc2_new _ _ _) vA_zeros.symm, ⟨Own.nil _ _ _ _ _, by simp⟩, rfl, PW.nil⟩
  case round =>
    obtain ⟨k, ts, rfl, hk, ⟨z, rfl⟩, r0, r1, hoe, hts, hpw⟩ := hrel
    have htl : ts.length ≤ 1000000 := by rw [← List.length_map (f := TE.core), hts, runAll_len, List.length_take]; omega
    have Hoe := Lib.hid hoe; have Hts := Lib.hid hts; have Hpw := Lib.hid hpw
    clear hoe hts hpw
    by_cases hlt : k < l.length
    · obtain ⟨x, hxk⟩ := getElem?_some_of_lt hlt
      obtain ⟨g, off, hp, hb, _⟩ := hcl k x hxk
      obtain ⟨c0, c1, c2, c3⟩ := acell hcl hp hxk
      subst hp
      have hxo := Hok.out x (List.mem_of_getElem? hxk)
      have hVi : valsIn (runAll v (l.take k)).1 := runAll_in Hvi.out fun y hy => Hok.out y (List.mem_of_mem_take hy)
      have hVl : (runAll v (l.take k)).1.length = 32 := runStep_len Hv.out
      have Hsn := Lib.hid (runAll_snoc v hxk)
      generalize hR : runAll v (l.take k) = R at *
      have kr := fun w => run_any x R.1 w hVl hVi hxo
      have hei := Lib.hid (fun e he => entsOk_mem (runV_ok hVi hxo) (x := e) he)
      have hVl' := Lib.hid hVl
      have hwl := entsOk_len (runV_ok hVi hxo)
      clear hcl hxk hVi hxo hR hVl
      generalize hE : runV R.1 x = E at *
      have HE := Lib.hid hE; clear hE
      have hL0 := r0.lts
      have hL1 := r1.lts
      have R0 := Lib.hid r0; have R1 := Lib.hid r1
      clear r0 r1
      go_wp2_with (first | (refine wpList_load_row rfl _ _ rfl _ rfl _ _ _ _ (R0.out.up (by repeat (first | (with_reducible exact Ext.refl _) | (with_reducible refine Ext.up ?_ _) | (with_reducible refine Ext.alloc ?_ _) | (with_reducible refine Ext.drew ?_) | (with_reducible refine Ext.setRow ?_ (by first | exact LeS.le | exact LeS.add _ | (simp; done) | (simp; omega)) _) | (with_reducible refine Ext.setCell ?_ (by first | exact LeS.le | exact LeS.add _ | (simp; done) | (simp; omega)) _)))).eq Try.underlying99 rfl (by rw [vA_size, hVl'.out]; exact Try.sVals) ?_) | ((go_at_call 83; refine (kr _).mono ?_; rintro e w' ⟨vr, vw, rfl, ⟨z4, rfl⟩, q1, q2, ap⟩); obtain ⟨p1, cc1, rfl, _, _⟩ := (q1.sl Ent.enc_length).openc; obtain ⟨p2, cc2, rfl, _, hw2⟩ := (q2.sl Ent.enc_length).open; have Q1 := Lib.hid q1; have Q2 := Lib.hid q2; have HW2 := Lib.hid hw2; have AP := Lib.hid ap; clear q1 q2 ap hw2))
      have hsz : w.heap.size + 1 < z.val.heap.size := hL1.lt
      have hsz4 : z.val.heap.size < z4.val.heap.size := by have := z4.ext.size; simp at this; omega
      have r05 := R0.out.up (show Ext z.val (z4.val.alloc (.cells #[.bool E.d, .slice p1 E.r.length cc1, .slice p2 E.w.length cc2] 40)) from (by repeat (first | (with_reducible exact Ext.refl _) | (with_reducible refine Ext.up ?_ _) | (with_reducible refine Ext.alloc ?_ _) | (with_reducible refine Ext.drew ?_) | (with_reducible refine Ext.setRow ?_ (by first | exact LeS.le | exact LeS.add _ | (simp; done) | (simp; omega)) _) | (with_reducible refine Ext.setCell ?_ (by first | exact LeS.le | exact LeS.add _ | (simp; done) | (simp; omega)) _))))
      have r15 := R1.out.up (show Ext z.val (z4.val.alloc (.cells #[.bool E.d, .slice p1 E.r.length cc1, .slice p2 E.w.length cc2] 40)) from (by repeat (first | (with_reducible exact Ext.refl _) | (with_reducible refine Ext.up ?_ _) | (with_reducible refine Ext.alloc ?_ _) | (with_reducible refine Ext.drew ?_) | (with_reducible refine Ext.setRow ?_ (by first | exact LeS.le | exact LeS.add _ | (simp; done) | (simp; omega)) _) | (with_reducible refine Ext.setCell ?_ (by first | exact LeS.le | exact LeS.add _ | (simp; done) | (simp; omega)) _))))
      have oe5 := Hoe.out.up (show Ext z.val (z4.val.alloc (.cells #[.bool E.d, .slice p1 E.r.length cc1, .slice p2 E.w.length cc2] 40)) from (by repeat (first | (with_reducible exact Ext.refl _) | (with_reducible refine Ext.up ?_ _) | (with_reducible refine Ext.alloc ?_ _) | (with_reducible refine Ext.drew ?_) | (with_reducible refine Ext.setRow ?_ (by first | exact LeS.le | exact LeS.add _ | (simp; done) | (simp; omega)) _) | (with_reducible refine Ext.setCell ?_ (by first | exact LeS.le | exact LeS.add _ | (simp; done) | (simp; omega)) _))))
      have q15 := Q1.out.up (show Ext z4.val (z4.val.alloc (.cells #[.bool E.d, .slice p1 E.r.length cc1, .slice p2 E.w.length cc2] 40)) from (by repeat (first | (with_reducible exact Ext.refl _) | (with_reducible refine Ext.up ?_ _) | (with_reducible refine Ext.alloc ?_ _) | (with_reducible refine Ext.drew ?_) | (with_reducible refine Ext.setRow ?_ (by first | exact LeS.le | exact LeS.add _ | (simp; done) | (simp; omega)) _) | (with_reducible refine Ext.setCell ?_ (by first | exact LeS.le | exact LeS.add _ | (simp; done) | (simp; omega)) _))))
      have q25 := Q2.out.up (show Ext z4.val (z4.val.alloc (.cells #[.bool E.d, .slice p1 E.r.length cc1, .slice p2 E.w.length cc2] 40)) from (by repeat (first | (with_reducible exact Ext.refl _) | (with_reducible refine Ext.up ?_ _) | (with_reducible refine Ext.alloc ?_ _) | (with_reducible refine Ext.drew ?_) | (with_reducible refine Ext.setRow ?_ (by first | exact LeS.le | exact LeS.add _ | (simp; done) | (simp; omega)) _) | (with_reducible refine Ext.setCell ?_ (by first | exact LeS.le | exact LeS.add _ | (simp; done) | (simp; omega)) _))))
      have hE5 : Ext w (z4.val.alloc (.cells #[.bool E.d, .slice p1 E.r.length cc1, .slice p2 E.w.length cc2] 40)) := (by repeat (first | (with_reducible exact Ext.refl _) | (with_reducible refine Ext.up ?_ _) | (with_reducible refine Ext.alloc ?_ _) | (with_reducible refine Ext.drew ?_) | (with_reducible refine Ext.setRow ?_ (by first | exact LeS.le | exact LeS.add _ | (simp; done) | (simp; omega)) _) | (with_reducible refine Ext.setCell ?_ (by first | exact LeS.le | exact LeS.add _ | (simp; done) | (simp; omega)) _)))
      have e5 : (z4.val.alloc (.cells #[.bool E.d, .slice p1 E.r.length cc1, .slice p2 E.w.length cc2] 40)).heap[z4.val.heap.size]? = some (.cells #[.bool E.d, .slice p1 E.r.length cc1, .slice p2 E.w.length cc2] 40 (0, 0)) := heap_alloc_new _ _
      have hw5 : ∀ (k : Nat) (y : Ent), E.w[k]? = some y → ∃ b off, p2 = some ⟨b, off, none⟩ ∧ w.heap.size < b ∧ LtS b (z4.val.alloc (.cells #[.bool E.d, .slice p1 E.r.length cc1, .slice p2 E.w.length cc2] 40)) ∧ ∀ j u, y.enc[j]? = some u → (z4.val.alloc (.cells #[.bool E.d, .slice p1 E.r.length cc1, .slice p2 E.w.length cc2] 40)).cell? ⟨b, off + k * 2 + j, none⟩ = some u := by
        intro k y hy
        obtain ⟨b, off, rfl, hlb, hcc⟩ := HW2.out k y hy
        have := (World.ownsRow.lt Q2.out b rfl).1
        simp at this
        refine ⟨b, off, rfl, by omega, inferInstance, fun j u hu => (LtS.cell_alloc _ _ _).trans (hcc j u hu)⟩
      have A1 := Lib.hid (Apart.of_lt Hoe.out.1 Q1.out (by simp)).symm
      have A2 := Lib.hid (Apart.of_lt Hoe.out.1 Q2.out (by simp)).symm
      have AY := Lib.hid (fun y (hy : y ∈ ts) => (⟨⟨Apart.of_lt (Hoe.out.2 y hy).1.1 Q1.out (by simp), Apart.of_lt (Hoe.out.2 y hy).1.1 Q2.out (by simp)⟩, ⟨Apart.of_lt (Hoe.out.2 y hy).2.1 Q1.out (by simp), Apart.of_lt (Hoe.out.2 y hy).2.1 Q2.out (by simp)⟩⟩ : (Apart y.vr (.slice p1 E.r.length cc1) ∧ Apart y.vr (.slice p2 E.w.length cc2)) ∧ (Apart y.vw (.slice p1 E.r.length cc1) ∧ Apart y.vw (.slice p2 E.w.length cc2))))
      have hlo : w.heap.size + 1 + 1 ≤ (z.val.alloc (.cells #[.int .i64 x.kind, .int .i64 x.src, .int .i64 x.dst, .int .i64 x.amt] 24)).heap.size := by simp; omega
      have hlt5 : z4.val.heap.size < (z4.val.alloc (.cells #[.bool E.d, .slice p1 E.r.length cc1, .slice p2 E.w.length cc2] 40)).heap.size := by simp
      generalize z4.val.alloc (.cells #[.bool E.d, .slice p1 E.r.length cc1, .slice p2 E.w.length cc2] 40) = W5 at *
      generalize z4.val.heap.size = G5 at *
      have HW5 := Lib.hid hw5; have R05 := Lib.hid r05; have R15 := Lib.hid r15; have OE5 := Lib.hid oe5; have Q15 := Lib.hid (q15.lo hlo); have Q25 := Lib.hid (q25.lo hlo); have HE5 := Lib.hid hE5; have E5 := Lib.hid e5
      have hL5 : LtS w.heap.size W5 := ⟨by omega⟩
      have hL51 : LtS (w.heap.size + 1) W5 := ⟨by omega⟩
      have hL5G : LtS G5 W5 := ⟨hlt5⟩
      have hN5 : NeS G5 w.heap.size := ⟨by omega⟩
      have hNw : NeS (w.heap.size + 1) w.heap.size := ⟨by omega⟩
      clear hw5 r05 r15 oe5 q15 q25 hE5 e5 HW2 Q1 Q2 hlo hlt5 R0 R1 kr
      go_loopw [24] (fun s24 wr => ∃ (j : Nat), s24 = .int .i64 j ∧ j ≤ E.w.length ∧ (∃ z5 : ExtR w.heap.size W5, wr = z5.val) ∧ Row 99 wr w.heap.size (vsets R.1 (E.w.take j))) (fun s24 _ => E.w.length - (intOf s24).toNat)
      case atStart => exact ⟨0, rfl, Nat.zero_le _, ⟨⟨W5, grownBy_refl _ _⟩, rfl⟩, R05.out⟩
      case round =>
        obtain ⟨j, rfl, hj, ⟨z5, rfl⟩, rj⟩ := hrel
        by_cases hjl : j < E.w.length
        · obtain ⟨y, hyk⟩ := getElem?_some_of_lt hjl
          obtain ⟨b, offb, rfl, hbw, hlb, hcc⟩ := HW5.out j y hyk
          have hNb : NeS b w.heap.size := ⟨by omega⟩
          have y0 : W5.cell? ⟨b, offb + j * 2, none⟩ = some (.int .i64 y.k) := hcc 0 _ rfl
          have y1 : W5.cell? ⟨b, offb + j * 2 + 1, none⟩ = some (.int .i64 y.v) := hcc 1 _ rfl
          obtain ⟨k0, k1, _, _⟩ := hei.out y (List.mem_of_getElem? hyk)
          have k2 : y.k < 32 := by omega
          obtain ⟨u, hu⟩ := getElem?_some_of_lt (l := vsets R.1 (E.w.take j)) (k := y.k.toNat) (by rw [vsets_length, hVl'.out]; omega)
          have d0 := rj.cell hu
          have f0 := rj.frozen y.k.toNat
          have hLj := rj.lts
          have RJ := Lib.hid rj
          have Hs := Lib.hid (vsets_snoc R.1 hyk)
          clear hcc hyk hu rj
          go_wp2_with fail
          go_roundw
          case rel => exact ⟨j + 1, by go_num, by omega, ExtR.of (grownBy_trans (GB.alloc z5.grown _) (grownBy_set _ _ _)), by rw [Hs.out]; exact (RJ.out.alloc _).set _ _⟩
          case measure => simp [intOf]; omega
        · obtain rfl : j = E.w.length := by omega
          rw [List.take_length] at rj
          have RJ := Lib.hid rj
          have r15 : Row 99 z5.val (w.heap.size + 1) zeros := (z5.block hL51.lt hNw.ne).trans R15.out
          have OEZ := Lib.hid (OE.keepR OE5.out z5.grown (by omega))
          have Q1Z := Lib.hid (Own.kept Q15.out z5.grown (Q15.out.ne_rb (by omega)))
          have Q2Z := Lib.hid (Own.kept Q25.out z5.grown (Q25.out.ne_rb (by omega)))
          have eG := (z5.block hL5G.lt hN5.ne).trans E5.out
          have g50 : z5.val.cell? ⟨G5, 0, none⟩ = some (.bool E.d) := cell_of_row _ _ 0 _ _ _ eG
          have g51 : z5.val.cell? ⟨G5, 1, none⟩ = some (.slice p1 E.r.length cc1) := cell_of_row _ _ 1 _ _ _ eG
          have g52 : z5.val.cell? ⟨G5, 2, none⟩ = some (.slice p2 E.w.length cc2) := cell_of_row _ _ 2 _ _ _ eG
          have HEZ : Hid (Ext w z5.val) := Lib.hid (HE5.out.upR (Nat.le_refl _) z5)
          have hszz : W5.heap.size ≤ z5.val.heap.size := z5.grown.size
          have R1Z := Lib.hid r15
          have hL5l := hL5.lt
          have hL51l := hL51.lt
          clear rj r15 eG
          go_wp2_with (at_builtin; refine wpList_pushG fEff rfl (.tmp 34) (.tmp 36) rfl TE.enc TE.enc_length w (lo := w.heap.size + 1 + 1) [⟨E.d, .slice p1 E.r.length cc1, .slice p2 E.w.length cc2, E.r, E.w⟩] ts rfl OEZ.out.1 HEZ.out (by omega) (by omega) rfl rfl (by go_simp) rfl (oneTE _ (by intro y hy; simp at hy; subst hy; exact ⟨⟨_, _, _, rfl⟩, ⟨_, _, _, rfl⟩⟩)) (by simp; omega) (by simp; omega) ?_; intro v7 z7 o7 g7 b7)
          have S0 := Lib.hid (rowKept OEZ.out.1 (by omega) RJ.out.eq g7)
          have S1 := Lib.hid (rowKept OEZ.out.1 (by omega) R1Z.out.eq g7)
          have OE7 := Lib.hid (OE.snoc (OEZ.out.up (by repeat (first | (with_reducible exact Ext.refl _) | (with_reducible refine Ext.up ?_ _) | (with_reducible refine Ext.alloc ?_ _) | (with_reducible refine Ext.drew ?_) | (with_reducible refine Ext.setRow ?_ (by first | exact LeS.le | exact LeS.add _ | (simp; done) | (simp; omega)) _) | (with_reducible refine Ext.setCell ?_ (by first | exact LeS.le | exact LeS.add _ | (simp; done) | (simp; omega)) _)))) g7 b7 o7 (Q1Z.out.up (by repeat (first | (with_reducible exact Ext.refl _) | (with_reducible refine Ext.up ?_ _) | (with_reducible refine Ext.alloc ?_ _) | (with_reducible refine Ext.drew ?_) | (with_reducible refine Ext.setRow ?_ (by first | exact LeS.le | exact LeS.add _ | (simp; done) | (simp; omega)) _) | (with_reducible refine Ext.setCell ?_ (by first | exact LeS.le | exact LeS.add _ | (simp; done) | (simp; omega)) _)))) A1.out (Q2Z.out.up (by repeat (first | (with_reducible exact Ext.refl _) | (with_reducible refine Ext.up ?_ _) | (with_reducible refine Ext.alloc ?_ _) | (with_reducible refine Ext.drew ?_) | (with_reducible refine Ext.setRow ?_ (by first | exact LeS.le | exact LeS.add _ | (simp; done) | (simp; omega)) _) | (with_reducible refine Ext.setCell ?_ (by first | exact LeS.le | exact LeS.add _ | (simp; done) | (simp; omega)) _)))) A2.out)
          clear o7 g7 b7
          go_wp2_with fail
          go_roundw
          case rel =>
            refine ⟨k + 1, _, by go_num, by omega, ⟨z7, rfl⟩, ?_, S1.out, OE7.out, ?_, PW.snoc Hpw.out AP.out AY.out⟩
            · rw [Hsn.out]
              show Row 99 z7.val w.heap.size (vsets R.1 (runV R.1 x).w)
              rw [HE.out]
              exact S0.out
            · rw [Hsn.out]
              show _ = R.2 ++ [runV R.1 x]
              rw [HE.out, List.map_append, Hts.out]; rfl
          case measure => simp [intOf]; omega
    · obtain rfl : k = l.length := by omega
      rw [List.take_length] at r0 Hts
      have hRl : (runAll v l).1.length = 32 := runStep_len Hv.out
      have R0 := Lib.hid r0; have R1 := Lib.hid r1
      clear hcl r0 r1
      go_wp2_with (first | (refine wpList_load_row rfl _ _ rfl _ rfl _ _ _ _ R0.out.eq Try.underlying99 rfl (by rw [vA_size, hRl]; exact Try.sVals) ?_) | (refine wpList_store_row rfl _ _ _ rfl _ _ rfl rfl _ _ R1.out.eq (by rw [vA_size, hRl]; exact Try.sVals) (by rw [vA_size, vA_size, hRl, zeros_length]) (vA_one _) ?_))
      refine bodyPost_ret (results_cell_row2 (p := 4) (q := 5) (by kernel_rfl) _ _ (w.heap.size + 1) _ (vA (runAll v l).1) (0, 0) _ rfl rfl (R1.out.setRow _).eq Try.underlying99 rfl (by rw [vA_size, hRl]; exact Try.sVals)) rfl ⟨_, ts, rfl, (.of (by repeat (first | exact Ext.refl _ | refine Ext.up ?_ _ | refine Ext.alloc ?_ _ | refine Ext.drew ?_ | refine Ext.setRow ?_ (by first | (dsimp only; omega) | exact LeS.le | exact LeS.add _ | (simp; done) | (simp; omega)) _ | refine Ext.setCell ?_ (by first | (dsimp only; omega) | exact LeS.le | exact LeS.add _ | (simp; done) | (simp; omega)) _))), (OE.keepR Hoe.out (grownBy_setRow _ _ _) (by omega)).lo (by omega), Hts.out, Hpw.out⟩
end Go.Proofs.Ytkboefmkfpnpjaa
