/- Walks: actions one after the other, on the program's side. Walk: impl.RunSerial on a valid store and valid actions. Walks: drawn effects. Walks: dropping versions. -/
import Derived.Test.YtkboefmkfpnpjaaGCflTop14
import Derived.Test.YtkboefmkfpnpjaaGCflTop15
import Derived.Test.YtkboefmkfpnpjaaGCflTop17
import Derived.Test.YtkboefmkfpnpjaaGCflTop18
import Derived.Test.YtkboefmkfpnpjaaGCflTop03
import Derived.Test.YtkboefmkfpnpjaaGCflTop01
set_option linter.unusedSimpArgs false
set_option linter.unusedVariables false
namespace Go.Proofs.Ytkboefmkfpnpjaa
open Go Go.RowKit Go.Proofs

theorem OE.keepR {eT eE lo rb : Nat} {w w' : World} {v : Value} {ts : List TE} (h : OE eT eE lo w v ts) (hg : w.grownBy w' (some rb)) (hlt : rb < lo) : OE eT eE lo w' v ts :=
  ⟨Own.kept h.1 hg (h.1.ne_rb hlt), fun x hx => ⟨⟨Own.kept (h.2 x hx).1.1 hg ((h.2 x hx).1.1.ne_rb hlt), (h.2 x hx).1.2⟩, ⟨Own.kept (h.2 x hx).2.1 hg ((h.2 x hx).2.1.ne_rb hlt), (h.2 x hx).2.2⟩⟩⟩
theorem runStep_len {v : List Int} {l : List Actn} (hv : v.length = 32) : (runAll v l).1.length = 32 := by
  have key : ∀ (l : List Actn) (p : List Int × List Eff), (l.foldl runStep p).1.length = p.1.length := by
    intro l
    induction l with
    | nil => intro p; rfl
    | cons x l ih => intro p; rw [List.foldl_cons, ih]; exact vsets_length _ _
  exact (key l (v, [])).trans hv
theorem rowKept {α : Type} {enc : α → List Value} {e sz lo rb : Nat} {W1 w7 : World} {v : Value} {l : List α} {o r : Obj} (hown : Own enc e sz lo W1 v l) (hlt : rb < lo) (hr : W1.heap[rb]? = some r) (g8 : (W1.alloc o).grownBy w7 v.ownBlock) : w7.heap[rb]? = some r := by
  have hs : rb < W1.heap.size := (Array.getElem?_eq_some_iff.1 hr).1
  refine (g8.block rb (by simp; omega) (fun e => ?_)).trans ((heap_alloc_old W1 o hs).trans hr)
  rcases hown.ne_rb hlt with h | h
  · rw [h] at e; cases e
  · exact h e.symm
theorem grownBy_setRow (a : World) (g : Nat) (cs : Array Value) : a.grownBy (a.setRow g cs) (some g) :=
  ⟨rfl, rfl, rfl, by simp [World.setRow], fun n hn hne => setRow_other a g n cs (fun e => hne (by rw [e]))⟩
set_option maxRecDepth 100000 in
set_option maxHeartbeats 4000000 in
theorem runAll_any (v : List Int) (l : List Actn) (vl : Value) (w : World) (hl : SL (RF Actn.enc) 4 w vl l) (hv : v.length = 32) (hvi : valsIn v) (hok : ∀ x ∈ l, x.ok = true) (hlen : l.length ≤ 1000000) :
    Calls Try.prog 70 #[.agg (vA v), vl] w fun e w' => ∃ v2 ts, e = .returned (.tuple #[.agg (vA (runAll v l).1), v2]) ∧ Up w w' ∧ OE 40 31 w.heap.size w' v2 ts ∧ ts.map TE.core = (runAll v l).2 := by
  obtain ⟨p3, c3, rfl, hll, hcl⟩ := hl.open
  have Hl := Lib.hid hl; have Hvi := Lib.hid hvi; have Hok := Lib.hid hok; have Hv := Lib.hid hv
  clear hl hvi hok hv
  go_enter Try.func70, Try.ntmps70
  go_wp2_with fail
  go_loopw [6, 14] (fun s6 s14 wr => ∃ (k : Nat) (ts : List TE), s14 = .int .i64 k ∧ k ≤ l.length ∧ Up w wr ∧ Row 99 wr w.heap.size (runAll v (l.take k)).1 ∧ Row 99 wr (w.heap.size + 1) zeros ∧ OE 40 31 (w.heap.size + 1 + 1) wr s6 ts ∧ ts.map TE.core = (runAll v (l.take k)).2) (fun _ s14 _ => l.length - (intOf s14).toNat)
  case atStart => exact ⟨0, [], rfl, Nat.zero_le _, (.of (by repeat (first | (with_reducible exact Ext.refl _) | (with_reducible refine Ext.up ?_ _) | (with_reducible refine Ext.alloc ?_ _) | (with_reducible refine Ext.drew ?_) | (with_reducible refine Ext.setRow ?_ (by first | exact LeS.le | exact LeS.add _ | (simp; done) | (simp; omega)) _) | (with_reducible refine Ext.setCell ?_ (by first | exact LeS.le | exact LeS.add _ | (simp; done) | (simp; omega)) _)))), Row.of_eq (heap_alloc2_old _ _ _) rfl, Row.of_eq (heap_alloc2_new _ _ _) vA_zeros.symm, ⟨Own.nil _ _ _ _ _, by simp⟩, rfl⟩
  case round =>
    obtain ⟨k, ts, rfl, hk, ⟨z, rfl⟩, r0, r1, hoe, hts⟩ := hrel
    have htl : ts.length ≤ 1000000 := by rw [← List.length_map (f := TE.core), hts, runAll_len, List.length_take]; omega
    have Hoe := Lib.hid hoe; have Hts := Lib.hid hts
    clear hoe hts
    by_cases hlt : k < l.length
    · obtain ⟨x, hxk⟩ := getElem?_some_of_lt hlt
      obtain ⟨g, off, hp, hb, _⟩ := hcl k x hxk
      obtain ⟨c0, c1, c2, c3⟩ := acell hcl hp hxk
      subst hp
      have hxo := Hok.out x (List.mem_of_getElem? hxk)
      have hVi : valsIn (runAll v (l.take k)).1 := runAll_in Hvi.out fun y hy => Hok.out y (List.mem_of_mem_take hy)
      have hVl : (runAll v (l.take k)).1.length = 32 := runStep_len Hv.out
      have Hsn := Lib.hid (runAll_snoc v hxk)
      generalize hR : runAll v (l.take k) = R at *
      have kr := fun w => run_any x R.1 w hVl hVi hxo
      have hei := Lib.hid (fun e he => entsOk_mem (runV_ok hVi hxo) (x := e) he)
      have hVl' := Lib.hid hVl
      have hwl := entsOk_len (runV_ok hVi hxo)
      clear hcl hxk hVi hxo hR hVl
      generalize hE : runV R.1 x = E at *
      have HE := Lib.hid hE; clear hE
      have hL0 := r0.lts
      have hL1 := r1.lts
      have R0 := Lib.hid r0; have R1 := Lib.hid r1
      clear r0 r1
      go_wp2_with (first | (refine wpList_load_row rfl _ _ rfl _ rfl _ _ _ _ (R0.out.up (by repeat (first | (with_reducible exact Ext.refl _) | (with_reducible refine Ext.up ?_ _) | (with_reducible refine Ext.alloc ?_ _) | (with_reducible refine Ext.drew ?_) | (with_reducible refine Ext.setRow ?_ (by first | exact LeS.le | exact LeS.add _ | (simp; done) | (simp; omega)) _) | (with_reducible refine Ext.setCell ?_ (by first | exact LeS.le | exact LeS.add _ | (simp; done) | (simp; omega)) _)))).eq Try.underlying99 rfl (by rw [vA_size, hVl'.out]; exact Try.sVals) ?_) | ((go_at_call 83; refine (kr _).mono ?_; rintro e w' ⟨vr, vw, rfl, ⟨z4, rfl⟩, q1, q2, ap⟩); obtain ⟨p1, cc1, rfl, _, _⟩ := (q1.sl Ent.enc_length).openc; obtain ⟨p2, cc2, rfl, _, hw2⟩ := (q2.sl Ent.enc_length).open; have Q1 := Lib.hid q1; have Q2 := Lib.hid q2; have HW2 := Lib.hid hw2; clear q1 q2 ap hw2))
      have hsz : w.heap.size + 1 < z.val.heap.size := hL1.lt
      have hsz4 : z.val.heap.size < z4.val.heap.size := by have := z4.ext.size; simp at this; omega
      have r05 := R0.out.up (show Ext z.val (z4.val.alloc (.cells #[.bool E.d, .slice p1 E.r.length cc1, .slice p2 E.w.length cc2] 40)) from (by repeat (first | (with_reducible exact Ext.refl _) | (with_reducible refine Ext.up ?_ _) | (with_reducible refine Ext.alloc ?_ _) | (with_reducible refine Ext.drew ?_) | (with_reducible refine Ext.setRow ?_ (by first | exact LeS.le | exact LeS.add _ | (simp; done) | (simp; omega)) _) | (with_reducible refine Ext.setCell ?_ (by first | exact LeS.le | exact LeS.add _ | (simp; done) | (simp; omega)) _))))
      have r15 := R1.out.up (show Ext z.val (z4.val.alloc (.cells #[.bool E.d, .slice p1 E.r.length cc1, .slice p2 E.w.length cc2] 40)) from (by repeat (first | (with_reducible exact Ext.refl _) | (with_reducible refine Ext.up ?_ _) | (with_reducible refine Ext.alloc ?_ _) | (with_reducible refine Ext.drew ?_) | (with_reducible refine Ext.setRow ?_ (by first | exact LeS.le | exact LeS.add _ | (simp; done) | (simp; omega)) _) | (with_reducible refine Ext.setCell ?_ (by first | exact LeS.le | exact LeS.add _ | (simp; done) | (simp; omega)) _))))
      have oe5 := Hoe.out.up (show Ext z.val (z4.val.alloc (.cells #[.bool E.d, .slice p1 E.r.length cc1, .slice p2 E.w.length cc2] 40)) from (by repeat (first | (with_reducible exact Ext.refl _) | (with_reducible refine Ext.up ?_ _) | (with_reducible refine Ext.alloc ?_ _) | (with_reducible refine Ext.drew ?_) | (with_reducible refine Ext.setRow ?_ (by first | exact LeS.le | exact LeS.add _ | (simp; done) | (simp; omega)) _) | (with_reducible refine Ext.setCell ?_ (by first | exact LeS.le | exact LeS.add _ | (simp; done) | (simp; omega)) _))))
      have q15 := Q1.out.up (show Ext z4.val (z4.val.alloc (.cells #[.bool E.d, .slice p1 E.r.length cc1, .slice p2 E.w.length cc2] 40)) from (by repeat (first | (with_reducible exact Ext.refl _) | (with_reducible refine Ext.up ?_ _) | (with_reducible refine Ext.alloc ?_ _) | (with_reducible refine Ext.drew ?_) | (with_reducible refine Ext.setRow ?_ (by first | exact LeS.le | exact LeS.add _ | (simp; done) | (simp; omega)) _) | (with_reducible refine Ext.setCell ?_ (by first | exact LeS.le | exact LeS.add _ | (simp; done) | (simp; omega)) _))))
      have q25 := Q2.out.up (show Ext z4.val (z4.val.alloc (.cells #[.bool E.d, .slice p1 E.r.length cc1, .slice p2 E.w.length cc2] 40)) from (by repeat (first | (with_reducible exact Ext.refl _) | (with_reducible refine Ext.up ?_ _) | (with_reducible refine Ext.alloc ?_ _) | (with_reducible refine Ext.drew ?_) | (with_reducible refine Ext.setRow ?_ (by first | exact LeS.le | exact LeS.add _ | (simp; done) | (simp; omega)) _) | (with_reducible refine Ext.setCell ?_ (by first | exact LeS.le | exact LeS.add _ | (simp; done) | (simp; omega)) _))))
      have hE5 : Ext w (z4.val.alloc (.cells #[.bool E.d, .slice p1 E.r.length cc1, .slice p2 E.w.length cc2] 40)) := (by repeat (first | (with_reducible exact Ext.refl _) | (with_reducible refine Ext.up ?_ _) | (with_reducible refine Ext.alloc ?_ _) | (with_reducible refine Ext.drew ?_) | (with_reducible refine Ext.setRow ?_ (by first | exact LeS.le | exact LeS.add _ | (simp; done) | (simp; omega)) _) | (with_reducible refine Ext.setCell ?_ (by first | exact LeS.le | exact LeS.add _ | (simp; done) | (simp; omega)) _)))
      have e5 : (z4.val.alloc (.cells #[.bool E.d, .slice p1 E.r.length cc1, .slice p2 E.w.length cc2] 40)).heap[z4.val.heap.size]? = some (.cells #[.bool E.d, .slice p1 E.r.length cc1, .slice p2 E.w.length cc2] 40 (0, 0)) := heap_alloc_new _ _
      have hw5 : ∀ (k : Nat) (y : Ent), E.w[k]? = some y → ∃ b off, p2 = some ⟨b, off, none⟩ ∧ w.heap.size < b ∧ LtS b (z4.val.alloc (.cells #[.bool E.d, .slice p1 E.r.length cc1, .slice p2 E.w.length cc2] 40)) ∧ ∀ j u, y.enc[j]? = some u → (z4.val.alloc (.cells #[.bool E.d, .slice p1 E.r.length cc1, .slice p2 E.w.length cc2] 40)).cell? ⟨b, off + k * 2 + j, none⟩ = some u := by
        intro k y hy
        obtain ⟨b, off, rfl, hlb, hcc⟩ := HW2.out k y hy
        have := (World.ownsRow.lt Q2.out b rfl).1
        simp at this
        refine ⟨b, off, rfl, by omega, inferInstance, fun j u hu => (LtS.cell_alloc _ _ _).trans (hcc j u hu)⟩
      have A1 := Lib.hid (Apart.of_lt Hoe.out.1 Q1.out (by simp)).symm
      have A2 := Lib.hid (Apart.of_lt Hoe.out.1 Q2.out (by simp)).symm
      have hlo : w.heap.size + 1 + 1 ≤ (z.val.alloc (.cells #[.int .i64 x.kind, .int .i64 x.src, .int .i64 x.dst, .int .i64 x.amt] 24)).heap.size := by simp; omega
      have hlt5 : z4.val.heap.size < (z4.val.alloc (.cells #[.bool E.d, .slice p1 E.r.length cc1, .slice p2 E.w.length cc2] 40)).heap.size := by simp
      generalize z4.val.alloc (.cells #[.bool E.d, .slice p1 E.r.length cc1, .slice p2 E.w.length cc2] 40) = W5 at *
      generalize z4.val.heap.size = G5 at *
      have HW5 := Lib.hid hw5; have R05 := Lib.hid r05; have R15 := Lib.hid r15; have OE5 := Lib.hid oe5; have Q15 := Lib.hid (q15.lo hlo); have Q25 := Lib.hid (q25.lo hlo); have HE5 := Lib.hid hE5; have E5 := Lib.hid e5
      have hL5 : LtS w.heap.size W5 := ⟨by omega⟩
      have hL51 : LtS (w.heap.size + 1) W5 := ⟨by omega⟩
      have hL5G : LtS G5 W5 := ⟨hlt5⟩
      have hN5 : NeS G5 w.heap.size := ⟨by omega⟩
      have hNw : NeS (w.heap.size + 1) w.heap.size := ⟨by omega⟩
      clear hw5 r05 r15 oe5 q15 q25 hE5 e5 HW2 Q1 Q2 hlo hlt5 R0 R1 kr
      go_loopw [24] (fun s24 wr => ∃ (j : Nat), s24 = .int .i64 j ∧ j ≤ E.w.length ∧ (∃ z5 : ExtR w.heap.size W5, wr = z5.val) ∧ Row 99 wr w.heap.size (vsets R.1 (E.w.take j))) (fun s24 _ => E.w.length - (intOf s24).toNat)
      case atStart => exact ⟨0, rfl, Nat.zero_le _, ⟨⟨W5, grownBy_refl _ _⟩, rfl⟩, R05.out⟩
      case round =>
        obtain ⟨j, rfl, hj, ⟨z5, rfl⟩, rj⟩ := hrel
        by_cases hjl : j < E.w.length
        · obtain ⟨y, hyk⟩ := getElem?_some_of_lt hjl
          obtain ⟨b, offb, rfl, hbw, hlb, hcc⟩ := HW5.out j y hyk
          have hNb : NeS b w.heap.size := ⟨by omega⟩
          have y0 : W5.cell? ⟨b, offb + j * 2, none⟩ = some (.int .i64 y.k) := hcc 0 _ rfl
          have y1 : W5.cell? ⟨b, offb + j * 2 + 1, none⟩ = some (.int .i64 y.v) := hcc 1 _ rfl
          obtain ⟨k0, k1, _, _⟩ := hei.out y (List.mem_of_getElem? hyk)
          have k2 : y.k < 32 := by omega
          obtain ⟨u, hu⟩ := getElem?_some_of_lt (l := vsets R.1 (E.w.take j)) (k := y.k.toNat) (by rw [vsets_length, hVl'.out]; omega)
          have d0 := rj.cell hu
          have f0 := rj.frozen y.k.toNat
          have hLj := rj.lts
          have RJ := Lib.hid rj
          have Hs := Lib.hid (vsets_snoc R.1 hyk)
          clear hcc hyk hu rj
          go_wp2_with fail
          go_roundw
          case rel => exact ⟨j + 1, by go_num, by omega, ExtR.of (grownBy_trans (GB.alloc z5.grown _) (grownBy_set _ _ _)), by rw [Hs.out]; exact (RJ.out.alloc _).set _ _⟩
          case measure => simp [intOf]; omega
        · obtain rfl : j = E.w.length := by omega
          rw [List.take_length] at rj
          have RJ := Lib.hid rj
          have r15 : Row 99 z5.val (w.heap.size + 1) zeros := (z5.block hL51.lt hNw.ne).trans R15.out
          have OEZ := Lib.hid (OE.keepR OE5.out z5.grown (by omega))
          have Q1Z := Lib.hid (Own.kept Q15.out z5.grown (Q15.out.ne_rb (by omega)))
          have Q2Z := Lib.hid (Own.kept Q25.out z5.grown (Q25.out.ne_rb (by omega)))
          have eG := (z5.block hL5G.lt hN5.ne).trans E5.out
          have g50 : z5.val.cell? ⟨G5, 0, none⟩ = some (.bool E.d) := cell_of_row _ _ 0 _ _ _ eG
          have g51 : z5.val.cell? ⟨G5, 1, none⟩ = some (.slice p1 E.r.length cc1) := cell_of_row _ _ 1 _ _ _ eG
          have g52 : z5.val.cell? ⟨G5, 2, none⟩ = some (.slice p2 E.w.length cc2) := cell_of_row _ _ 2 _ _ _ eG
          have HEZ : Hid (Ext w z5.val) := Lib.hid (HE5.out.upR (Nat.le_refl _) z5)
          have hszz : W5.heap.size ≤ z5.val.heap.size := z5.grown.size
          have R1Z := Lib.hid r15
          have hL5l := hL5.lt
          have hL51l := hL51.lt
          clear rj r15 eG
          go_wp2_with (at_builtin; refine wpList_pushG fEff rfl (.tmp 34) (.tmp 36) rfl TE.enc TE.enc_length w (lo := w.heap.size + 1 + 1) [⟨E.d, .slice p1 E.r.length cc1, .slice p2 E.w.length cc2, E.r, E.w⟩] ts rfl OEZ.out.1 HEZ.out (by omega) (by omega) rfl rfl (by go_simp) rfl (oneTE _ (by intro y hy; simp at hy; subst hy; exact ⟨⟨_, _, _, rfl⟩, ⟨_, _, _, rfl⟩⟩)) (by simp; omega) (by simp; omega) ?_; intro v7 z7 o7 g7 b7)
          have S0 := Lib.hid (rowKept OEZ.out.1 (by omega) RJ.out.eq g7)
          have S1 := Lib.hid (rowKept OEZ.out.1 (by omega) R1Z.out.eq g7)
          have OE7 := Lib.hid (OE.snoc (OEZ.out.up (by repeat (first | (with_reducible exact Ext.refl _) | (with_reducible refine Ext.up ?_ _) | (with_reducible refine Ext.alloc ?_ _) | (with_reducible refine Ext.drew ?_) | (with_reducible refine Ext.setRow ?_ (by first | exact LeS.le | exact LeS.add _ | (simp; done) | (simp; omega)) _) | (with_reducible refine Ext.setCell ?_ (by first | exact LeS.le | exact LeS.add _ | (simp; done) | (simp; omega)) _)))) g7 b7 o7 (Q1Z.out.up (by repeat (first | (with_reducible exact Ext.refl _) | (with_reducible refine Ext.up ?_ _) | (with_reducible refine Ext.alloc ?_ _) | (with_reducible refine Ext.drew ?_) | (with_reducible refine Ext.setRow ?_ (by first | exact LeS.le | exact LeS.add _ | (simp; done) | (simp; omega)) _) | (with_reducible refine Ext.setCell ?_ (by first | exact LeS.le | exact LeS.add _ | (simp; done) | (simp; omega)) _)))) A1.out (Q2Z.out.up (by repeat (first | (with_reducible exact Ext.refl _) | (with_reducible refine Ext.up ?_ _) | (with_reducible refine Ext.alloc ?_ _) | (with_reducible refine Ext.drew ?_) | (with_reducible refine Ext.setRow ?_ (by first | exact LeS.le | exact LeS.add _ | (simp; done) | (simp; omega)) _) | (with_reducible refine Ext.setCell ?_ (by first | exact LeS.le | exact LeS.add _ | (simp; done) | (simp; omega)) _)))) A2.out)
          clear o7 g7 b7
          go_wp2_with fail
          go_roundw
          case rel =>
            refine ⟨k + 1, _, by go_num, by omega, ⟨z7, rfl⟩, ?_, S1.out, OE7.out, ?_⟩
            · rw [Hsn.out]
              show Row 99 z7.val w.heap.size (vsets R.1 (runV R.1 x).w)
              rw [HE.out]
              exact S0.out
            · rw [Hsn.out]
              show _ = R.2 ++ [runV R.1 x]
              rw [HE.out, List.map_append, Hts.out]; rfl
          case measure => simp [intOf]; omega
    · obtain rfl : k = l.length := by omega
      rw [List.take_length] at r0 Hts
      have hRl : (runAll v l).1.length = 32 := runStep_len Hv.out
      have R0 := Lib.hid r0; have R1 := Lib.hid r1
      clear hcl r0 r1
      go_wp2_with (first | (refine wpList_load_row rfl _ _ rfl _ rfl _ _ _ _ R0.out.eq Try.underlying99 rfl (by rw [vA_size, hRl]; exact Try.sVals) ?_) | (refine wpList_store_row rfl _ _ _ rfl _ _ rfl rfl _ _ R1.out.eq (by rw [vA_size, hRl]; exact Try.sVals) (by rw [vA_size, vA_size, hRl, zeros_length]) (vA_one _) ?_))
      refine bodyPost_ret (results_cell_row2 (p := 4) (q := 5) (by kernel_rfl) _ _ (w.heap.size + 1) _ (vA (runAll v l).1) (0, 0) _ rfl rfl (R1.out.setRow _).eq Try.underlying99 rfl (by rw [vA_size, hRl]; exact Try.sVals)) rfl ⟨_, ts, rfl, (.of (by repeat (first | exact Ext.refl _ | refine Ext.up ?_ _ | refine Ext.alloc ?_ _ | refine Ext.drew ?_ | refine Ext.setRow ?_ (by first | (dsimp only; omega) | exact LeS.le | exact LeS.add _ | (simp; done) | (simp; omega)) _ | refine Ext.setCell ?_ (by first | (dsimp only; omega) | exact LeS.le | exact LeS.add _ | (simp; done) | (simp; omega)) _))), (OE.keepR Hoe.out (grownBy_setRow _ _ _) (by omega)).lo (by omega), Hts.out⟩
end Go.Proofs.Ytkboefmkfpnpjaa
namespace Go.Proofs.Ytkboefmkfpnpjaa
open Go Go.RowKit Go.Proofs

set_option maxRecDepth 100000 in
set_option maxHeartbeats 2000000 in
theorem iRunSerial_yes (s : List Ent) (l : List Actn) (v vl : Value) (w : World) (h : SL (RF Ent.enc) 2 w v s) (hl : SL (RF Actn.enc) 4 w vl l) (hok : entsOk 1 s = true) (hlk : actsOk l = true) :
    Calls Try.prog 19 #[v, vl] w fun e w' => ∃ v1 v2 ts, e = .returned (.tuple #[v1, v2]) ∧ Up w w' ∧ Own Ent.enc 31 2 w.heap.size w' v1 (storeOf (runAll (valsOf s) l).1) ∧
      OE 40 31 w.heap.size w' v2 ts ∧ ts.map TE.core = (runAll (valsOf s) l).2 := by
  have H := Lib.hid h; have HL := Lib.hid hl
  obtain ⟨p, c, rfl, _, _⟩ := h.openc
  obtain ⟨p3, c3, rfl, _, _⟩ := hl.openc
  have kv := fun w (h : SL (RF Ent.enc) 2 w (.slice p s.length c) s) => iStoreValid_any s _ w h
  simp only [hok] at kv
  have kw := fun w (h : SL (RF Actn.enc) 4 w (.slice p3 l.length c3) l) => iActionsValid_any l _ w h
  simp only [hlk] at kw
  have hvi : valsIn (valsOf s) := valsOf_in (entsOk_least (by decide) hok)
  have kr := fun w h => runAll_any (valsOf s) l (.slice p3 l.length c3) w h (valsOf_length s) hvi (fun x hx => by obtain ⟨i, hi⟩ := List.getElem?_of_mem hx; exact actsOk_at hlk hi) (by have := actsOk_len hlk; omega)
  have hRl : (runAll (valsOf s) l).1.length = 32 := runStep_len (valsOf_length s)
  have Hok := Lib.hid hok
  have tok : True := trivial
  clear h hl hok hlk hvi
  generalize runAll (valsOf s) l = R at *
  go_enter Try.func19, Try.ntmps19
  go_wp2_with (first | (go_at_call 68; refine (kv _ (H.out.up (by repeat (first | (with_reducible exact Ext.refl _) | (with_reducible refine Ext.up ?_ _) | (with_reducible refine Ext.alloc ?_ _) | (with_reducible refine Ext.drew ?_) | (with_reducible refine Ext.setRow ?_ (by first | exact LeS.le | exact LeS.add _ | (simp; done) | (simp; omega)) _) | (with_reducible refine Ext.setCell ?_ (by first | exact LeS.le | exact LeS.add _ | (simp; done) | (simp; omega)) _))))).mono ?_; rintro e w' ⟨rfl, z1, rfl⟩) | (go_at_call 69; refine (kw _ (HL.out.up (by repeat (first | (with_reducible exact Ext.refl _) | (with_reducible refine Ext.up ?_ _) | (with_reducible refine Ext.alloc ?_ _) | (with_reducible refine Ext.drew ?_) | (with_reducible refine Ext.setRow ?_ (by first | exact LeS.le | exact LeS.add _ | (simp; done) | (simp; omega)) _) | (with_reducible refine Ext.setCell ?_ (by first | exact LeS.le | exact LeS.add _ | (simp; done) | (simp; omega)) _))))).mono ?_; rintro e w' ⟨rfl, z2, rfl⟩) | (go_at_call 71; refine (valuesOf_any 1 s _ _ (H.out.up (by repeat (first | (with_reducible exact Ext.refl _) | (with_reducible refine Ext.up ?_ _) | (with_reducible refine Ext.alloc ?_ _) | (with_reducible refine Ext.drew ?_) | (with_reducible refine Ext.setRow ?_ (by first | exact LeS.le | exact LeS.add _ | (simp; done) | (simp; omega)) _) | (with_reducible refine Ext.setCell ?_ (by first | exact LeS.le | exact LeS.add _ | (simp; done) | (simp; omega)) _)))) Hok.out).mono ?_; rintro e w' ⟨rfl, z3, rfl⟩) | ((go_at_call 70; refine (kr _ (HL.out.up (by repeat (first | (with_reducible exact Ext.refl _) | (with_reducible refine Ext.up ?_ _) | (with_reducible refine Ext.alloc ?_ _) | (with_reducible refine Ext.drew ?_) | (with_reducible refine Ext.setRow ?_ (by first | exact LeS.le | exact LeS.add _ | (simp; done) | (simp; omega)) _) | (with_reducible refine Ext.setCell ?_ (by first | exact LeS.le | exact LeS.add _ | (simp; done) | (simp; omega)) _))))).mono ?_; rintro e w' ⟨v2, ts, rfl, ⟨z4, rfl⟩, oe, hts⟩); have OE4 := Lib.hid oe; have HTS := Lib.hid hts; clear oe hts) | (have _t := tok; refine wpList_store_new rfl _ _ _ rfl rfl rfl rfl (by rw [hRl]; exact Try.sVals) (by rw [hRl]; rfl) ?_; intro z5 r5; clear _t tok; have R5 := Lib.hid r5; clear r5) | (refine wpList_load_row rfl _ _ rfl _ rfl _ _ _ _ R5.out.eq Try.underlying99 rfl (by rw [vA_size, hRl]; exact Try.sVals) ?_) | (go_at_call 72; refine (store_any _ _ hRl).mono ?_; rintro e w' ⟨v', rfl, ⟨z6, rfl⟩, ho⟩; have HO := Lib.hid ho; clear ho))
  refine bodyPost_ret (v := .tuple #[v', v2]) (by simp [results, Try.results19, go_sem]) rfl ?_
  exact ⟨_, _, ts, rfl, (.of (by repeat (first | (with_reducible exact Ext.refl _) | (with_reducible refine Ext.up ?_ _) | (with_reducible refine Ext.alloc ?_ _) | (with_reducible refine Ext.drew ?_) | (with_reducible refine Ext.setRow ?_ (by first | exact LeS.le | exact LeS.add _ | (simp; done) | (simp; omega)) _) | (with_reducible refine Ext.setCell ?_ (by first | exact LeS.le | exact LeS.add _ | (simp; done) | (simp; omega)) _)))), HO.out.lo LeS.le, (OE4.out.up (by repeat (first | (with_reducible exact Ext.refl _) | (with_reducible refine Ext.up ?_ _) | (with_reducible refine Ext.alloc ?_ _) | (with_reducible refine Ext.drew ?_) | (with_reducible refine Ext.setRow ?_ (by first | exact LeS.le | exact LeS.add _ | (simp; done) | (simp; omega)) _) | (with_reducible refine Ext.setCell ?_ (by first | exact LeS.le | exact LeS.add _ | (simp; done) | (simp; omega)) _)))).lo LeS.le, HTS.out⟩
end Go.Proofs.Ytkboefmkfpnpjaa
namespace Go.Proofs.Ytkboefmkfpnpjaa
open Go Go.RowKit Go.Proofs

set_option maxRecDepth 100000 in
set_option maxHeartbeats 2000000 in
theorem drawEffect0 (w0 w : World) (rb : Nat) (lim : Int) (h : Rd w0 w rb lim) (hl : lim ≤ 90000) :
    Calls Try.prog 94 #[.pointer (some ⟨rb, 0, none⟩), .int .i64 0] w fun e w' => ∃ d vr vw u, e = .returned (.agg #[.bool d, vr, vw]) ∧ (∃ p n c, vr = .slice p n c) ∧ entsOk 0 u = true ∧ (∃ z : ExtR rb w, w' = z.val) ∧ Rd w0 w' rb (lim + 200) ∧ Own Ent.enc 31 2 w.heap.size w' vw u := by
  have H := Lib.hid h
  have hL : LtS rb w := ⟨h.lt⟩
  have hlt := h.lt
  have hold := h.old
  have hLew : LeS w0 w := ⟨h.ext.size⟩
  clear h
  go_enter Try.func94, Try.ntmps94
  go_wp2_with fail
  refine (drawStore_any w0 _ rb lim 0 (H.out.up (by repeat (first | (with_reducible exact Ext.refl _) | (with_reducible refine Ext.up ?_ _) | (with_reducible refine Ext.alloc ?_ _) | (with_reducible refine Ext.drew ?_) | (with_reducible refine Ext.setRow ?_ (by first | exact LeS.le | exact LeS.add _ | (simp; done) | (simp; omega)) _) | (with_reducible refine Ext.setCell ?_ (by first | exact LeS.le | exact LeS.add _ | (simp; done) | (simp; omega)) _)))) (by omega) (by omega) (by omega)).mono ?_; rintro e w' ⟨vs, s, rfl, hs33, hs0, ⟨z1, rfl⟩, hr, hown⟩
  have H1 := Lib.hid hr; have HO1 := Lib.hid hown; have hs := hs0 rfl; have Hs := Lib.hid hs
  clear hr hown hs0 hs
  go_wp2_with fail
  refine (action_any w0 _ rb _ 0 H1.out (by omega) (by omega) (by omega)).mono ?_; rintro e w' ⟨x, rfl, hxo, ⟨z2, rfl⟩, hr⟩
  have H2 := Lib.hid hr; have hx := hxo rfl; have Hx := Lib.hid hx
  clear hr hxo hx
  have HO2 := Lib.hid (HO1.out.upR (by simp; omega) z2)
  have hw := Lib.hid (runE_ok (x := x) Hx.out (atK_in Hs.out (by decide) x.src).1 (atK_in Hs.out (by decide) x.src).2 (atK_in Hs.out (by decide) x.dst).1 (atK_in Hs.out (by decide) x.dst).2)
  go_wp2_with fail
  refine (sRunAction_yes s x vs _ (HO2.out.sl Ent.enc_length) Hs.out Hx.out).mono ?_; rintro e w' ⟨vr, vw, rfl, ⟨z3, rfl⟩, o1, o2, _⟩
  generalize runE x (atK s x.src) (atK s x.dst) = E at *
  obtain ⟨p1, c1, rfl, _, _⟩ := (o1.sl Ent.enc_length).openc
  obtain ⟨p2, c2, rfl, _, _⟩ := (o2.sl Ent.enc_length).openc
  have O2 := Lib.hid o2
  clear o1 o2
  go_wp2_with fail
  have hLe3 : LtS rb z3.val := ⟨Nat.lt_of_lt_of_le H2.out.lt z3.ext.size⟩
  have hs0 : w0.heap.size ≤ z3.val.heap.size := Nat.le_trans hold (Nat.le_of_lt hLe3.lt)
  have hLe0 : LeS w0 z3.val := ⟨hs0⟩
  have H3 := Lib.hid (H2.out.up z3.ext)
  refine (odd_any w0 _ rb (lim + 150) 0 (by (refine Rd.mono (a := ?_) ?_ ?_; rotate_left; (repeat (first | (with_reducible exact H3.out) | (with_reducible refine Rd.alloc ?_ _) | (with_reducible refine Rd.set ?_ _ _ NeS.ne (by first | exact LeS.le | exact LeS.add _)))); omega)) (by omega) (by omega) (by omega)).mono ?_; rintro e w' ⟨bo, rfl, hbo, ⟨z4, rfl⟩, hr⟩
  have H4 := Lib.hid hr
  obtain rfl : bo = false := hbo rfl
  clear hr hbo
  have O4 := Lib.hid (Own.upR (rb := rb) (O2.out.up (by repeat (first | (with_reducible exact Ext.refl _) | (with_reducible refine Ext.up ?_ _) | (with_reducible refine Ext.alloc ?_ _) | (with_reducible refine Ext.drew ?_) | (with_reducible refine Ext.setRow ?_ (by first | exact LeS.le | exact LeS.add _ | (simp; done) | (simp; omega)) _) | (with_reducible refine Ext.setCell ?_ (by first | exact LeS.le | exact LeS.add _ | (simp; done) | (simp; omega)) _)))) H2.out.lt z4)
  have hz2 : w.heap.size < z2.val.heap.size := by have h1 := z1.grown.size; have h2 := z2.grown.size; simp at h1; omega
  go_wp2_with fail
  refine bodyPost_ret (v := .agg #[.bool E.d, .slice p1 E.r.length c1, .slice p2 E.w.length c2]) (by simp [results, Try.results94, go_sem]) rfl ?_
  refine ⟨_, _, _, E.w, rfl, ⟨_, _, _, rfl⟩, hw.out, ExtR.of (by repeat (first | (with_reducible exact grownBy_refl _ _) | (with_reducible refine GB.setNew ?_ (by first | exact LeS.le | exact LeS.add _ | (simp; done) | (simp; omega)) _ _) | (with_reducible refine GB.alloc ?_ _) | (with_reducible refine GB.drew ?_) | (with_reducible refine GB.upR ?_ _) | (with_reducible refine GB.up ?_ _))), (by (refine Rd.mono (a := ?_) ?_ ?_; rotate_left; (repeat (first | (with_reducible exact H4.out) | (with_reducible refine Rd.alloc ?_ _) | (with_reducible refine Rd.set ?_ _ _ NeS.ne (by first | exact LeS.le | exact LeS.add _)))); omega)), ?_⟩
  refine Own.lo (lo := z2.val.heap.size) ?_ (by omega)
  repeat (first | (with_reducible exact O4.out) | (with_reducible refine Own.setLo ?_ (by omega)) | (exact O4.out))
end Go.Proofs.Ytkboefmkfpnpjaa
namespace Go.Proofs.Ytkboefmkfpnpjaa
open Go Go.RowKit Go.Proofs

def dropV (l : List Ver) (by_ : Int) : List Ver := l.filter fun x => decide (x.b ≠ by_)
theorem dropV_le (l : List Ver) (b : Int) : (dropV l b).length ≤ l.length := List.length_filter_le _ _
theorem dropV_snoc_in {l : List Ver} {k : Nat} {x : Ver} {b : Int} (h : l[k]? = some x) (hb : x.b ≠ b) : dropV (l.take (k + 1)) b = dropV (l.take k) b ++ [x] := by
  rw [List.take_add_one, h]; simp [dropV, hb]
theorem dropV_snoc_out {l : List Ver} {k : Nat} {x : Ver} {b : Int} (h : l[k]? = some x) (hb : x.b = b) : dropV (l.take (k + 1)) b = dropV (l.take k) b := by
  rw [List.take_add_one, h]; simp [dropV, hb]

set_option maxHeartbeats 1000000 in
theorem without_any (l : List Ver) (v : Value) (by_ : Int) (w : World) (h : SL (RF Ver.enc) 3 w v l) (hn : l.length ≤ 1073741824) :
    Calls Try.prog 100 #[v, .int .i64 by_] w fun e w' => ∃ v', e = .returned v' ∧ Up w w' ∧ Own Ver.enc 88 3 w.heap.size w' v' (dropV l by_) := by
  obtain ⟨a, cap, rfl, hlen, hc⟩ := h.open
  clear h
  go_enter Try.func100, Try.ntmps100
  go_wp2_with fail
  go_loopw [5, 7, 10] (fun s5 _ s10 wr => ∃ (k : Nat), s10 = .int .i64 k ∧ k ≤ l.length ∧ Up w wr ∧ Own Ver.enc 88 3 w.heap.size wr s5 (dropV (l.take k) by_)) (fun _ _ s10 _ => l.length - (intOf s10).toNat)
  case atStart => exact ⟨0, rfl, Nat.zero_le _, .of (Ext.refl _), Own.nil _ _ _ _ _⟩
  case round =>
    obtain ⟨k, rfl, hk, ⟨z, rfl⟩, hown⟩ := hrel
    by_cases hlt : k < l.length
    · obtain ⟨x, hxk⟩ := getElem?_some_of_lt hlt
      obtain ⟨b, off, rfl, hb, hcc⟩ := hc k x hxk
      have c0 : w.cell? ⟨b, off + k * 3, none⟩ = some (.int .i64 x.k) := hcc 0 _ rfl
      have c1 : w.cell? ⟨b, off + k * 3 + 1, none⟩ = some (.int .i64 x.b) := hcc 1 _ rfl
      have c2 : w.cell? ⟨b, off + k * 3 + 2, none⟩ = some (.int .i64 x.v) := hcc 2 _ rfl
      have hle : (dropV (l.take k) by_).length ≤ k := Nat.le_trans (dropV_le _ _) (List.length_take_le _ _)
      have Hx := Lib.hid hxk; have Hown := Lib.hid hown
      clear hc hcc hxk hown
      rcases ne_cases x.b by_ with ⟨h1, h1'⟩ | ⟨h1, h1'⟩
      · go_wp2_with (at_builtin; refine wpList_push1 fVer rfl (.tmp 18) (.tmp 20) rfl Ver.enc w x (dropV (l.take k) by_) rfl (Hown.out.up (by repeat (first | exact Ext.refl _ | refine Ext.up ?_ _ | refine Ext.alloc ?_ _ | refine Ext.drew ?_ | refine Ext.setRow ?_ (by first | (dsimp only; omega) | exact LeS.le | exact LeS.add _ | (simp; done) | (simp; omega)) _ | refine Ext.setCell ?_ (by first | (dsimp only; omega) | exact LeS.le | exact LeS.add _ | (simp; done) | (simp; omega)) _))) (by repeat (first | exact Ext.refl _ | refine Ext.up ?_ _ | refine Ext.alloc ?_ _ | refine Ext.drew ?_ | refine Ext.setRow ?_ (by first | (dsimp only; omega) | exact LeS.le | exact LeS.add _ | (simp; done) | (simp; omega)) _ | refine Ext.setCell ?_ (by first | (dsimp only; omega) | exact LeS.le | exact LeS.add _ | (simp; done) | (simp; omega)) _)) rfl (by go_simp) rfl rfl (oneV x) (by omega) (by omega) ?_; intro v1 z1 hown1)
        have hown2 := Lib.hid hown1; clear hown1
        go_wp2_with fail
        go_roundw
        case rel => exact ⟨k + 1, by go_num, by omega, (.of (by repeat (first | exact Ext.refl _ | refine Ext.up ?_ _ | refine Ext.alloc ?_ _ | refine Ext.drew ?_ | refine Ext.setRow ?_ (by first | (dsimp only; omega) | exact LeS.le | exact LeS.add _ | (simp; done) | (simp; omega)) _ | refine Ext.setCell ?_ (by first | (dsimp only; omega) | exact LeS.le | exact LeS.add _ | (simp; done) | (simp; omega)) _))), by rw [dropV_snoc_in Hx.out h1]; exact hown2.out⟩
        case measure => simp [intOf]; omega
      · have H1 := Lib.hid h1; clear h1
        go_wp2_with fail
        go_roundw
        case rel => exact ⟨k + 1, by go_num, by omega, (.of (by repeat (first | exact Ext.refl _ | refine Ext.up ?_ _ | refine Ext.alloc ?_ _ | refine Ext.drew ?_ | refine Ext.setRow ?_ (by first | (dsimp only; omega) | exact LeS.le | exact LeS.add _ | (simp; done) | (simp; omega)) _ | refine Ext.setCell ?_ (by first | (dsimp only; omega) | exact LeS.le | exact LeS.add _ | (simp; done) | (simp; omega)) _))), by rw [dropV_snoc_out Hx.out H1.out]; exact Hown.out.up (by repeat (first | exact Ext.refl _ | refine Ext.up ?_ _ | refine Ext.alloc ?_ _ | refine Ext.drew ?_ | refine Ext.setRow ?_ (by first | (dsimp only; omega) | exact LeS.le | exact LeS.add _ | (simp; done) | (simp; omega)) _ | refine Ext.setCell ?_ (by first | (dsimp only; omega) | exact LeS.le | exact LeS.add _ | (simp; done) | (simp; omega)) _))⟩
        case measure => simp [intOf]; omega
    · go_wp2_with fail
      go_ret
      obtain rfl : k = l.length := by omega
      refine ⟨_, rfl, ⟨z, rfl⟩, ?_⟩
      rw [List.take_length] at hown
      exact hown
/-- What is left without those of an action; nothing of versions that are not valid. -/
def dropR (l : List Ver) (b : Int) : List Ver := if versOk l = true then dropV l b else []
theorem dropR_le (l : List Ver) (b : Int) : (dropR l b).length ≤ l.length := by unfold dropR; split; exact dropV_le l b; simp
set_option maxHeartbeats 1000000 in
theorem l9Drop_any (l : List Ver) (v : Value) (by_ : Int) (w : World) (h : SL (RF Ver.enc) 3 w v l) (hn : l.length ≤ 1073741824) :
    Calls Try.prog 145 #[v, .int .i64 by_] w fun e w' => ∃ v', e = .returned v' ∧ Up w w' ∧ Own Ver.enc 88 3 w.heap.size w' v' (dropV l by_) := by
  obtain ⟨a, cap, rfl, hlen, hc⟩ := h.open
  clear h
  go_enter Try.func145, Try.ntmps145
  go_wp2_with fail
  go_loopw [5, 6] (fun s5 s6 wr => ∃ (k : Nat), s6 = .int .i64 k ∧ k ≤ l.length ∧ Up w wr ∧ Own Ver.enc 88 3 w.heap.size wr s5 (dropV (l.take k) by_)) (fun _ s6 _ => l.length - (intOf s6).toNat)
  case atStart => exact ⟨0, rfl, Nat.zero_le _, (.of (by repeat (first | exact Ext.refl _ | refine Ext.up ?_ _ | refine Ext.alloc ?_ _ | refine Ext.drew ?_ | refine Ext.setRow ?_ (by first | (dsimp only; omega) | exact LeS.le | exact LeS.add _ | (simp; done) | (simp; omega)) _ | refine Ext.setCell ?_ (by first | (dsimp only; omega) | exact LeS.le | exact LeS.add _ | (simp; done) | (simp; omega)) _))), Own.lit (by simp) (by simp) rfl rfl Ver.enc_length (by simp [dropV])⟩
  case round =>
    obtain ⟨k, rfl, hk, ⟨z, rfl⟩, hown⟩ := hrel
    by_cases hlt : k < l.length
    · obtain ⟨x, hxk⟩ := getElem?_some_of_lt hlt
      obtain ⟨b, off, rfl, hb, hcc⟩ := hc k x hxk
      have c0 : w.cell? ⟨b, off + k * 3, none⟩ = some (.int .i64 x.k) := hcc 0 _ rfl
      have c1 : w.cell? ⟨b, off + k * 3 + 1, none⟩ = some (.int .i64 x.b) := hcc 1 _ rfl
      have c2 : w.cell? ⟨b, off + k * 3 + 2, none⟩ = some (.int .i64 x.v) := hcc 2 _ rfl
      have hle : (dropV (l.take k) by_).length ≤ k := Nat.le_trans (dropV_le _ _) (List.length_take_le _ _)
      have Hx := Lib.hid hxk; have Hown := Lib.hid hown
      clear hc hcc hxk hown
      rcases ne_cases x.b by_ with ⟨h1, h1'⟩ | ⟨h1, h1'⟩
      · go_wp2_with (at_builtin; refine wpList_push1 fVer rfl (.tmp 21) (.tmp 26) rfl Ver.enc w x (dropV (l.take k) by_) rfl (Hown.out.up (by repeat (first | exact Ext.refl _ | refine Ext.up ?_ _ | refine Ext.alloc ?_ _ | refine Ext.drew ?_ | refine Ext.setRow ?_ (by first | (dsimp only; omega) | exact LeS.le | exact LeS.add _ | (simp; done) | (simp; omega)) _ | refine Ext.setCell ?_ (by first | (dsimp only; omega) | exact LeS.le | exact LeS.add _ | (simp; done) | (simp; omega)) _))) (by repeat (first | exact Ext.refl _ | refine Ext.up ?_ _ | refine Ext.alloc ?_ _ | refine Ext.drew ?_ | refine Ext.setRow ?_ (by first | (dsimp only; omega) | exact LeS.le | exact LeS.add _ | (simp; done) | (simp; omega)) _ | refine Ext.setCell ?_ (by first | (dsimp only; omega) | exact LeS.le | exact LeS.add _ | (simp; done) | (simp; omega)) _)) rfl (by go_simp) rfl rfl (oneV x) (by omega) (by omega) ?_; intro v1 z1 hown1)
        have hown2 := Lib.hid hown1; clear hown1
        go_wp2_with fail
        go_roundw
        case rel => exact ⟨k + 1, by go_num, by omega, (.of (by repeat (first | exact Ext.refl _ | refine Ext.up ?_ _ | refine Ext.alloc ?_ _ | refine Ext.drew ?_ | refine Ext.setRow ?_ (by first | (dsimp only; omega) | exact LeS.le | exact LeS.add _ | (simp; done) | (simp; omega)) _ | refine Ext.setCell ?_ (by first | (dsimp only; omega) | exact LeS.le | exact LeS.add _ | (simp; done) | (simp; omega)) _))), by rw [dropV_snoc_in Hx.out h1]; exact hown2.out⟩
        case measure => simp [intOf]; omega
      · have H1 := Lib.hid h1; clear h1
        go_wp2_with fail
        go_roundw
        case rel => exact ⟨k + 1, by go_num, by omega, (.of (by repeat (first | exact Ext.refl _ | refine Ext.up ?_ _ | refine Ext.alloc ?_ _ | refine Ext.drew ?_ | refine Ext.setRow ?_ (by first | (dsimp only; omega) | exact LeS.le | exact LeS.add _ | (simp; done) | (simp; omega)) _ | refine Ext.setCell ?_ (by first | (dsimp only; omega) | exact LeS.le | exact LeS.add _ | (simp; done) | (simp; omega)) _))), by rw [dropV_snoc_out Hx.out H1.out]; exact Hown.out.up (by repeat (first | exact Ext.refl _ | refine Ext.up ?_ _ | refine Ext.alloc ?_ _ | refine Ext.drew ?_ | refine Ext.setRow ?_ (by first | (dsimp only; omega) | exact LeS.le | exact LeS.add _ | (simp; done) | (simp; omega)) _ | refine Ext.setCell ?_ (by first | (dsimp only; omega) | exact LeS.le | exact LeS.add _ | (simp; done) | (simp; omega)) _))⟩
        case measure => simp [intOf]; omega
    · go_wp2_with fail
      go_ret
      obtain rfl : k = l.length := by omega
      refine ⟨_, rfl, ⟨z, rfl⟩, ?_⟩
      rw [List.take_length] at hown
      exact hown
theorem iDropVersions_any (l : List Ver) (v : Value) (by_ : Int) (w : World) (h : SL (RF Ver.enc) 3 w v l) (hn : l.length ≤ 1073741824) :
    Calls Try.prog 44 #[v, .int .i64 by_] w fun e w' => ∃ v', e = .returned v' ∧ Up w w' ∧ Own Ver.enc 88 3 w.heap.size w' v' (dropR l by_) := by
  have H := Lib.hid h; clear h
  rcases hv : versOk l with _ | _
  · rw [dropR, hv, if_neg (by decide)]
    go_enter Try.func44, Try.ntmps44
    go_wp2_with (go_at_call 43; refine (iVersionsValid_any l _ _ H.out).mono ?_; rintro e w' ⟨rfl, z, rfl⟩)
    go_ret
    exact ⟨_, rfl, (.of (by repeat (first | exact Ext.refl _ | refine Ext.up ?_ _ | refine Ext.alloc ?_ _ | refine Ext.drew ?_ | refine Ext.setRow ?_ (by first | (dsimp only; omega) | exact LeS.le | exact LeS.add _ | (simp; done) | (simp; omega)) _ | refine Ext.setCell ?_ (by first | (dsimp only; omega) | exact LeS.le | exact LeS.add _ | (simp; done) | (simp; omega)) _))), Own.nil _ _ _ _ _⟩
  · rw [dropR, hv, if_pos rfl]
    go_enter Try.func44, Try.ntmps44
    go_wp2_with fail
    refine (iVersionsValid_any l _ _ H.out).mono ?_; rintro e w' ⟨rfl, z, rfl⟩
    go_wp2_with fail
    refine (without_any l _ _ _ (H.out.up (by repeat (first | exact Ext.refl _ | refine Ext.up ?_ _ | refine Ext.alloc ?_ _ | refine Ext.drew ?_ | refine Ext.setRow ?_ (by first | (dsimp only; omega) | exact LeS.le | exact LeS.add _ | (simp; done) | (simp; omega)) _ | refine Ext.setCell ?_ (by first | (dsimp only; omega) | exact LeS.le | exact LeS.add _ | (simp; done) | (simp; omega)) _))) hn).mono ?_; rintro e w' ⟨v', rfl, ⟨z', rfl⟩, ho⟩
    have HO := Lib.hid ho; clear ho
    go_wp2_with fail
    go_ret
    exact ⟨_, rfl, (.of (by repeat (first | exact Ext.refl _ | refine Ext.up ?_ _ | refine Ext.alloc ?_ _ | refine Ext.drew ?_ | refine Ext.setRow ?_ (by first | (dsimp only; omega) | exact LeS.le | exact LeS.add _ | (simp; done) | (simp; omega)) _ | refine Ext.setCell ?_ (by first | (dsimp only; omega) | exact LeS.le | exact LeS.add _ | (simp; done) | (simp; omega)) _))), HO.out.lo z.ext.size⟩
end Go.Proofs.Ytkboefmkfpnpjaa
