/- Walks: actions one after the other, on the program's side, with what lies apart. Walks: FnExactOrderFits on the reference's side, and the law. Plain ground: append of a whole slice to an empty one of no room: nothing that was there changes. -/
import Derived.Test.YtkboefmkfpnpjaaGCflTop19
import Derived.Test.YtkboefmkfpnpjaaGCflTop09
import Derived.Test.YtkboefmkfpnpjaaGCflTop20
set_option linter.unusedSimpArgs false
set_option linter.unusedVariables false
namespace Go.Proofs.Ytkboefmkfpnpjaa
open Go Go.RowKit Go.Proofs

/-- All reads and writes of effects lie apart. -/
def PW (ts : List TE) : Prop := (∀ x ∈ ts, Apart x.vr x.vw) ∧ ts.Pairwise fun x y => (Apart x.vr y.vr ∧ Apart x.vr y.vw) ∧ (Apart x.vw y.vr ∧ Apart x.vw y.vw)
theorem PW.nil : PW [] := ⟨by simp, List.Pairwise.nil⟩
theorem PW.snoc {ts : List TE} {x : TE} (h : PW ts) (hx : Apart x.vr x.vw) (hy : ∀ y ∈ ts, (Apart y.vr x.vr ∧ Apart y.vr x.vw) ∧ (Apart y.vw x.vr ∧ Apart y.vw x.vw)) : PW (ts ++ [x]) := by
  refine ⟨fun y hm => ?_, ?_⟩
  · rcases List.mem_append.1 hm with hm | hm
    · exact h.1 y hm
    · rw [List.mem_singleton] at hm; subst hm; exact hx
  · rw [List.pairwise_append]
    refine ⟨h.2, List.pairwise_singleton _ _, fun a ha b hb => ?_⟩
    rw [List.mem_singleton] at hb; subst hb
    exact hy a ha
set_option maxRecDepth 100000 in
set_option maxHeartbeats 4000000 in
theorem runAll_anyP (v : List Int) (l : List Actn) (vl : Value) (w : World) (hl : SL (RF Actn.enc) 4 w vl l) (hv : v.length = 32) (hvi : valsIn v) (hok : ∀ x ∈ l, x.ok = true) (hlen : l.length ≤ 1000000) :
    Calls Try.prog 70 #[.agg (vA v), vl] w fun e w' => ∃ v2 ts, e = .returned (.tuple #[.agg (vA (runAll v l).1), v2]) ∧ Up w w' ∧ OE 40 31 w.heap.size w' v2 ts ∧ ts.map TE.core = (runAll v l).2 ∧ PW ts := by
  obtain ⟨p3, c3, rfl, hll, hcl⟩ := hl.open
  have Hl := Lib.hid hl; have Hvi := Lib.hid hvi; have Hok := Lib.hid hok; have Hv := Lib.hid hv
  clear hl hvi hok hv
  go_enter Try.func70, Try.ntmps70
  go_wp2_with fail
  go_loopw [6, 14] (fun s6 s14 wr => ∃ (k : Nat) (ts : List TE), s14 = .int .i64 k ∧ k ≤ l.length ∧ Up w wr ∧ Row 99 wr w.heap.size (runAll v (l.take k)).1 ∧ Row 99 wr (w.heap.size + 1) zeros ∧ OE 40 31 (w.heap.size + 1 + 1) wr s6 ts ∧ ts.map TE.core = (runAll v (l.take k)).2 ∧ PW ts) (fun _ s14 _ => l.length - (intOf s14).toNat)
  case atStart => exact ⟨0, [], rfl, Nat.zero_le _, (.of (by repeat (first | (with_reducible exact Ext.refl _) | (with_reducible refine Ext.up ?_ _) | (with_reducible refine Ext.alloc ?_ _) | (with_reducible refine Ext.drew ?_) | (with_reducible refine Ext.setRow ?_ (by first | exact LeS.le | exact LeS.add _ | (simp; done) | (simp; omega)) _) | (with_reducible refine Ext.setCell ?_ (by first | exact LeS.le | exact LeS.add _ | (simp; done) | (simp; omega)) _)))), Row.of_eq (heap_alloc2_old _ _ _) rfl, Row.of_eq (heap_alloc2_new _ _ _) vA_zeros.symm, ⟨Own.nil _ _ _ _ _, by simp⟩, rfl, PW.nil⟩
  case round =>
    obtain ⟨k, ts, rfl, hk, ⟨z, rfl⟩, r0, r1, hoe, hts, hpw⟩ := hrel
    have htl : ts.length ≤ 1000000 := by rw [← List.length_map (f := TE.core), hts, runAll_len, List.length_take]; omega
    have Hoe := Lib.hid hoe; have Hts := Lib.hid hts; have Hpw := Lib.hid hpw
    clear hoe hts hpw
    by_cases hlt : k < l.length
    · obtain ⟨x, hxk⟩ := getElem?_some_of_lt hlt
      obtain ⟨g, off, hp, hb, _⟩ := hcl k x hxk
      obtain ⟨c0, c1, c2, c3⟩ := acell hcl hp hxk
      subst hp
      have hxo := Hok.out x (List.mem_of_getElem? hxk)
      have hVi : valsIn (runAll v (l.take k)).1 := runAll_in Hvi.out fun y hy => Hok.out y (List.mem_of_mem_take hy)
      have hVl : (runAll v (l.take k)).1.length = 32 := runStep_len Hv.out
      have Hsn := Lib.hid (runAll_snoc v hxk)
      generalize hR : runAll v (l.take k) = R at *
      have kr := fun w => run_any x R.1 w hVl hVi hxo
      have hei := Lib.hid (fun e he => entsOk_mem (runV_ok hVi hxo) (x := e) he)
      have hVl' := Lib.hid hVl
      have hwl := entsOk_len (runV_ok hVi hxo)
      clear hcl hxk hVi hxo hR hVl
      generalize hE : runV R.1 x = E at *
      have HE := Lib.hid hE; clear hE
      have hL0 := r0.lts
      have hL1 := r1.lts
      have R0 := Lib.hid r0; have R1 := Lib.hid r1
      clear r0 r1
      go_wp2_with (first | (refine wpList_load_row rfl _ _ rfl _ rfl _ _ _ _ (R0.out.up (by repeat (first | (with_reducible exact Ext.refl _) | (with_reducible refine Ext.up ?_ _) | (with_reducible refine Ext.alloc ?_ _) | (with_reducible refine Ext.drew ?_) | (with_reducible refine Ext.setRow ?_ (by first | exact LeS.le | exact LeS.add _ | (simp; done) | (simp; omega)) _) | (with_reducible refine Ext.setCell ?_ (by first | exact LeS.le | exact LeS.add _ | (simp; done) | (simp; omega)) _)))).eq Try.underlying99 rfl (by rw [vA_size, hVl'.out]; exact Try.sVals) ?_) | ((go_at_call 83; refine (kr _).mono ?_; rintro e w' ⟨vr, vw, rfl, ⟨z4, rfl⟩, q1, q2, ap⟩); obtain ⟨p1, cc1, rfl, _, _⟩ := (q1.sl Ent.enc_length).openc; obtain ⟨p2, cc2, rfl, _, hw2⟩ := (q2.sl Ent.enc_length).open; have Q1 := Lib.hid q1; have Q2 := Lib.hid q2; have HW2 := Lib.hid hw2; have AP := Lib.hid ap; clear q1 q2 ap hw2))
      have hsz : w.heap.size + 1 < z.val.heap.size := hL1.lt
      have hsz4 : z.val.heap.size < z4.val.heap.size := by have := z4.ext.size; simp at this; omega
      have r05 := R0.out.up (show Ext z.val (z4.val.alloc (.cells #[.bool E.d, .slice p1 E.r.length cc1, .slice p2 E.w.length cc2] 40)) from (by repeat (first | (with_reducible exact Ext.refl _) | (with_reducible refine Ext.up ?_ _) | (with_reducible refine Ext.alloc ?_ _) | (with_reducible refine Ext.drew ?_) | (with_reducible refine Ext.setRow ?_ (by first | exact LeS.le | exact LeS.add _ | (simp; done) | (simp; omega)) _) | (with_reducible refine Ext.setCell ?_ (by first | exact LeS.le | exact LeS.add _ | (simp; done) | (simp; omega)) _))))
      have r15 := R1.out.up (show Ext z.val (z4.val.alloc (.cells #[.bool E.d, .slice p1 E.r.length cc1, .slice p2 E.w.length cc2] 40)) from (by repeat (first | (with_reducible exact Ext.refl _) | (with_reducible refine Ext.up ?_ _) | (with_reducible refine Ext.alloc ?_ _) | (with_reducible refine Ext.drew ?_) | (with_reducible refine Ext.setRow ?_ (by first | exact LeS.le | exact LeS.add _ | (simp; done) | (simp; omega)) _) | (with_reducible refine Ext.setCell ?_ (by first | exact LeS.le | exact LeS.add _ | (simp; done) | (simp; omega)) _))))
      have oe5 := Hoe.out.up (show Ext z.val (z4.val.alloc (.cells #[.bool E.d, .slice p1 E.r.length cc1, .slice p2 E.w.length cc2] 40)) from (by repeat (first | (with_reducible exact Ext.refl _) | (with_reducible refine Ext.up ?_ _) | (with_reducible refine Ext.alloc ?_ _) | (with_reducible refine Ext.drew ?_) | (with_reducible refine Ext.setRow ?_ (by first | exact LeS.le | exact LeS.add _ | (simp; done) | (simp; omega)) _) | (with_reducible refine Ext.setCell ?_ (by first | exact LeS.le | exact LeS.add _ | (simp; done) | (simp; omega)) _))))
      have q15 := Q1.out.up (show Ext z4.val (z4.val.alloc (.cells #[.bool E.d, .slice p1 E.r.length cc1, .slice p2 E.w.length cc2] 40)) from (by repeat (first | (with_reducible exact Ext.refl _) | (with_reducible refine Ext.up ?_ _) | (with_reducible refine Ext.alloc ?_ _) | (with_reducible refine Ext.drew ?_) | (with_reducible refine Ext.setRow ?_ (by first | exact LeS.le | exact LeS.add _ | (simp; done) | (simp; omega)) _) | (with_reducible refine Ext.setCell ?_ (by first | exact LeS.le | exact LeS.add _ | (simp; done) | (simp; omega)) _))))
      have q25 := Q2.out.up (show Ext z4.val (z4.val.alloc (.cells #[.bool E.d, .slice p1 E.r.length cc1, .slice p2 E.w.length cc2] 40)) from (by repeat (first | (with_reducible exact Ext.refl _) | (with_reducible refine Ext.up ?_ _) | (with_reducible refine Ext.alloc ?_ _) | (with_reducible refine Ext.drew ?_) | (with_reducible refine Ext.setRow ?_ (by first | exact LeS.le | exact LeS.add _ | (simp; done) | (simp; omega)) _) | (with_reducible refine Ext.setCell ?_ (by first | exact LeS.le | exact LeS.add _ | (simp; done) | (simp; omega)) _))))
      have hE5 : Ext w (z4.val.alloc (.cells #[.bool E.d, .slice p1 E.r.length cc1, .slice p2 E.w.length cc2] 40)) := (by repeat (first | (with_reducible exact Ext.refl _) | (with_reducible refine Ext.up ?_ _) | (with_reducible refine Ext.alloc ?_ _) | (with_reducible refine Ext.drew ?_) | (with_reducible refine Ext.setRow ?_ (by first | exact LeS.le | exact LeS.add _ | (simp; done) | (simp; omega)) _) | (with_reducible refine Ext.setCell ?_ (by first | exact LeS.le | exact LeS.add _ | (simp; done) | (simp; omega)) _)))
      have e5 : (z4.val.alloc (.cells #[.bool E.d, .slice p1 E.r.length cc1, .slice p2 E.w.length cc2] 40)).heap[z4.val.heap.size]? = some (.cells #[.bool E.d, .slice p1 E.r.length cc1, .slice p2 E.w.length cc2] 40 (0, 0)) := heap_alloc_new _ _
      have hw5 : ∀ (k : Nat) (y : Ent), E.w[k]? = some y → ∃ b off, p2 = some ⟨b, off, none⟩ ∧ w.heap.size < b ∧ LtS b (z4.val.alloc (.cells #[.bool E.d, .slice p1 E.r.length cc1, .slice p2 E.w.length cc2] 40)) ∧ ∀ j u, y.enc[j]? = some u → (z4.val.alloc (.cells #[.bool E.d, .slice p1 E.r.length cc1, .slice p2 E.w.length cc2] 40)).cell? ⟨b, off + k * 2 + j, none⟩ = some u := by
        intro k y hy
        obtain ⟨b, off, rfl, hlb, hcc⟩ := HW2.out k y hy
        have := (World.ownsRow.lt Q2.out b rfl).1
        simp at this
        refine ⟨b, off, rfl, by omega, inferInstance, fun j u hu => (LtS.cell_alloc _ _ _).trans (hcc j u hu)⟩
      have A1 := Lib.hid (Apart.of_lt Hoe.out.1 Q1.out (by simp)).symm
      have A2 := Lib.hid (Apart.of_lt Hoe.out.1 Q2.out (by simp)).symm
      have AY := Lib.hid (fun y (hy : y ∈ ts) => (⟨⟨Apart.of_lt (Hoe.out.2 y hy).1.1 Q1.out (by simp), Apart.of_lt (Hoe.out.2 y hy).1.1 Q2.out (by simp)⟩, ⟨Apart.of_lt (Hoe.out.2 y hy).2.1 Q1.out (by simp), Apart.of_lt (Hoe.out.2 y hy).2.1 Q2.out (by simp)⟩⟩ : (Apart y.vr (.slice p1 E.r.length cc1) ∧ Apart y.vr (.slice p2 E.w.length cc2)) ∧ (Apart y.vw (.slice p1 E.r.length cc1) ∧ Apart y.vw (.slice p2 E.w.length cc2))))
      have hlo : w.heap.size + 1 + 1 ≤ (z.val.alloc (.cells #[.int .i64 x.kind, .int .i64 x.src, .int .i64 x.dst, .int .i64 x.amt] 24)).heap.size := by simp; omega
      have hlt5 : z4.val.heap.size < (z4.val.alloc (.cells #[.bool E.d, .slice p1 E.r.length cc1, .slice p2 E.w.length cc2] 40)).heap.size := by simp
      generalize z4.val.alloc (.cells #[.bool E.d, .slice p1 E.r.length cc1, .slice p2 E.w.length cc2] 40) = W5 at *
      generalize z4.val.heap.size = G5 at *
      have HW5 := Lib.hid hw5; have R05 := Lib.hid r05; have R15 := Lib.hid r15; have OE5 := Lib.hid oe5; have Q15 := Lib.hid (q15.lo hlo); have Q25 := Lib.hid (q25.lo hlo); have HE5 := Lib.hid hE5; have E5 := Lib.hid e5
      have hL5 : LtS w.heap.size W5 := ⟨by omega⟩
      have hL51 : LtS (w.heap.size + 1) W5 := ⟨by omega⟩
      have hL5G : LtS G5 W5 := ⟨hlt5⟩
      have hN5 : NeS G5 w.heap.size := ⟨by omega⟩
      have hNw : NeS (w.heap.size + 1) w.heap.size := ⟨by omega⟩
      clear hw5 r05 r15 oe5 q15 q25 hE5 e5 HW2 Q1 Q2 hlo hlt5 R0 R1 kr
      go_loopw [24] (fun s24 wr => ∃ (j : Nat), s24 = .int .i64 j ∧ j ≤ E.w.length ∧ (∃ z5 : ExtR w.heap.size W5, wr = z5.val) ∧ Row 99 wr w.heap.size (vsets R.1 (E.w.take j))) (fun s24 _ => E.w.length - (intOf s24).toNat)
      case atStart => exact ⟨0, rfl, Nat.zero_le _, ⟨⟨W5, grownBy_refl _ _⟩, rfl⟩, R05.out⟩
      case round =>
        obtain ⟨j, rfl, hj, ⟨z5, rfl⟩, rj⟩ := hrel
        by_cases hjl : j < E.w.length
        · obtain ⟨y, hyk⟩ := getElem?_some_of_lt hjl
          obtain ⟨b, offb, rfl, hbw, hlb, hcc⟩ := HW5.out j y hyk
          have hNb : NeS b w.heap.size := ⟨by omega⟩
          have y0 : W5.cell? ⟨b, offb + j * 2, none⟩ = some (.int .i64 y.k) := hcc 0 _ rfl
          have y1 : W5.cell? ⟨b, offb + j * 2 + 1, none⟩ = some (.int .i64 y.v) := hcc 1 _ rfl
          obtain ⟨k0, k1, _, _⟩ := hei.out y (List.mem_of_getElem? hyk)
          have k2 : y.k < 32 := by omega
          obtain ⟨u, hu⟩ := getElem?_some_of_lt (l := vsets R.1 (E.w.take j)) (k := y.k.toNat) (by rw [vsets_length, hVl'.out]; omega)
          have d0 := rj.cell hu
          have f0 := rj.frozen y.k.toNat
          have hLj := rj.lts
          have RJ := Lib.hid rj
          have Hs := Lib.hid (vsets_snoc R.1 hyk)
          clear hcc hyk hu rj
          go_wp2_with fail
          go_roundw
          case rel => exact ⟨j + 1, by go_num, by omega, ExtR.of (grownBy_trans (GB.alloc z5.grown _) (grownBy_set _ _ _)), by rw [Hs.out]; exact (RJ.out.alloc _).set _ _⟩
          case measure => simp [intOf]; omega
        · obtain rfl : j = E.w.length := by omega
          rw [List.take_length] at rj
          have RJ := Lib.hid rj
          have r15 : Row 99 z5.val (w.heap.size + 1) zeros := (z5.block hL51.lt hNw.ne).trans R15.out
          have OEZ := Lib.hid (OE.keepR OE5.out z5.grown (by omega))
          have Q1Z := Lib.hid (Own.kept Q15.out z5.grown (Q15.out.ne_rb (by omega)))
          have Q2Z := Lib.hid (Own.kept Q25.out z5.grown (Q25.out.ne_rb (by omega)))
          have eG := (z5.block hL5G.lt hN5.ne).trans E5.out
          have g50 : z5.val.cell? ⟨G5, 0, none⟩ = some (.bool E.d) := cell_of_row _ _ 0 _ _ _ eG
          have g51 : z5.val.cell? ⟨G5, 1, none⟩ = some (.slice p1 E.r.length cc1) := cell_of_row _ _ 1 _ _ _ eG
          have g52 : z5.val.cell? ⟨G5, 2, none⟩ = some (.slice p2 E.w.length cc2) := cell_of_row _ _ 2 _ _ _ eG
          have HEZ : Hid (Ext w z5.val) := Lib.hid (HE5.out.upR (Nat.le_refl _) z5)
          have hszz : W5.heap.size ≤ z5.val.heap.size := z5.grown.size
          have R1Z := Lib.hid r15
          have hL5l := hL5.lt
          have hL51l := hL51.lt
          clear rj r15 eG
          go_wp2_with (at_builtin; refine wpList_pushG fEff rfl (.tmp 34) (.tmp 36) rfl TE.enc TE.enc_length w (lo := w.heap.size + 1 + 1) [⟨E.d, .slice p1 E.r.length cc1, .slice p2 E.w.length cc2, E.r, E.w⟩] ts rfl OEZ.out.1 HEZ.out (by omega) (by omega) rfl rfl (by go_simp) rfl (oneTE _ (by intro y hy; simp at hy; subst hy; exact ⟨⟨_, _, _, rfl⟩, ⟨_, _, _, rfl⟩⟩)) (by simp; omega) (by simp; omega) ?_; intro v7 z7 o7 g7 b7)
          have S0 := Lib.hid (rowKept OEZ.out.1 (by omega) RJ.out.eq g7)
          have S1 := Lib.hid (rowKept OEZ.out.1 (by omega) R1Z.out.eq g7)
          have OE7 := Lib.hid (OE.snoc (OEZ.out.up (by repeat (first | (with_reducible exact Ext.refl _) | (with_reducible refine Ext.up ?_ _) | (with_reducible refine Ext.alloc ?_ _) | (with_reducible refine Ext.drew ?_) | (with_reducible refine Ext.setRow ?_ (by first | exact LeS.le | exact LeS.add _ | (simp; done) | (simp; omega)) _) | (with_reducible refine Ext.setCell ?_ (by first | exact LeS.le | exact LeS.add _ | (simp; done) | (simp; omega)) _)))) g7 b7 o7 (Q1Z.out.up (by repeat (first | (with_reducible exact Ext.refl _) | (with_reducible refine Ext.up ?_ _) | (with_reducible refine Ext.alloc ?_ _) | (with_reducible refine Ext.drew ?_) | (with_reducible refine Ext.setRow ?_ (by first | exact LeS.le | exact LeS.add _ | (simp; done) | (simp; omega)) _) | (with_reducible refine Ext.setCell ?_ (by first | exact LeS.le | exact LeS.add _ | (simp; done) | (simp; omega)) _)))) A1.out (Q2Z.out.up (by repeat (first | (with_reducible exact Ext.refl _) | (with_reducible refine Ext.up ?_ _) | (with_reducible refine Ext.alloc ?_ _) | (with_reducible refine Ext.drew ?_) | (with_reducible refine Ext.setRow ?_ (by first | exact LeS.le | exact LeS.add _ | (simp; done) | (simp; omega)) _) | (with_reducible refine Ext.setCell ?_ (by first | exact LeS.le | exact LeS.add _ | (simp; done) | (simp; omega)) _)))) A2.out)
          clear o7 g7 b7
          go_wp2_with fail
          go_roundw
          case rel =>
            refine ⟨k + 1, _, by go_num, by omega, ⟨z7, rfl⟩, ?_, S1.out, OE7.out, ?_, PW.snoc Hpw.out AP.out AY.out⟩
            · rw [Hsn.out]
              show Row 99 z7.val w.heap.size (vsets R.1 (runV R.1 x).w)
              rw [HE.out]
              exact S0.out
            · rw [Hsn.out]
              show _ = R.2 ++ [runV R.1 x]
              rw [HE.out, List.map_append, Hts.out]; rfl
          case measure => simp [intOf]; omega
    · obtain rfl : k = l.length := by omega
      rw [List.take_length] at r0 Hts
      have hRl : (runAll v l).1.length = 32 := runStep_len Hv.out
      have R0 := Lib.hid r0; have R1 := Lib.hid r1
      clear hcl r0 r1
      go_wp2_with (first | (refine wpList_load_row rfl _ _ rfl _ rfl _ _ _ _ R0.out.eq Try.underlying99 rfl (by rw [vA_size, hRl]; exact Try.sVals) ?_) | (refine wpList_store_row rfl _ _ _ rfl _ _ rfl rfl _ _ R1.out.eq (by rw [vA_size, hRl]; exact Try.sVals) (by rw [vA_size, vA_size, hRl, zeros_length]) (vA_one _) ?_))
      refine bodyPost_ret (results_cell_row2 (p := 4) (q := 5) (by kernel_rfl) _ _ (w.heap.size + 1) _ (vA (runAll v l).1) (0, 0) _ rfl rfl (R1.out.setRow _).eq Try.underlying99 rfl (by rw [vA_size, hRl]; exact Try.sVals)) rfl ⟨_, ts, rfl, (.of (by repeat (first | exact Ext.refl _ | refine Ext.up ?_ _ | refine Ext.alloc ?_ _ | refine Ext.drew ?_ | refine Ext.setRow ?_ (by first | (dsimp only; omega) | exact LeS.le | exact LeS.add _ | (simp; done) | (simp; omega)) _ | refine Ext.setCell ?_ (by first | (dsimp only; omega) | exact LeS.le | exact LeS.add _ | (simp; done) | (simp; omega)) _))), (OE.keepR Hoe.out (grownBy_setRow _ _ _) (by omega)).lo (by omega), Hts.out, Hpw.out⟩
end Go.Proofs.Ytkboefmkfpnpjaa
namespace Go.Proofs.Ytkboefmkfpnpjaa
open Go Go.RowKit Go.Proofs

theorem conflict_ok {x y : Actn} (hx : x.ok = true) (hy : y.ok = true) : conflict x y = conf x y := by simp [conflict, hx, hy]
theorem icell {w : World} {o : List Int} {a : Option Addr} (hc : ∀ (k : Nat) x, o[k]? = some x → ∃ b off, a = some ⟨b, off, none⟩ ∧ LtS b w ∧ ∀ j u, (encI x)[j]? = some u → w.cell? ⟨b, off + k * 1 + j, none⟩ = some u) {b off : Nat} (ha : a = some ⟨b, off, none⟩) {k : Nat} {x : Int} (hx : o[k]? = some x) :
    w.cell? ⟨b, off + k, none⟩ = some (.int .i64 x) := by
  obtain ⟨b', off', e, _, hcc⟩ := hc k x hx
  rw [ha] at e
  simp only [Option.some.injEq, Addr.mk.injEq, and_true] at e
  obtain ⟨rfl, rfl⟩ := e
  have := hcc 0 _ rfl; simpa using this
set_option maxHeartbeats 8000000 in
theorem sOrderFits_any (l : List Actn) (o : List Int) (vl vo : Value) (w : World) (hl : SL (RF Actn.enc) 4 w vl l) (ho : SL (RF encI) 1 w vo o) :
    Calls Try.prog 27 #[vl, vo] w fun e w' => e = .returned (.bool (ordOk l o)) ∧ Up w w' := by
  have Hl := Lib.hid hl; have Ho := Lib.hid ho
  obtain ⟨pl, cl, hvl, hll, hcl⟩ := hl.open
  obtain ⟨po, co, hvo, hlo, hco⟩ := ho.open
  subst hvl; subst hvo
  clear hl ho
  rcases ha : actsOk l with _ | _
  · have Hf := Lib.hid (show ordOk l o = false by rw [ordOk, ha]; rfl)
    go_enter Try.func27, Try.ntmps27
    go_wp2_with (go_at_call 36; refine (sActionsValid_any l _ _ Hl.out).mono ?_; rintro e w' ⟨rfl, z1, rfl⟩)
    go_ret
    exact ⟨by rw [Hf.out]; rfl, (.of (by repeat (first | exact Ext.refl _ | refine Ext.up ?_ _ | refine Ext.alloc ?_ _ | refine Ext.drew ?_ | refine Ext.setRow ?_ (by first | (dsimp only; omega) | exact LeS.le | exact LeS.add _ | (simp; done) | (simp; omega)) _ | refine Ext.setCell ?_ (by first | (dsimp only; omega) | exact LeS.le | exact LeS.add _ | (simp; done) | (simp; omega)) _)))⟩
  by_cases hlen : o.length = l.length
  rotate_left
  · have Hf := Lib.hid (show ordOk l o = false by rw [ordOk, decide_eq_false hlen]; simp)
    have hne : ((o.length : Int) != (l.length : Int)) = true := by rw [bne_iff_ne]; omega
    go_enter Try.func27, Try.ntmps27
    go_wp2_with (go_at_call 36; refine (sActionsValid_any l _ _ Hl.out).mono ?_; rintro e w' ⟨rfl, z1, rfl⟩)
    go_ret
    exact ⟨by rw [Hf.out]; rfl, (.of (by repeat (first | exact Ext.refl _ | refine Ext.up ?_ _ | refine Ext.alloc ?_ _ | refine Ext.drew ?_ | refine Ext.setRow ?_ (by first | (dsimp only; omega) | exact LeS.le | exact LeS.add _ | (simp; done) | (simp; omega)) _ | refine Ext.setCell ?_ (by first | (dsimp only; omega) | exact LeS.le | exact LeS.add _ | (simp; done) | (simp; omega)) _)))⟩
  have Hfin := Lib.hid (show ordOk l o = upTo (ordAt l o) o.length by rw [ordOk, decide_eq_true hlen, ha]; rfl)
  have hne : ((o.length : Int) != (l.length : Int)) = false := by rw [bne_eq_false_iff_eq]; omega
  have hl10 := actsOk_len ha
  have Ha := Lib.hid ha
  have hle1 : o.length ≤ l.length := by omega
  have hle2 : l.length ≤ o.length := by omega
  clear hlen
  go_enter Try.func27, Try.ntmps27
  go_wp2_with (go_at_call 36; refine (sActionsValid_any l _ _ Hl.out).mono ?_; rintro e w' ⟨rfl, z1, rfl⟩)
  clear hne
  go_loopw [5, 6] (fun s5 _ wr => ∃ k : Nat, s5 = .int .i64 k ∧ k ≤ o.length ∧ upTo (ordAt l o) k = true ∧ Up w wr) (fun s5 _ _ => o.length - (intOf s5).toNat)
  case atStart => exact ⟨0, rfl, Nat.zero_le _, rfl, (.of (by repeat (first | exact Ext.refl _ | refine Ext.up ?_ _ | refine Ext.alloc ?_ _ | refine Ext.drew ?_ | refine Ext.setRow ?_ (by first | (dsimp only; omega) | exact LeS.le | exact LeS.add _ | (simp; done) | (simp; omega)) _ | refine Ext.setCell ?_ (by first | (dsimp only; omega) | exact LeS.le | exact LeS.add _ | (simp; done) | (simp; omega)) _)))⟩
  case round =>
    obtain ⟨k, rfl, hk, hall, ⟨z, rfl⟩⟩ := hrel
    by_cases hlt : k < o.length
    · obtain ⟨n, hnk⟩ := getElem?_some_of_lt hlt
      obtain ⟨b, off, hpo, hb, _⟩ := hco k n hnk
      have c0 := icell hco hpo hnk
      subst hpo
      have Hn := Lib.hid hnk; have Hall := Lib.hid hall
      have Hco := Lib.hid hco; have Hcl := Lib.hid hcl
      have hk0 : (0 : Int) ≤ (k : Int) := by omega
      have hk1 : (k : Int) < o.length := by omega
      clear hnk hall hco hcl
      rcases hr : inR n 0 ((l.length : Int) - 1) with _ | _
      · have Hf := Lib.hid (show ordAt l o k = false by rw [ordAt_eq Hn.out, hr]; rfl)
        go_wp2_with (go_at_call 66; refine (l1In_any _ _ _ _).mono ?_; rintro e w' ⟨rfl, rfl⟩)
        go_ret
        exact ⟨by rw [Hfin.out, upTo_false hlt Hf.out]; rfl, (.of (by repeat (first | exact Ext.refl _ | refine Ext.up ?_ _ | refine Ext.alloc ?_ _ | refine Ext.drew ?_ | refine Ext.setRow ?_ (by first | (dsimp only; omega) | exact LeS.le | exact LeS.add _ | (simp; done) | (simp; omega)) _ | refine Ext.setCell ?_ (by first | (dsimp only; omega) | exact LeS.le | exact LeS.add _ | (simp; done) | (simp; omega)) _)))⟩
      obtain ⟨n0, n1⟩ := inR_iff.1 hr
      go_wp2_with (go_at_call 66; refine (l1In_any _ _ _ _).mono ?_; rintro e w' ⟨rfl, rfl⟩)
      go_loopw [6] (fun s6 wr => ∃ j : Nat, s6 = .int .i64 j ∧ j ≤ k ∧ upTo (pairOk l o k) j = true ∧ Up w wr) (fun s6 _ => k - (intOf s6).toNat)
      case atStart => exact ⟨0, rfl, Nat.zero_le _, rfl, (.of (by repeat (first | exact Ext.refl _ | refine Ext.up ?_ _ | refine Ext.alloc ?_ _ | refine Ext.drew ?_ | refine Ext.setRow ?_ (by first | (dsimp only; omega) | exact LeS.le | exact LeS.add _ | (simp; done) | (simp; omega)) _ | refine Ext.setCell ?_ (by first | (dsimp only; omega) | exact LeS.le | exact LeS.add _ | (simp; done) | (simp; omega)) _)))⟩
      case round =>
        obtain ⟨j, rfl, hj, hpairs, ⟨z2, rfl⟩⟩ := hrel
        by_cases hjt : j < k
        · obtain ⟨m, hmj⟩ := getElem?_some_of_lt (show j < o.length by omega)
          obtain ⟨m0, m1⟩ := ordAt_in Hall.out hjt hmj
          have d0 := icell Hco.out rfl hmj
          obtain ⟨x, hx⟩ := getElem?_some_of_lt (show m.toNat < l.length by omega)
          obtain ⟨y, hy⟩ := getElem?_some_of_lt (show n.toNat < l.length by omega)
          have hok1 := actsOk_at Ha.out hx
          have hok2 := actsOk_at Ha.out hy
          obtain ⟨bl, offl, hpl, hbl, _⟩ := Hcl.out _ x hx
          obtain ⟨x0, x1, x2, x3⟩ := acell Hcl.out hpl hx
          obtain ⟨y0, y1, y2, y3⟩ := acell Hcl.out hpl hy
          subst hpl
          have n1' : n < (l.length : Int) := by omega
          have hj0 : (0 : Int) ≤ (j : Int) := by omega
          have hj1 : (j : Int) < o.length := by omega
          have Hp := Lib.hid (pairOk_eq (l := l) hmj Hn.out); have Hcf := Lib.hid (cfAt_eq hx hy); have Hpairs := Lib.hid hpairs
          have Hk := Lib.hid (conflict_ok hok1 hok2)
          clear hmj hx hy hpairs hok1 hok2
          rcases eq_cases m n with ⟨he, he'⟩ | ⟨he, he'⟩
          · have Hf := Lib.hid (show pairOk l o k j = false by rw [Hp.out]; simp [he]); clear he
            go_wp2_with fail
            (refine wp_region_up (by kernel_rfl) (by kernel_rfl) ?_; (repeat (go_big_quiet_step (fail))); refine wpQuiet_nil ?_; intro _ hw'; obtain ⟨zq, hw''⟩ := hw'; subst hw'')
            go_wp2_with fail
            go_ret
            refine ⟨?_, (.of (by repeat (first | exact Ext.refl _ | refine Ext.up ?_ _ | refine Ext.alloc ?_ _ | refine Ext.drew ?_ | refine Ext.setRow ?_ (by first | (dsimp only; omega) | exact LeS.le | exact LeS.add _ | (simp; done) | (simp; omega)) _ | refine Ext.setCell ?_ (by first | (dsimp only; omega) | exact LeS.le | exact LeS.add _ | (simp; done) | (simp; omega)) _)))⟩
            have h1 : upTo (pairOk l o k) k = false := upTo_false hjt Hf.out
            rw [Hfin.out, upTo_false hlt (by rw [ordAt_eq Hn.out, h1]; simp)]; rfl
          by_cases hg : n < m
          · have hg' : decide (n < m) = true := by simpa using hg
            rcases hcf : conf x y with _ | _
            · have Hf := Lib.hid (show pairOk l o k j = true by rw [Hp.out, Hcf.out, hcf]; simpa using he); clear he
              go_wp2_with fail
              (refine wp_region_up (by kernel_rfl) (by kernel_rfl) ?_; (repeat (go_big_quiet_step ((go_at_call 16; exact Calls.up (((Hk.out.trans hcf) ▸ sConflict_any x y _)))))); refine wpQuiet_nil ?_; intro _ hw'; obtain ⟨zq, hw''⟩ := hw'; subst hw'')
              go_wp2_with fail
              go_roundw
              case rel => exact ⟨j + 1, by go_num, by omega, upTo_succ Hpairs.out Hf.out, (.of (by repeat (first | exact Ext.refl _ | refine Ext.up ?_ _ | refine Ext.alloc ?_ _ | refine Ext.drew ?_ | refine Ext.setRow ?_ (by first | (dsimp only; omega) | exact LeS.le | exact LeS.add _ | (simp; done) | (simp; omega)) _ | refine Ext.setCell ?_ (by first | (dsimp only; omega) | exact LeS.le | exact LeS.add _ | (simp; done) | (simp; omega)) _)))⟩
              case measure => simp [intOf]; omega
            · have Hf := Lib.hid (show pairOk l o k j = false by rw [Hp.out, Hcf.out, hcf]; simp [hg]); clear he
              go_wp2_with fail
              (refine wp_region_up (by kernel_rfl) (by kernel_rfl) ?_; (repeat (go_big_quiet_step ((go_at_call 16; exact Calls.up (((Hk.out.trans hcf) ▸ sConflict_any x y _)))))); refine wpQuiet_nil ?_; intro _ hw'; obtain ⟨zq, hw''⟩ := hw'; subst hw'')
              go_wp2_with fail
              go_ret
              refine ⟨?_, (.of (by repeat (first | exact Ext.refl _ | refine Ext.up ?_ _ | refine Ext.alloc ?_ _ | refine Ext.drew ?_ | refine Ext.setRow ?_ (by first | (dsimp only; omega) | exact LeS.le | exact LeS.add _ | (simp; done) | (simp; omega)) _ | refine Ext.setCell ?_ (by first | (dsimp only; omega) | exact LeS.le | exact LeS.add _ | (simp; done) | (simp; omega)) _)))⟩
              have h1 : upTo (pairOk l o k) k = false := upTo_false hjt Hf.out
              rw [Hfin.out, upTo_false hlt (by rw [ordAt_eq Hn.out, h1]; simp)]; rfl
          · have hg' : decide (n < m) = false := by simpa using hg
            have Hf := Lib.hid (show pairOk l o k j = true by rw [Hp.out]; simpa [hg] using he); clear he
            go_wp2_with fail
            (refine wp_region_up (by kernel_rfl) (by kernel_rfl) ?_; (repeat (go_big_quiet_step (fail))); refine wpQuiet_nil ?_; intro _ hw'; obtain ⟨zq, hw''⟩ := hw'; subst hw'')
            go_wp2_with fail
            go_roundw
            case rel => exact ⟨j + 1, by go_num, by omega, upTo_succ Hpairs.out Hf.out, (.of (by repeat (first | exact Ext.refl _ | refine Ext.up ?_ _ | refine Ext.alloc ?_ _ | refine Ext.drew ?_ | refine Ext.setRow ?_ (by first | (dsimp only; omega) | exact LeS.le | exact LeS.add _ | (simp; done) | (simp; omega)) _ | refine Ext.setCell ?_ (by first | (dsimp only; omega) | exact LeS.le | exact LeS.add _ | (simp; done) | (simp; omega)) _)))⟩
            case measure => simp [intOf]; omega
        · obtain rfl : j = k := by omega
          have Hpairs := Lib.hid hpairs; clear hpairs
          go_wp2_with fail
          go_roundw
          case rel => exact ⟨j + 1, by go_num, by omega, upTo_succ Hall.out (by rw [ordAt_eq Hn.out, hr, Hpairs.out]; rfl), (.of (by repeat (first | exact Ext.refl _ | refine Ext.up ?_ _ | refine Ext.alloc ?_ _ | refine Ext.drew ?_ | refine Ext.setRow ?_ (by first | (dsimp only; omega) | exact LeS.le | exact LeS.add _ | (simp; done) | (simp; omega)) _ | refine Ext.setCell ?_ (by first | (dsimp only; omega) | exact LeS.le | exact LeS.add _ | (simp; done) | (simp; omega)) _)))⟩
          case measure => simp [intOf]; omega
    · go_wp2_with fail
      go_ret
      obtain rfl : k = o.length := by omega
      exact ⟨by rw [Hfin.out, hall]; rfl, z, rfl⟩
end Go.Proofs.Ytkboefmkfpnpjaa
namespace Go.Proofs.Ytkboefmkfpnpjaa
open Go Go.RowKit Go.Proofs

theorem run_clone {P : Program} (w : World) (base : Nat) (t ty e : TypeId) (i : TypeInfo) (z : Value) (size bytes : Nat) (ht : P.underlying t = some (.slice e)) (hi : P.info? e = some i) (hz : i.zero = some z)
    (hsize : i.size = size) (hby : i.bytes = bytes) (hzs : z.cells.size = size) (hsz : 0 < size) (g : Nat) (hown : w.ownsRow base e size (.slice (some ⟨g, 0, none⟩) 0 0) 0 [])
    (a : Addr) (m c : Nat) (news : List Value) (hl : news.length = m * size) (hnews : ∀ j u, news[j]? = some u → w.cell? (a.add j) = some u) (h1 : ∀ u ∈ news, u.oneCell' = true)
    (h63 : m ≤ maxLen) (hbytes : m * bytes ≤ 140737488355328) (hbase : base ≤ w.heap.size) :
    ∃ v' w', (Builtin.append_ #[t, t] ty #[.slice (some ⟨g, 0, none⟩) 0 0, .slice (some a) m c]).run P w = .ok v' w' ∧ w'.ownsRow base e size v' m news ∧ Ext w w' ∧ (v'.ownBlock = some g ∨ v'.ownBlock = some w.heap.size) := by
  by_cases hm : m = 0
  · subst hm
    have hn : news = [] := List.eq_nil_of_length_eq_zero (by simpa using hl)
    subst hn
    refine ⟨_, w, ?_, hown, Ext.refl w, .inl rfl⟩
    simp [Builtin.append_, run_underlying ht, sizeOf, typeInfo, hi, Builtin.lenOf, Builtin.firstCells, loadCells, loadCellsFrom, storeCells]
  · obtain ⟨v', w', hr, h2, h3, h4, h5⟩ := run_append_own_at (P := P) w base t ty e i z size bytes ht hi hz hsize hby hzs hsz _ 0 [] hown a m c news hl hnews h1 (by omega) (by simpa using hbytes) hbase
    have hr2 := run_append_grow (P := P) w t ty e i z ht hi hz ⟨g, 0, none⟩ 0 0 [] (by simp) (by simp) a m c news (by rw [hsize]; exact hl) hnews (by omega) (by simp only [maxLen] at h63; omega) (growslice_fits (by omega) (by rw [hby]; simpa using hbytes))
    rw [hr] at hr2
    simp only [Result.ok.injEq] at hr2
    refine ⟨v', w', hr, by simpa using h2, ?_, ?_⟩
    · rw [hr2.2]; exact ((Ext.refl w).drew).alloc _
    · rw [hr2.1]; exact .inr rfl
theorem heap_alloc_at {W : World} {o : Obj} {g : Nat} (hg : g = W.heap.size) : (W.alloc o).heap[g]? = some o := by subst hg; exact heap_alloc_new _ _
theorem Extd.row_lt {W : World} (z : Extd W) {n : Nat} (h : n < W.heap.size) : z.val.heap[n]? = W.heap[n]? := z.ext.block h
theorem drew_row (W : World) (n : Nat) : W.drew.heap[n]? = W.heap[n]? := rfl
theorem own_lit0 {α : Type} {enc : α → List Value} {e sz lo g : Nat} {W : World} (hrow : W.heap[g]? = some (.cells #[] e (0, 0))) (hlo : lo ≤ g) : Own enc e sz lo W (.slice (some ⟨g, 0, none⟩) 0 0) [] :=
  ⟨by simp, .inr ⟨g, 0, #[], rfl, hlo, hrow, Nat.le_refl _, by decide, by simp, by simp⟩⟩
section
variable {P : Program} {t e sz bytes : Nat} (F : AppFacts P t e sz bytes) {α : Type} (enc : α → List Value) (he : ∀ x, (enc x).length = sz) {lo : Nat} {w : World} (ys : List α) {vx : Value} {g : Nat}
include F he
theorem clone_run (ty : TypeId) (hown : Own enc e sz lo w (.slice (some ⟨g, 0, none⟩) 0 0) []) (hys : SL (RF enc) sz w vx ys) (h1 : ∀ u ∈ ys.flatMap enc, u.oneCell' = true) (hb : ys.length * bytes ≤ 140737488355328) (hb' : ys.length ≤ 9223372036854775807) (hlo' : lo ≤ w.heap.size) :
    ∃ v' w', (Builtin.append_ #[t, t] ty #[.slice (some ⟨g, 0, none⟩) 0 0, vx]).run P w = .ok v' w' ∧ Own enc e sz lo w' v' ys ∧ Ext w w' ∧ (v'.ownBlock = some g ∨ v'.ownBlock = some w.heap.size) := by
  obtain ⟨i, z, hi, hz, hsize, hby, hzs⟩ := F.info
  have hown' : w.ownsRow lo e sz (.slice (some ⟨g, 0, none⟩) 0 0) 0 [] := hown
  obtain ⟨p, c, rfl, _, hc⟩ := hys.open
  rcases p with _ | ad
  · obtain rfl : ys = [] := by
      cases ys with
      | nil => rfl
      | cons y ys => obtain ⟨_, _, e2, _⟩ := hc 0 y rfl; cases e2
    exact ⟨_, w, run_append_none (P := P) (w := w) lo t ty e i sz F.und hi _ 0 c _ hown', hown, Ext.refl w, .inl rfl⟩
  · obtain ⟨v', w1, hr, h2, h3, h5⟩ := run_clone (P := P) w lo t ty e i z sz bytes F.und hi hz hsize hby hzs F.pos g hown' ad ys.length c (ys.flatMap enc) (flatMap_length he ys) (fun j u hu => by
      have hj := (List.getElem?_eq_some_iff.1 hu).1
      have h0 : 0 < ys.length := by
        cases ys with
        | nil => simp at hj
        | cons y ys => simp
      obtain ⟨y, hy⟩ := getElem?_some_of_lt (l := ys) (k := 0) h0
      obtain ⟨b, off, e2, _⟩ := hc 0 y hy
      cases e2
      have e1 : (⟨b, off, none⟩ : Addr).add j = ⟨b, off + j, none⟩ := by unfold Addr.add; split <;> simp_all
      rw [e1]
      exact SL.flatC he hys j u hu) h1 (by simpa [maxLen] using hb') hb hlo'
    exact ⟨v', w1, hr, h2, h3, h5⟩
theorem step_clone {ops : Array Oper} {o : Oper} {a : Act} {K : Act → World → Prop} {Q : Exit → Act → World → Prop} {E : Prop} (hw : Region.wanted o (yielded ops a.tmps) = true) (s x : Operand)
    (ho : o.op = .call { callee := .builtin .append, args := #[s, x], argTypes := #[t, t] }) (hs : a.eval s = .slice (some ⟨g, 0, none⟩) 0 0) (hx : a.eval x = vx) (hrow : w.heap[g]? = some (.cells #[] e (0, 0))) (hlo : lo ≤ g) (hys : SL (RF enc) sz w vx ys)
    (h1 : ∀ u ∈ ys.flatMap enc, u.oneCell' = true) (hb : ys.length * bytes ≤ 140737488355328) (hb' : ys.length ≤ 9223372036854775807)
    (h : ∀ v' (z1 : Extd w), Own enc e sz lo z1.val v' ys → (v'.ownBlock = some g ∨ v'.ownBlock = some w.heap.size) → K (a.put o.dst v') z1.val) :
    if Region.wanted o (yielded ops a.tmps) = true then Oper.wp P o a w K Q else E := by
  rw [if_pos hw]
  have hgl := (Array.getElem?_eq_some_iff.1 hrow).1
  obtain ⟨v', w1, hr, h2, h3, h5⟩ := clone_run F enc he ys o.type (own_lit0 (enc := enc) (sz := sz) hrow hlo) hys h1 hb hb' (by omega)
  unfold Oper.wp execOp
  simp only [ho, resolve, invoke, builtin, Sem.run_bind, Sem.run_pure, Result.andThen_ok, List.map_toArray, List.map_cons, List.map_nil, hs, hx, hr]
  exact h v' ⟨w1, h3⟩ h2 h5
theorem wpList_clone {ops : Array Oper} {rest : List Oper} {o : Oper} {a : Act} {Q : Exit → Act → World → Prop} (hgd : o.guard = none) (s x : Operand)
    (ho : o.op = .call { callee := .builtin .append, args := #[s, x], argTypes := #[t, t] }) (hs : a.eval s = .slice (some ⟨g, 0, none⟩) 0 0) (hx : a.eval x = vx) (hrow : w.heap[g]? = some (.cells #[] e (0, 0))) (hlo : lo ≤ g) (hys : SL (RF enc) sz w vx ys)
    (h1 : ∀ u ∈ ys.flatMap enc, u.oneCell' = true) (hb : ys.length * bytes ≤ 140737488355328) (hb' : ys.length ≤ 9223372036854775807)
    (h : ∀ v' (z1 : Extd w), Own enc e sz lo z1.val v' ys → (v'.ownBlock = some g ∨ v'.ownBlock = some w.heap.size) → wpList P ops Q rest (a.put o.dst v') z1.val) : wpList P ops Q (o :: rest) a w := by
  have hgl := (Array.getElem?_eq_some_iff.1 hrow).1
  obtain ⟨v', w1, hr, h2, h3, h5⟩ := clone_run F enc he ys o.type (own_lit0 (enc := enc) (sz := sz) hrow hlo) hys h1 hb hb' (by omega)
  refine wpList_plain hgd fun K hK => ?_
  unfold Oper.wp execOp
  simp only [ho, resolve, invoke, builtin, Sem.run_bind, Sem.run_pure, Result.andThen_ok, List.map_toArray, List.map_cons, List.map_nil, hs, hx, hr]
  exact hK _ _ (h v' ⟨w1, h3⟩ h2 h5)
end
end Go.Proofs.Ytkboefmkfpnpjaa
