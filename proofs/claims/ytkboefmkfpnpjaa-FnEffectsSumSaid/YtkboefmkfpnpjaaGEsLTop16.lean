/- Walks: actions over a store: the reference's side. Walks: drawn effects. Plain ground: the operations of a region, one by one. -/
import Derived.Test.YtkboefmkfpnpjaaGEsLTop15
import Derived.Test.YtkboefmkfpnpjaaGEsLTop12
import Derived.Test.YtkboefmkfpnpjaaGEsLTop13
set_option linter.unusedSimpArgs false
set_option linter.unusedVariables false
namespace Go.Proofs.Ytkboefmkfpnpjaa
open Go Go.RowKit Go.Proofs

set_option maxRecDepth 100000 in
set_option maxHeartbeats 2000000 in
theorem sRunAction_yes (s : List Ent) (x : Actn) (v : Value) (w : World) (h : SL (RF Ent.enc) 2 w v s) (hok : entsOk 1 s = true) (hx : x.ok = true) :
    Calls Try.prog 76 #[v, .agg #[.int .i64 x.kind, .int .i64 x.src, .int .i64 x.dst, .int .i64 x.amt]] w fun e w' => ∃ vr vw, e = .returned (.agg #[.bool (runE x (atK s x.src) (atK s x.dst)).d, vr, vw]) ∧ Up w w' ∧
      Own Ent.enc 31 2 w.heap.size w' vr (runE x (atK s x.src) (atK s x.dst)).r ∧ Own Ent.enc 31 2 w.heap.size w' vw (runE x (atK s x.src) (atK s x.dst)).w ∧ Apart vr vw := by
  have H := Lib.hid h
  obtain ⟨p, c, rfl, _, _⟩ := h.openc
  have kv := fun w (h : SL (RF Ent.enc) 2 w (.slice p s.length c) s) => sStoreValid_any s _ w h
  simp only [hok] at kv
  have ka := fun w => sActionValid_any x w
  simp only [hx] at ka
  obtain ⟨f0, f1⟩ := atK_in hok (by decide) x.src
  obtain ⟨t0, t1⟩ := atK_in hok (by decide) x.dst
  clear h
  generalize hE : runE x (atK s x.src) (atK s x.dst) = E
  have kr := fun w => l6Run_any x (atK s x.src) (atK s x.dst) w hx f0 f1 t0 t1
  simp only [hE] at kr
  clear hE hx hok
  go_enter Try.func76, Try.ntmps76
  go_wp2_with (first | (go_at_call 26; refine (kv _ (H.out.up (by repeat (first | (with_reducible exact Ext.refl _) | (with_reducible refine Ext.up ?_ _) | (with_reducible refine Ext.alloc ?_ _) | (with_reducible refine Ext.drew ?_) | (with_reducible refine Ext.setRow ?_ (by first | exact LeS.le | exact LeS.add _ | (simp; done) | (simp; omega)) _) | (with_reducible refine Ext.setCell ?_ (by first | exact LeS.le | exact LeS.add _ | (simp; done) | (simp; omega)) _))))).mono ?_; rintro e w' ⟨rfl, z1, rfl⟩) | (go_at_call 17; refine (ka _).mono ?_; rintro e w' ⟨rfl, z2, rfl⟩))
  have hsz : w.heap.size + 1 + 1 ≤ z2.val.heap.size := by have h1 := z1.ext.size; have h2 := z2.ext.size; simp at h1 h2; omega
  (go_region_held3 (fun w' => (∀ n i, ∀ [LtS n (w.alloc (.cells #[.int .i64 x.kind, .int .i64 x.src, .int .i64 x.dst, .int .i64 x.amt] 24))], w'.cell? ⟨n, i, none⟩ = World.cell? (w.alloc (.cells #[.int .i64 x.kind, .int .i64 x.src, .int .i64 x.dst, .int .i64 x.amt] 24)) ⟨n, i, none⟩) ∧ Ext (w.alloc (.cells #[.int .i64 x.kind, .int .i64 x.src, .int .i64 x.dst, .int .i64 x.amt] 24)) w') ((refine S_of_ext ?_; (repeat (first | exact Ext.refl _ | refine Ext.up ?_ _ | refine Ext.alloc ?_ _ | refine Ext.drew ?_ | refine Ext.setRow ?_ (by first | (dsimp only; omega) | exact LeS.le | exact LeS.add _ | (simp; done) | (simp; omega)) _ | refine Ext.setCell ?_ (by first | (dsimp only; omega) | exact LeS.le | exact LeS.add _ | (simp; done) | (simp; omega)) _)); done)) (first | (go_at_call 139; refine (l2At_any s _ _ _ (H.out.up (by repeat (first | (with_reducible exact Ext.refl _) | (with_reducible refine Ext.up ?_ _) | (with_reducible refine Ext.alloc ?_ _) | (with_reducible refine Ext.drew ?_) | (with_reducible refine Ext.setRow ?_ (by first | exact LeS.le | exact LeS.add _ | (simp; done) | (simp; omega)) _) | (with_reducible refine Ext.setCell ?_ (by first | exact LeS.le | exact LeS.add _ | (simp; done) | (simp; omega)) _))))).mono ?_; rintro e w' ⟨rfl, rfl⟩) | ((go_at_call 138; refine (kr _).mono ?_; rintro e w' ⟨vr, vw, rfl, ⟨z6, rfl⟩, o1, o2, ap⟩); obtain ⟨p1, c1, rfl, _, _⟩ := (o1.sl Ent.enc_length).openc; obtain ⟨p2, c2, rfl, _, _⟩ := (o2.sl Ent.enc_length).openc)))
  all_goals
    have O1 := Lib.hid o1; have O2 := Lib.hid o2; have AP := Lib.hid ap
    clear o1 o2 ap
    go_wp2_with fail
    refine bodyPost_ret (v := .agg #[.bool E.d, .slice p1 E.r.length c1, .slice p2 E.w.length c2]) (by simp [results, Try.results76, go_sem]) rfl ?_
    refine ⟨_, _, rfl, (.of (by repeat (first | (with_reducible exact Ext.refl _) | (with_reducible refine Ext.up ?_ _) | (with_reducible refine Ext.alloc ?_ _) | (with_reducible refine Ext.drew ?_) | (with_reducible refine Ext.setRow ?_ (by first | exact LeS.le | exact LeS.add _ | (simp; done) | (simp; omega)) _) | (with_reducible refine Ext.setCell ?_ (by first | exact LeS.le | exact LeS.add _ | (simp; done) | (simp; omega)) _)))), ?_, ?_, AP.out⟩
    · refine Own.lo (lo := z2.val.heap.size) ?_ (by omega)
      (repeat (first | (with_reducible exact O1.out) | (exact O1.out) | (with_reducible refine Own.setLo ?_ (by omega)) | (with_reducible refine Own.alloc ?_)))
    · refine Own.lo (lo := z2.val.heap.size) ?_ (by omega)
      (repeat (first | (with_reducible exact O2.out) | (exact O2.out) | (with_reducible refine Own.setLo ?_ (by omega)) | (with_reducible refine Own.alloc ?_)))
end Go.Proofs.Ytkboefmkfpnpjaa
namespace Go.Proofs.Ytkboefmkfpnpjaa
open Go Go.RowKit Go.Proofs

set_option maxRecDepth 100000 in
set_option maxHeartbeats 2000000 in
theorem drawEffect0 (w0 w : World) (rb : Nat) (lim : Int) (h : Rd w0 w rb lim) (hl : lim ≤ 90000) :
    Calls Try.prog 94 #[.pointer (some ⟨rb, 0, none⟩), .int .i64 0] w fun e w' => ∃ d vr vw u, e = .returned (.agg #[.bool d, vr, vw]) ∧ (∃ p n c, vr = .slice p n c) ∧ entsOk 0 u = true ∧ (∃ z : ExtR rb w, w' = z.val) ∧ Rd w0 w' rb (lim + 200) ∧ Own Ent.enc 31 2 w.heap.size w' vw u := by
  have H := Lib.hid h
  have hL : LtS rb w := ⟨h.lt⟩
  have hlt := h.lt
  have hold := h.old
  have hLew : LeS w0 w := ⟨h.ext.size⟩
  clear h
  go_enter Try.func94, Try.ntmps94
  go_wp2_with fail
  refine (drawStore_any w0 _ rb lim 0 (H.out.up (by repeat (first | (with_reducible exact Ext.refl _) | (with_reducible refine Ext.up ?_ _) | (with_reducible refine Ext.alloc ?_ _) | (with_reducible refine Ext.drew ?_) | (with_reducible refine Ext.setRow ?_ (by first | exact LeS.le | exact LeS.add _ | (simp; done) | (simp; omega)) _) | (with_reducible refine Ext.setCell ?_ (by first | exact LeS.le | exact LeS.add _ | (simp; done) | (simp; omega)) _)))) (by omega) (by omega) (by omega)).mono ?_; rintro e w' ⟨vs, s, rfl, hs33, hs0, ⟨z1, rfl⟩, hr, hown⟩
  have H1 := Lib.hid hr; have HO1 := Lib.hid hown; have hs := hs0 rfl; have Hs := Lib.hid hs
  clear hr hown hs0 hs
  go_wp2_with fail
  refine (action_any w0 _ rb _ 0 H1.out (by omega) (by omega) (by omega)).mono ?_; rintro e w' ⟨x, rfl, hxo, ⟨z2, rfl⟩, hr⟩
  have H2 := Lib.hid hr; have hx := hxo rfl; have Hx := Lib.hid hx
  clear hr hxo hx
  have HO2 := Lib.hid (HO1.out.upR (by simp; omega) z2)
  have hw := Lib.hid (runE_ok (x := x) Hx.out (atK_in Hs.out (by decide) x.src).1 (atK_in Hs.out (by decide) x.src).2 (atK_in Hs.out (by decide) x.dst).1 (atK_in Hs.out (by decide) x.dst).2)
  go_wp2_with fail
  refine (sRunAction_yes s x vs _ (HO2.out.sl Ent.enc_length) Hs.out Hx.out).mono ?_; rintro e w' ⟨vr, vw, rfl, ⟨z3, rfl⟩, o1, o2, _⟩
  generalize runE x (atK s x.src) (atK s x.dst) = E at *
  obtain ⟨p1, c1, rfl, _, _⟩ := (o1.sl Ent.enc_length).openc
  obtain ⟨p2, c2, rfl, _, _⟩ := (o2.sl Ent.enc_length).openc
  have O2 := Lib.hid o2
  clear o1 o2
  go_wp2_with fail
  have hLe3 : LtS rb z3.val := ⟨Nat.lt_of_lt_of_le H2.out.lt z3.ext.size⟩
  have hs0 : w0.heap.size ≤ z3.val.heap.size := Nat.le_trans hold (Nat.le_of_lt hLe3.lt)
  have hLe0 : LeS w0 z3.val := ⟨hs0⟩
  have H3 := Lib.hid (H2.out.up z3.ext)
  refine (odd_any w0 _ rb (lim + 150) 0 (by (refine Rd.mono (a := ?_) ?_ ?_; rotate_left; (repeat (first | (with_reducible exact H3.out) | (with_reducible refine Rd.alloc ?_ _) | (with_reducible refine Rd.set ?_ _ _ NeS.ne (by first | exact LeS.le | exact LeS.add _)))); omega)) (by omega) (by omega) (by omega)).mono ?_; rintro e w' ⟨bo, rfl, hbo, ⟨z4, rfl⟩, hr⟩
  have H4 := Lib.hid hr
  obtain rfl : bo = false := hbo rfl
  clear hr hbo
  have O4 := Lib.hid (Own.upR (rb := rb) (O2.out.up (by repeat (first | (with_reducible exact Ext.refl _) | (with_reducible refine Ext.up ?_ _) | (with_reducible refine Ext.alloc ?_ _) | (with_reducible refine Ext.drew ?_) | (with_reducible refine Ext.setRow ?_ (by first | exact LeS.le | exact LeS.add _ | (simp; done) | (simp; omega)) _) | (with_reducible refine Ext.setCell ?_ (by first | exact LeS.le | exact LeS.add _ | (simp; done) | (simp; omega)) _)))) H2.out.lt z4)
  have hz2 : w.heap.size < z2.val.heap.size := by have h1 := z1.grown.size; have h2 := z2.grown.size; simp at h1; omega
  go_wp2_with fail
  refine bodyPost_ret (v := .agg #[.bool E.d, .slice p1 E.r.length c1, .slice p2 E.w.length c2]) (by simp [results, Try.results94, go_sem]) rfl ?_
  refine ⟨_, _, _, E.w, rfl, ⟨_, _, _, rfl⟩, hw.out, ExtR.of (by repeat (first | (with_reducible exact grownBy_refl _ _) | (with_reducible refine GB.setNew ?_ (by first | exact LeS.le | exact LeS.add _ | (simp; done) | (simp; omega)) _ _) | (with_reducible refine GB.alloc ?_ _) | (with_reducible refine GB.drew ?_) | (with_reducible refine GB.upR ?_ _) | (with_reducible refine GB.up ?_ _))), (by (refine Rd.mono (a := ?_) ?_ ?_; rotate_left; (repeat (first | (with_reducible exact H4.out) | (with_reducible refine Rd.alloc ?_ _) | (with_reducible refine Rd.set ?_ _ _ NeS.ne (by first | exact LeS.le | exact LeS.add _)))); omega)), ?_⟩
  refine Own.lo (lo := z2.val.heap.size) ?_ (by omega)
  repeat (first | (with_reducible exact O4.out) | (with_reducible refine Own.setLo ?_ (by omega)) | (exact O4.out))
end Go.Proofs.Ytkboefmkfpnpjaa
namespace Go.Proofs.Ytkboefmkfpnpjaa
open Go Go.RowKit Go.Proofs

theorem opAt {l : List Oper} {i : Nat} {o : Oper} (h : l[i]? = some o) : l.toArray[i]? = some o := by
  rw [List.getElem?_toArray]
  exact h
end Go.Proofs.Ytkboefmkfpnpjaa
