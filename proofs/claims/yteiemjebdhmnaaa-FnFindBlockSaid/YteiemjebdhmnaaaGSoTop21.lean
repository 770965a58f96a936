/- Walks: stores of trees, the reference's and the program's side (printed by wip/mkstx.py). Walk: impl.RunSerial on a valid store and valid actions. -/
import Derived.Test.YteiemjebdhmnaaaGSoTop19
import Derived.Test.YteiemjebdhmnaaaGSoTop20
import Derived.Test.YteiemjebdhmnaaaGSoTop08
import Derived.Test.YteiemjebdhmnaaaGSoTop16
import Derived.Test.YteiemjebdhmnaaaGSoTop17
set_option linter.unusedSimpArgs false
set_option linter.unusedVariables false
namespace Go.Proofs.Yteiemjebdhmnaaa
open Go Go.RowKit Go.Proofs

/-- The actions of a block of a tree. -/
def actsOf (t : Tree) (i : Int) : List Actn := match t.bs[i.toNat]? with | some y => y.2 | none => []
/-- The values behind blocks one after the other. -/
def aftL (t : Tree) (l : List Int) : List Int := l.foldl (fun v i => (runAll v (actsOf t i)).1) (valsOf t.base)
def aftV (t : Tree) (n : Int) : List Int := aftL t (pathR t n)
def storeR (t : Tree) (n : Int) : List Ent := if (t.ok && hasN t n) = true then storeOf (aftV t n) else []
theorem storeR_yes {t : Tree} {n : Int} (h : t.ok = true) (h' : hasN t n = true) : storeR t n = storeOf (aftV t n) := by unfold storeR; rw [h, h']; rfl
theorem storeR_no1 {t : Tree} {n : Int} (h : t.ok = false) : storeR t n = [] := by unfold storeR; rw [h]; rfl
theorem storeR_no2 {t : Tree} {n : Int} (h : hasN t n = false) : storeR t n = [] := by unfold storeR; rw [h, Bool.and_false]; rfl
theorem storeR_le (t : Tree) (n : Int) : (storeR t n).length ≤ 32 := by unfold storeR; split; exact storeOf_le _; simp
theorem actsOf_eq {t : Tree} {m : Nat} {y : BL} (h : t.bs[m]? = some y) : actsOf t (m : Int) = y.2 := by unfold actsOf; rw [Int.toNat_natCast, h]
theorem aftL_snoc (t : Tree) {l : List Int} {k : Nat} {a : Int} (h : l[k]? = some a) : aftL t (l.take (k + 1)) = (runAll (aftL t (l.take k)) (actsOf t a)).1 := by
  rw [List.take_add_one, h]; simp [aftL]
theorem aftL_len (t : Tree) (l : List Int) : (aftL t l).length = 32 := by
  have key : ∀ (l : List Int) (v : List Int), v.length = 32 → (l.foldl (fun v i => (runAll v (actsOf t i)).1) v).length = 32 := by
    intro l
    induction l with
    | nil => intro v h; exact h
    | cons x l ih => intro v h; exact ih _ (runStep_len h)
  exact key l _ (valsOf_length _)
theorem acts_ok {t : Tree} (h : t.ok = true) {m : Nat} {y : BL} (hy : t.bs[m]? = some y) : actsOk y.2 = true :=
  Blk.okL_acts (newAt_ok hy (upTo_iff.1 (Tree.ok_parts h).2.2.1 m (List.getElem?_eq_some_iff.1 hy).1))
theorem acts_mem {l : List Actn} (h : actsOk l = true) : ∀ x ∈ l, x.ok = true := fun x hx => by obtain ⟨i, hi⟩ := List.getElem?_of_mem hx; exact actsOk_at h hi
theorem base_ok {t : Tree} (h : t.ok = true) : entsOk 1 t.base = true := (Tree.head_parts (Tree.ok_parts h).1).1
theorem actsOf_ok {t : Tree} (h : t.ok = true) (i : Int) : ∀ x ∈ actsOf t i, x.ok = true := by
  unfold actsOf
  split
  · rename_i y hy; exact acts_mem (acts_ok h hy)
  · simp
theorem aftL_in {t : Tree} (h : t.ok = true) (l : List Int) : valsIn (aftL t l) := by
  have key : ∀ (l : List Int) (v : List Int), valsIn v → valsIn (l.foldl (fun v i => (runAll v (actsOf t i)).1) v) := by
    intro l
    induction l with
    | nil => intro v h; exact h
    | cons x l ih => intro v hv; exact ih _ (runAll_in hv (actsOf_ok h x))
  exact key l _ (valsOf_in (entsOk_least (by decide) (base_ok h)))
theorem GB.setRow' {a b : World} {g : Nat} (h : a.grownBy b (some g)) (cs : Array Value) : a.grownBy (b.setRow g cs) (some g) := grownBy_trans h (grownBy_setRow b g cs)
set_option maxRecDepth 100000 in
set_option maxHeartbeats 4000000 in
theorem sStoreOf_any (t : Tree) (v0 v1 v2 : Value) (n : Int) (w : World) (h : ST w v0 v1 v2 t) :
    Calls Try.prog 10 #[.agg #[v0, v1, v2], .int .i64 n] w fun e w' => ∃ v', e = .returned v' ∧ Up w w' ∧ Own Ent.enc 61 2 w.heap.size w' v' (storeR t n) := by
  have H := Lib.hid h
  obtain ⟨p0, c0, rfl, _, _⟩ := h.base.openc
  obtain ⟨p1, c1, rfl, hl1, _, hc1⟩ := h.bs.open
  obtain ⟨p2, c2, rfl, hlp, _⟩ := h.pr.openc
  have HB := Lib.hid h.base
  clear h
  rcases hyn : (t.ok && hasN t n) with _ | _
  · have hp : pathR t n = [] := by unfold pathR; rw [hyn]; rfl
    have hs : storeR t n = [] := by unfold storeR; rw [hyn]; rfl
    have kp := fun w h => sPathTo_any t (.slice p0 t.base.length c0) (.slice p1 t.bs.length c1) (.slice p2 t.pr.length c2) n w h
    rw [hp] at kp
    rw [hs]
    clear hp hs hyn hc1
    go_enter Try.func10, Try.ntmps10
    go_wp2_with fail
    refine (kp _ (H.out.up (by repeat (first | (with_reducible exact Ext.refl _) | (with_reducible refine Ext.up ?_ _) | (with_reducible refine Ext.alloc ?_ _) | (with_reducible refine Ext.drew ?_) | (with_reducible refine Ext.setRow ?_ (by first | exact LeS.le | exact LeS.add _ | (simp; done) | (simp; omega)) _) | (with_reducible refine Ext.setCell ?_ (by first | exact LeS.le | exact LeS.add _ | (simp; done) | (simp; omega)) _))))).mono ?_; rintro e w' ⟨v', rfl, ⟨z1, rfl⟩, hown⟩
    obtain ⟨p, c, rfl, _, _⟩ := (hown.sl encI_length).openc
    clear hown
    rw [show ([] : List Int).length = 0 from rfl]
    go_wp2_with fail
    go_loopw [6, 7] (fun s6 s7 wr => s7 = .int .i64 0 ∧ Up w wr ∧ Own Ent.enc 61 2 w.heap.size wr s6 []) (fun _ _ _ => 0)
    case atStart => exact ⟨rfl, (.of (by repeat (first | (with_reducible exact Ext.refl _) | (with_reducible refine Ext.up ?_ _) | (with_reducible refine Ext.alloc ?_ _) | (with_reducible refine Ext.drew ?_) | (with_reducible refine Ext.setRow ?_ (by first | exact LeS.le | exact LeS.add _ | (simp; done) | (simp; omega)) _) | (with_reducible refine Ext.setCell ?_ (by first | exact LeS.le | exact LeS.add _ | (simp; done) | (simp; omega)) _)))), (Own.lit (lo := z1.val.heap.size) rfl (Nat.le_refl _) rfl rfl Ent.enc_length (by simp)).lo LeS.le⟩
    case round =>
      obtain ⟨rfl, ⟨z, rfl⟩, hown⟩ := hrel
      have Hown := Lib.hid hown; clear hown
      go_wp2_with fail
      go_ret
      exact ⟨_, rfl, ⟨z, rfl⟩, Hown.out⟩
  obtain ⟨hok, hn⟩ := Bool.and_eq_true_iff.1 hyn
  rw [storeR_yes hok hn]
  obtain ⟨_, _, hpl, hp0, _, hpn, hmem⟩ := path_all hok hn
  have hle := pathR_le t n
  have hbok := base_ok hok
  have hbl := entsOk_len hbok
  have Hmem := Lib.hid hmem; have Hok := Lib.hid hok; have Hb := Lib.hid hbok
  have hpos : 0 < (pathR t n).length := (List.getElem?_eq_some_iff.1 hp0).1
  clear hmem hok hp0 hpl hpn hbok hyn hn
  go_enter Try.func10, Try.ntmps10
  go_wp2_with fail
  refine (sPathTo_any t _ _ _ n _ (H.out.up (by repeat (first | (with_reducible exact Ext.refl _) | (with_reducible refine Ext.up ?_ _) | (with_reducible refine Ext.alloc ?_ _) | (with_reducible refine Ext.drew ?_) | (with_reducible refine Ext.setRow ?_ (by first | exact LeS.le | exact LeS.add _ | (simp; done) | (simp; omega)) _) | (with_reducible refine Ext.setCell ?_ (by first | exact LeS.le | exact LeS.add _ | (simp; done) | (simp; omega)) _))))).mono ?_; rintro e w' ⟨v', rfl, ⟨z1, rfl⟩, hown⟩
  obtain ⟨p, c, rfl, hlen, hc⟩ := (hown.sl encI_length).open
  clear hown
  have hpos' : decide ((0 : Int) < ((pathR t n).length : Int)) = true := by simpa using hpos
  go_wp2_with (at_builtin; refine wpList_clone fEnt Ent.enc Ent.enc_length (lo := z1.val.heap.size) t.base rfl (.tmp 17) (.tmp 19) rfl rfl rfl (heap_alloc_new _ _) (Nat.le_refl _) (HB.out.up (by repeat (first | (with_reducible exact Ext.refl _) | (with_reducible refine Ext.up ?_ _) | (with_reducible refine Ext.alloc ?_ _) | (with_reducible refine Ext.drew ?_) | (with_reducible refine Ext.setRow ?_ (by first | exact LeS.le | exact LeS.add _ | (simp; done) | (simp; omega)) _) | (with_reducible refine Ext.setCell ?_ (by first | exact LeS.le | exact LeS.add _ | (simp; done) | (simp; omega)) _)))) (oneEs' _) (by omega) (by omega) ?_; intro v3 z3 o3 b3)
  have O3 := Lib.hid o3; clear o3 b3
  go_loopw [6, 7] (fun s6 s7 wr => ∃ (k : Nat), s7 = .int .i64 k ∧ k ≤ (pathR t n).length ∧ Up z1.val wr ∧ Own Ent.enc 61 2 z1.val.heap.size wr s6 (storeOf (aftL t ((pathR t n).take k)))) (fun _ s7 _ => (pathR t n).length - (intOf s7).toNat)
  case atStart => exact ⟨0, rfl, Nat.zero_le _, (.of (by repeat (first | (with_reducible exact Ext.refl _) | (with_reducible refine Ext.up ?_ _) | (with_reducible refine Ext.alloc ?_ _) | (with_reducible refine Ext.drew ?_) | (with_reducible refine Ext.setRow ?_ (by first | exact LeS.le | exact LeS.add _ | (simp; done) | (simp; omega)) _) | (with_reducible refine Ext.setCell ?_ (by first | exact LeS.le | exact LeS.add _ | (simp; done) | (simp; omega)) _)))), by rw [show aftL t ((pathR t n).take 0) = valsOf t.base from rfl, storeOf_valsOf Hb.out]; exact O3.out⟩
  case round =>
    obtain ⟨k, rfl, hk, ⟨z, rfl⟩, hown⟩ := hrel
    have Hown := Lib.hid hown; clear hown
    by_cases hlt : k < (pathR t n).length
    · obtain ⟨a, hak⟩ := getElem?_some_of_lt hlt
      obtain ⟨m, y, rfl, hym, _⟩ := Hmem.out a (List.mem_of_getElem? hak)
      obtain ⟨b, off, rfl, hb, hcc⟩ := hc k _ hak
      obtain ⟨b1, off1, q, d, rfl, hb1, _, _, _, e3, _, _, hx⟩ := hc1 m y hym
      have e0 : z1.val.cell? ⟨b, off + k, none⟩ = some (.int .i64 m) := by have := hcc 0 _ rfl; simpa using this
      have hml := (List.getElem?_eq_some_iff.1 hym).1
      have hya := acts_ok Hok.out hym
      have k0 : (0 : Int) ≤ (k : Int) := by omega
      have k1 : (k : Int) < (pathR t n).length := by omega
      have m0 : (0 : Int) ≤ (m : Int) := by omega
      have m1 : (m : Int) < t.bs.length := by omega
      have hV := aftL_in Hok.out ((pathR t n).take k)
      have hsn := aftL_snoc t hak
      rw [actsOf_eq hym] at hsn
      have Hsn := Lib.hid hsn
      generalize hVV : aftL t ((pathR t n).take k) = V at *
      have kr := fun v w h h' => sRunSerial_yes (storeOf V) y.2 v (.slice q y.2.length d) w h h' (storeOf_ok hV) hya
      rw [valsOf_storeOf hV] at kr
      have Hx := Lib.hid hx
      clear hc hc1 hcc hak hym hya hx hV hsn hVV
      go_wp2_with fail
      (go_region_held3 (fun w' => (∀ n i, ∀ [LtS n z.val], w'.cell? ⟨n, i, none⟩ = World.cell? z.val ⟨n, i, none⟩) ∧ Ext z.val w') ((refine S_of_ext ?_; (repeat (first | (with_reducible exact Ext.refl _) | (with_reducible refine Ext.up ?_ _) | (with_reducible refine Ext.alloc ?_ _) | (with_reducible refine Ext.drew ?_) | (with_reducible refine Ext.setRow ?_ (by first | exact LeS.le | exact LeS.add _ | (simp; done) | (simp; omega)) _) | (with_reducible refine Ext.setCell ?_ (by first | exact LeS.le | exact LeS.add _ | (simp; done) | (simp; omega)) _))); done)) ((go_at_call 34; refine (kr _ _ ((Hown.out.sl Ent.enc_length).up (by repeat (first | (with_reducible exact Ext.refl _) | (with_reducible refine Ext.up ?_ _) | (with_reducible refine Ext.alloc ?_ _) | (with_reducible refine Ext.drew ?_) | (with_reducible refine Ext.setRow ?_ (by first | exact LeS.le | exact LeS.add _ | (simp; done) | (simp; omega)) _) | (with_reducible refine Ext.setCell ?_ (by first | exact LeS.le | exact LeS.add _ | (simp; done) | (simp; omega)) _)))) (Hx.out.up (by repeat (first | (with_reducible exact Ext.refl _) | (with_reducible refine Ext.up ?_ _) | (with_reducible refine Ext.alloc ?_ _) | (with_reducible refine Ext.drew ?_) | (with_reducible refine Ext.setRow ?_ (by first | exact LeS.le | exact LeS.add _ | (simp; done) | (simp; omega)) _) | (with_reducible refine Ext.setCell ?_ (by first | exact LeS.le | exact LeS.add _ | (simp; done) | (simp; omega)) _))))).mono ?_; rintro e w' ⟨u1, u2, ts, rfl, ⟨z7, rfl⟩, o7, _, _, _⟩)))
      have O7 := Lib.hid o7; clear o7
      go_wp2_with fail
      go_roundw
      case rel => exact ⟨k + 1, by go_num, by omega, (.of (by repeat (first | (with_reducible exact Ext.refl _) | (with_reducible refine Ext.up ?_ _) | (with_reducible refine Ext.alloc ?_ _) | (with_reducible refine Ext.drew ?_) | (with_reducible refine Ext.setRow ?_ (by first | exact LeS.le | exact LeS.add _ | (simp; done) | (simp; omega)) _) | (with_reducible refine Ext.setCell ?_ (by first | exact LeS.le | exact LeS.add _ | (simp; done) | (simp; omega)) _)))), by rw [Hsn.out]; exact O7.out.lo LeS.le⟩
      case measure => simp [intOf]; omega
    · obtain rfl : k = (pathR t n).length := by omega
      rw [List.take_length] at Hown
      clear hc hc1
      go_wp2_with fail
      go_ret
      exact ⟨_, rfl, (.of (by repeat (first | (with_reducible exact Ext.refl _) | (with_reducible refine Ext.up ?_ _) | (with_reducible refine Ext.alloc ?_ _) | (with_reducible refine Ext.drew ?_) | (with_reducible refine Ext.setRow ?_ (by first | exact LeS.le | exact LeS.add _ | (simp; done) | (simp; omega)) _) | (with_reducible refine Ext.setCell ?_ (by first | exact LeS.le | exact LeS.add _ | (simp; done) | (simp; omega)) _)))), Hown.out.lo LeS.le⟩
set_option maxRecDepth 100000 in
set_option maxHeartbeats 4000000 in
theorem after_any (t : Tree) (v0 v1 v2 : Value) (n : Int) (w : World) (h : ST w v0 v1 v2 t) (ho : t.ok = true) (hn : hasN t n = true) :
    Calls Try.prog 31 #[.agg #[v0, v1, v2], .int .i64 n] w fun e w' => e = .returned (.agg (vA (aftV t n))) ∧ Up w w' := by
  obtain ⟨_, _, hpl, hp0, _, hpn, hmem⟩ := path_all ho hn
  have hle := pathR_le t n
  obtain ⟨p0, c0, rfl, _, _⟩ := h.base.openc
  obtain ⟨p1, c1, rfl, hl1, _, hc1⟩ := h.bs.open
  obtain ⟨p2, c2, rfl, _, _⟩ := h.pr.openc
  have HB := Lib.hid h.base; have H := Lib.hid h
  have hbok := Lib.hid (base_ok ho)
  have kp := fun w h => path_any t (.slice p0 t.base.length c0) (.slice p1 t.bs.length c1) (.slice p2 t.pr.length c2) n w h ho hn
  rw [← pathR_yes ho hn] at kp
  have Hmem := Lib.hid hmem; have Ho := Lib.hid ho
  have Hc1 := Lib.hid hc1
  unfold aftV
  generalize hP : pathR t n = path at *
  have hA0 : aftL t (path.take 0) = valsOf t.base := rfl
  have tok : True := trivial
  clear h hc1 hn ho hmem hpl hp0 hpn hP
  go_enter Try.func31, Try.ntmps31
  go_wp2_with fail
  (with_reducible refine (valuesOf_any 1 t.base (.slice p0 t.base.length c0) _ (HB.out.up (by repeat (first | (with_reducible exact Ext.refl _) | (with_reducible refine Ext.up ?_ _) | (with_reducible refine Ext.alloc ?_ _) | (with_reducible refine Ext.drew ?_) | (with_reducible refine Ext.setRow ?_ (by first | exact LeS.le | exact LeS.add _ | (simp; done) | (simp; omega)) _) | (with_reducible refine Ext.setCell ?_ (by first | exact LeS.le | exact LeS.add _ | (simp; done) | (simp; omega)) _)))) hbok.out).mono ?_); rintro e w' ⟨rfl, z3, rfl⟩
  have hvl0 := valsOf_length t.base
  rw [← hA0] at hvl0 ⊢
  generalize hvs : aftL t (path.take 0) = vs at *
  have HVS := Lib.hid hvs
  clear hvs hA0
  go_wp2_with (have _t := tok; refine wpList_store_new rfl _ _ _ rfl rfl rfl rfl (by rw [hvl0]; exact Try.sVals) (by rw [hvl0]; rfl) ?_; intro z5 r5; clear _t tok; have R5 := Lib.hid r5; clear r5)
  refine (kp _ (H.out.up (by repeat (first | (with_reducible exact Ext.refl _) | (with_reducible refine Ext.up ?_ _) | (with_reducible refine Ext.alloc ?_ _) | (with_reducible refine Ext.drew ?_) | (with_reducible refine Ext.setRow ?_ (by first | exact LeS.le | exact LeS.add _ | (simp; done) | (simp; omega)) _) | (with_reducible refine Ext.setCell ?_ (by first | exact LeS.le | exact LeS.add _ | (simp; done) | (simp; omega)) _))))).mono ?_; rintro e w' ⟨vp, rfl, ⟨z7, rfl⟩, op⟩
  obtain ⟨pp, cp, rfl, _, hcp⟩ := (op.sl encI_length).open
  have hz3 := z3.ext.size
  simp at hz3
  have r7 := R5.out.up z7.ext
  have hGl := r7.lt
  have r1 : Row 57 z7.val (w.heap.size + 1) zeros := (((Row.of_eq (heap_alloc2_new _ _ _) vA_zeros.symm : Row 57 _ (w.heap.size + 1) zeros).up z3.ext).up z5.ext).up z7.ext
  have E7 : Ext w z7.val := (by repeat (first | (with_reducible exact Ext.refl _) | (with_reducible refine Ext.up ?_ _) | (with_reducible refine Ext.alloc ?_ _) | (with_reducible refine Ext.drew ?_) | (with_reducible refine Ext.setRow ?_ (by first | exact LeS.le | exact LeS.add _ | (simp; done) | (simp; omega)) _) | (with_reducible refine Ext.setCell ?_ (by first | exact LeS.le | exact LeS.add _ | (simp; done) | (simp; omega)) _)))
  have hbpl := Lib.hid (show ∀ g o, pp = some ⟨g, o, none⟩ → z5.val.heap.size ≤ g from fun g o e => by subst e; exact (World.ownsRow.lt op g rfl).1)
  have hzG := R5.out.lt
  have R7 := Lib.hid r7; have R1 := Lib.hid r1; have HE7 := Lib.hid E7
  have hLx : LtS w.heap.size z7.val := by infer_instance
  have Hcp := Lib.hid hcp
  clear R5 r7 r1 op hcp E7
  have hG3 : w.heap.size + 1 < z3.val.heap.size := by omega
  generalize z3.val.heap.size = G at *
  have n1 : NeS w.heap.size G := ⟨by omega⟩
  go_wp2_with fail
  go_loopw [7, 15] (fun _ s15 wr => ∃ k : Nat, s15 = .int .i64 k ∧ k ≤ path.length ∧ (∃ z : ExtR G z7.val, wr = z.val) ∧ Row 57 wr G (aftL t (path.take k))) (fun _ s15 _ => path.length - (intOf s15).toNat)
  case atStart => exact ⟨0, rfl, by omega, ⟨⟨_, grownBy_refl _ _⟩, rfl⟩, by rw [HVS.out]; exact R7.out⟩
  case round =>
    obtain ⟨k, rfl, hk, ⟨z, rfl⟩, r⟩ := hrel
    have R := Lib.hid r
    have hLG : LtS G z.val := r.lts
    have hvl := aftL_len t (path.take k)
    clear r
    by_cases hlt : k < path.length
    · obtain ⟨a, hak⟩ := getElem?_some_of_lt hlt
      obtain ⟨m, y, rfl, hym, _⟩ := Hmem.out a (List.mem_of_getElem? hak)
      obtain ⟨bp, offp, rfl, hbp, hcc⟩ := Hcp.out k _ hak
      have hbpG := hbpl.out bp offp rfl
      obtain ⟨b, off, q, d, rfl, hb, _, _, _, e3, _, _, hx⟩ := Hc1.out m y hym
      have hbl := hb.lt
      have x0 : z7.val.cell? ⟨bp, offp + k, none⟩ = some (.int .i64 m) := by have := hcc 0 _ rfl; simpa using this
      have hLb : LtS b z7.val := by infer_instance
      have n2 : NeS b G := ⟨by omega⟩
      have n3 : NeS bp G := ⟨by omega⟩
      have hml := (List.getElem?_eq_some_iff.1 hym).1
      have m0 : (0 : Int) ≤ (m : Int) := by omega
      have m1 : (m : Int) < t.bs.length := by omega
      have e37 : z7.val.cell? ⟨b, off + m * 6 + 3, none⟩ = some (.slice q y.2.length d) := HE7.out.some e3
      have e3z : z.val.cell? ⟨b, off + m * 6 + 3, none⟩ = some (.slice q y.2.length d) := (z.cell _ _).trans e37
      have x0z : z.val.cell? ⟨bp, offp + k, none⟩ = some (.int .i64 m) := (z.cell _ _).trans x0
      have hV := aftL_in Ho.out (path.take k)
      have hsn := aftL_snoc t hak
      rw [actsOf_eq hym] at hsn
      have Hsn := Lib.hid hsn
      have hya := acts_ok Ho.out hym
      have hEz : Ext w z.val := Ext.upR HE7.out (by omega) z
      have HxZ := Lib.hid (hx.up hEz)
      generalize hVV : aftL t (path.take k) = V at *
      have kr := fun w h => runAll_any V y.2 (.slice q y.2.length d) w h hvl hV (acts_mem hya) (by have := actsOk_len hya; omega)
      have hvl2 : (runAll V y.2).1.length = 32 := runStep_len hvl
      clear hcc hak hym hya hx hV hsn hVV hEz x0 e37 e3
      go_upto_region 5 with fail
      refine wp_region_held_drew (S := (fun w' => (∀ n i, ∀ [LtS n z.val] [NeS n G], w'.cell? ⟨n, i, none⟩ = World.cell? z.val ⟨n, i, none⟩) ∧ World.grownBy z.val w' (some G))) (by kernel_rfl) ?_ (fun hHeld => ?_)
      · (try dsimp only)
        refine S_of_gb ?_
        first | (refine GB.setRow' ?_ _; (repeat (first | (with_reducible exact grownBy_refl _ _) | (with_reducible refine GB.setNew ?_ (by first | exact LeS.le | exact LeS.add _ | (simp; done) | (simp; omega)) _ _) | (with_reducible refine GB.alloc ?_ _) | (with_reducible refine GB.drew ?_) | (with_reducible refine GB.upR ?_ _) | (with_reducible refine GB.up ?_ _))); done) | ((repeat (first | (with_reducible exact grownBy_refl _ _) | (with_reducible refine GB.setNew ?_ (by first | exact LeS.le | exact LeS.add _ | (simp; done) | (simp; omega)) _ _) | (with_reducible refine GB.alloc ?_ _) | (with_reducible refine GB.drew ?_) | (with_reducible refine GB.upR ?_ _) | (with_reducible refine GB.up ?_ _))); done)
      refine wpAnyH_take (i := 1) (v := ?_) (opAt rfl) (by kernel_rfl) (by kernel_rfl) (by kernel_rfl) (fun _ _ _ h => h) (Or.inl ⟨by rfl, ?_⟩) (by assumption) ?_
      rotate_left
      · (intro w hSw; (try dsimp only at hSw); go_simp) <;> with_reducible rfl
      try simp only [Act.put, List.setIfInBounds_toArray, List.set_cons_zero, List.set_cons_succ]
      refine wpAnyH_take (i := 2) (v := ?_) (opAt rfl) (by kernel_rfl) (by kernel_rfl) (by kernel_rfl) (fun _ _ _ h => h) (Or.inl ⟨by rfl, ?_⟩) (by assumption) ?_
      rotate_left
      · (intro w hSw; (try dsimp only at hSw); go_simp) <;> with_reducible rfl
      try simp only [Act.put, List.setIfInBounds_toArray, List.set_cons_zero, List.set_cons_succ]
      refine wpAnyH_take (i := 3) (v := ?_) (opAt rfl) (by kernel_rfl) (by kernel_rfl) (by kernel_rfl) (fun _ _ _ h => h) (Or.inl ⟨by rfl, ?_⟩) (by assumption) ?_
      rotate_left
      · (intro w hSw; (try dsimp only at hSw); go_simp) <;> with_reducible rfl
      try simp only [Act.put, List.setIfInBounds_toArray, List.set_cons_zero, List.set_cons_succ]
      refine wpAnyH_take (i := 4) (v := ?_) (opAt rfl) (by kernel_rfl) (by kernel_rfl) (by kernel_rfl) (fun _ _ _ h => h) (Or.inl ⟨by rfl, ?_⟩) (by assumption) ?_
      rotate_left
      · (intro w hSw; (try dsimp only at hSw); go_simp) <;> with_reducible rfl
      try simp only [Act.put, List.setIfInBounds_toArray, List.set_cons_zero, List.set_cons_succ]
      refine wpAnyH_take (i := 5) (v := ?_) (opAt rfl) (by kernel_rfl) (by kernel_rfl) (by kernel_rfl) (fun _ _ _ h => h) (Or.inl ⟨by rfl, ?_⟩) (by assumption) ?_
      rotate_left
      · (intro w hSw; (try dsimp only at hSw); go_simp) <;> with_reducible rfl
      try simp only [Act.put, List.setIfInBounds_toArray, List.set_cons_zero, List.set_cons_succ]
      refine wpAnyH_take (i := 6) (v := ?_) (opAt rfl) (by kernel_rfl) (by kernel_rfl) (by kernel_rfl) (fun _ _ _ h => h) (Or.inl ⟨by rfl, ?_⟩) (by assumption) ?_
      rotate_left
      · (intro w hSw; (try dsimp only at hSw); go_simp) <;> with_reducible rfl
      try simp only [Act.put, List.setIfInBounds_toArray, List.set_cons_zero, List.set_cons_succ]
      refine wpAnyH_ready (rs := [0]) (by kernel_rfl) (by simp) ?_
      refine AllReadyH.cons (opAt rfl) (fun K hK => ?_) ?_
      · rw [if_pos (by rfl)]
        refine wp_load_row _ _ rfl _ rfl _ _ _ _ R.out.eq Try.underlying57 rfl (by rw [vA_size, hvl]; exact Try.sVals) ?_
        refine hK.out _ _ ?_ (fun hHeld1 => ?_)
        · (try dsimp only)
          refine S_of_gb ?_
          first | (refine GB.setRow' ?_ _; (repeat (first | (with_reducible exact grownBy_refl _ _) | (with_reducible refine GB.setNew ?_ (by first | exact LeS.le | exact LeS.add _ | (simp; done) | (simp; omega)) _ _) | (with_reducible refine GB.alloc ?_ _) | (with_reducible refine GB.drew ?_) | (with_reducible refine GB.upR ?_ _) | (with_reducible refine GB.up ?_ _))); done) | ((repeat (first | (with_reducible exact grownBy_refl _ _) | (with_reducible refine GB.setNew ?_ (by first | exact LeS.le | exact LeS.add _ | (simp; done) | (simp; omega)) _ _) | (with_reducible refine GB.alloc ?_ _) | (with_reducible refine GB.drew ?_) | (with_reducible refine GB.upR ?_ _) | (with_reducible refine GB.up ?_ _))); done)
        clear hK K hHeld
        have hHeld := hHeld1; clear hHeld1
        try simp only [Act.put, List.setIfInBounds_toArray, List.set_cons_zero, List.set_cons_succ]
        refine wpAnyH_ready (rs := [7]) (by kernel_rfl) (by simp) ?_
        refine AllReadyH.cons (opAt rfl) (fun K hK => ?_) ?_
        · go_simp
          go_at_call 44
          (with_reducible refine (kr _ (HxZ.out.up (by repeat (first | (with_reducible exact Ext.refl _) | (with_reducible refine Ext.up ?_ _) | (with_reducible refine Ext.alloc ?_ _) | (with_reducible refine Ext.drew ?_) | (with_reducible refine Ext.setRow ?_ (by first | exact LeS.le | exact LeS.add _ | (simp; done) | (simp; omega)) _) | (with_reducible refine Ext.setCell ?_ (by first | exact LeS.le | exact LeS.add _ | (simp; done) | (simp; omega)) _))))).mono ?_)
          rintro e w' ⟨v2, ts, rfl, ⟨z6, rfl⟩, _, _⟩
          try go_wp2_with fail
          refine hK.out _ _ ?_ (fun hHeld1 => ?_)
          · (try dsimp only)
            refine S_of_gb ?_
            first | (refine GB.setRow' ?_ _; (repeat (first | (with_reducible exact grownBy_refl _ _) | (with_reducible refine GB.setNew ?_ (by first | exact LeS.le | exact LeS.add _ | (simp; done) | (simp; omega)) _ _) | (with_reducible refine GB.alloc ?_ _) | (with_reducible refine GB.drew ?_) | (with_reducible refine GB.upR ?_ _) | (with_reducible refine GB.up ?_ _))); done) | ((repeat (first | (with_reducible exact grownBy_refl _ _) | (with_reducible refine GB.setNew ?_ (by first | exact LeS.le | exact LeS.add _ | (simp; done) | (simp; omega)) _ _) | (with_reducible refine GB.alloc ?_ _) | (with_reducible refine GB.drew ?_) | (with_reducible refine GB.upR ?_ _) | (with_reducible refine GB.up ?_ _))); done)
          clear hK K hHeld
          have hHeld := hHeld1; clear hHeld1
          try simp only [Act.put, List.setIfInBounds_toArray, List.set_cons_zero, List.set_cons_succ]
          refine wpAnyH_take (i := 8) (v := ?_) (opAt rfl) (by kernel_rfl) (by kernel_rfl) (by kernel_rfl) (fun _ _ _ h => h) (Or.inl ⟨by rfl, ?_⟩) (by assumption) ?_
          rotate_left
          · (intro w hSw; (try dsimp only at hSw); go_simp) <;> with_reducible rfl
          try simp only [Act.put, List.setIfInBounds_toArray, List.set_cons_zero, List.set_cons_succ]
          refine wpAnyH_take (i := 9) (v := ?_) (opAt rfl) (by kernel_rfl) (by kernel_rfl) (by kernel_rfl) (fun _ _ _ h => h) (Or.inl ⟨by rfl, ?_⟩) (by assumption) ?_
          rotate_left
          · (intro w hSw; (try dsimp only at hSw); go_simp) <;> with_reducible rfl
          try simp only [Act.put, List.setIfInBounds_toArray, List.set_cons_zero, List.set_cons_succ]
          refine wpAnyH_take (i := 10) (v := ?_) (opAt rfl) (by kernel_rfl) (by kernel_rfl) (by kernel_rfl) (fun _ _ _ h => h) (Or.inl ⟨by rfl, ?_⟩) (by assumption) ?_
          rotate_left
          · (intro w hSw; (try dsimp only at hSw); go_simp) <;> with_reducible rfl
          try simp only [Act.put, List.setIfInBounds_toArray, List.set_cons_zero, List.set_cons_succ]
          refine wpAnyH_ready (rs := [11]) (by kernel_rfl) (by simp) ?_
          refine AllReadyH.cons (opAt rfl) (fun K hK => ?_) ?_
          · rw [if_pos (by rfl)]
            refine wp_store_row _ _ _ rfl _ _ rfl rfl _ _ (R.out.up (w' := z6.val) (by repeat (first | (with_reducible exact Ext.refl _) | (with_reducible refine Ext.up ?_ _) | (with_reducible refine Ext.alloc ?_ _) | (with_reducible refine Ext.drew ?_) | (with_reducible refine Ext.setRow ?_ (by first | exact LeS.le | exact LeS.add _ | (simp; done) | (simp; omega)) _) | (with_reducible refine Ext.setCell ?_ (by first | exact LeS.le | exact LeS.add _ | (simp; done) | (simp; omega)) _)))).eq (by rw [vA_size, hvl2]; exact Try.sVals) (by rw [vA_size, vA_size, hvl, hvl2]) (vA_one _) ?_
            refine hK.out _ _ ?_ (fun hHeld1 => ?_)
            · (try dsimp only)
              refine S_of_gb ?_
              first | (refine GB.setRow' ?_ _; (repeat (first | (with_reducible exact grownBy_refl _ _) | (with_reducible refine GB.setNew ?_ (by first | exact LeS.le | exact LeS.add _ | (simp; done) | (simp; omega)) _ _) | (with_reducible refine GB.alloc ?_ _) | (with_reducible refine GB.drew ?_) | (with_reducible refine GB.upR ?_ _) | (with_reducible refine GB.up ?_ _))); done) | ((repeat (first | (with_reducible exact grownBy_refl _ _) | (with_reducible refine GB.setNew ?_ (by first | exact LeS.le | exact LeS.add _ | (simp; done) | (simp; omega)) _ _) | (with_reducible refine GB.alloc ?_ _) | (with_reducible refine GB.drew ?_) | (with_reducible refine GB.upR ?_ _) | (with_reducible refine GB.up ?_ _))); done)
            clear hK K hHeld
            have hHeld := hHeld1; clear hHeld1
            try simp only [Act.put, List.setIfInBounds_toArray, List.set_cons_zero, List.set_cons_succ]
            refine wpAnyH_done (by kernel_rfl) ?_ _
            go_wp2_with fail
            go_roundw
            case rel => exact ⟨k + 1, by go_num, by omega, ⟨⟨_, GB.setRow' (grownBy_trans z.grown (grownBy_ext (show Ext z.val z6.val from (by repeat (first | (with_reducible exact Ext.refl _) | (with_reducible refine Ext.up ?_ _) | (with_reducible refine Ext.alloc ?_ _) | (with_reducible refine Ext.drew ?_) | (with_reducible refine Ext.setRow ?_ (by first | exact LeS.le | exact LeS.add _ | (simp; done) | (simp; omega)) _) | (with_reducible refine Ext.setCell ?_ (by first | exact LeS.le | exact LeS.add _ | (simp; done) | (simp; omega)) _)))))) _⟩, rfl⟩, by rw [Hsn.out]; exact (R.out.up (w' := z6.val) (by repeat (first | (with_reducible exact Ext.refl _) | (with_reducible refine Ext.up ?_ _) | (with_reducible refine Ext.alloc ?_ _) | (with_reducible refine Ext.drew ?_) | (with_reducible refine Ext.setRow ?_ (by first | exact LeS.le | exact LeS.add _ | (simp; done) | (simp; omega)) _) | (with_reducible refine Ext.setCell ?_ (by first | exact LeS.le | exact LeS.add _ | (simp; done) | (simp; omega)) _)))).setRow _⟩
            case measure => simp [intOf]; omega
          exact AllReadyH.nil
        exact AllReadyH.nil
      exact AllReadyH.nil
    · obtain rfl : k = path.length := by omega
      rw [List.take_length] at R
      have r1 : Row 57 z.val (w.heap.size + 1) zeros := (z.block R1.out.lt (by omega)).trans R1.out
      have RZ := Lib.hid r1
      have EZ := Lib.hid (Ext.upR HE7.out (by omega) z)
      have hvl := aftL_len t path
      clear r1
      go_wp2_with (first | (refine wpList_load_row rfl _ _ rfl _ rfl _ _ _ _ R.out.eq Try.underlying57 rfl (by rw [vA_size, hvl]; exact Try.sVals) ?_) | (refine wpList_store_row rfl _ _ _ rfl _ _ rfl rfl _ _ RZ.out.eq (by rw [vA_size, hvl]; exact Try.sVals) (by rw [vA_size, vA_size, hvl, zeros_length]) (vA_one _) ?_))
      refine bodyPost_ret (results_cell_row (p := 4) (by kernel_rfl) _ _ (w.heap.size + 1) _ (vA (aftL t path)) (0, 0) _ rfl (RZ.out.setRow _).eq Try.underlying57 rfl (by rw [vA_size, hvl]; exact Try.sVals)) rfl ⟨rfl, .of (EZ.out.setRow (by omega) _)⟩
set_option maxRecDepth 100000 in
set_option maxHeartbeats 1000000 in
theorem iStoreOf_any (t : Tree) (v0 v1 v2 : Value) (n : Int) (w : World) (h : ST w v0 v1 v2 t) :
    Calls Try.prog 8 #[.agg #[v0, v1, v2], .int .i64 n] w fun e w' => ∃ v', e = .returned v' ∧ Up w w' ∧ Own Ent.enc 61 2 w.heap.size w' v' (storeR t n) := by
  obtain ⟨p0, c0, rfl, _, _⟩ := h.base.openc
  obtain ⟨p1, c1, rfl, _, _⟩ := h.bs.openc
  obtain ⟨p2, c2, rfl, _, _⟩ := h.pr.openc
  have H := Lib.hid h
  have kv := fun w h => iTreeValid_any t (.slice p0 t.base.length c0) (.slice p1 t.bs.length c1) (.slice p2 t.pr.length c2) w h
  have kh := fun w h => has_any t (.slice p0 t.base.length c0) (.slice p1 t.bs.length c1) (.slice p2 t.pr.length c2) n w h
  clear h
  rcases guards2 t.ok (hasN t n) with h1 | ⟨h1, h2⟩ | ⟨h1, h2⟩
  · rw [storeR_no1 h1]
    simp only [h1] at kv
    clear h1
    go_enter Try.func8, Try.ntmps8
    go_wp2_with (first | (go_at_call 29; refine (kv _ (H.out.up (by repeat (first | (with_reducible exact Ext.refl _) | (with_reducible refine Ext.up ?_ _) | (with_reducible refine Ext.alloc ?_ _) | (with_reducible refine Ext.drew ?_) | (with_reducible refine Ext.setRow ?_ (by first | exact LeS.le | exact LeS.add _ | (simp; done) | (simp; omega)) _) | (with_reducible refine Ext.setCell ?_ (by first | exact LeS.le | exact LeS.add _ | (simp; done) | (simp; omega)) _))))).mono ?_; rintro e w' ⟨rfl, z1, rfl⟩) | (go_at_call 30; refine (kh _ (H.out.up (by repeat (first | (with_reducible exact Ext.refl _) | (with_reducible refine Ext.up ?_ _) | (with_reducible refine Ext.alloc ?_ _) | (with_reducible refine Ext.drew ?_) | (with_reducible refine Ext.setRow ?_ (by first | exact LeS.le | exact LeS.add _ | (simp; done) | (simp; omega)) _) | (with_reducible refine Ext.setCell ?_ (by first | exact LeS.le | exact LeS.add _ | (simp; done) | (simp; omega)) _))))).mono ?_; rintro e w' ⟨rfl, z2, rfl⟩))
    go_ret
    exact ⟨_, rfl, (.of (by repeat (first | (with_reducible exact Ext.refl _) | (with_reducible refine Ext.up ?_ _) | (with_reducible refine Ext.alloc ?_ _) | (with_reducible refine Ext.drew ?_) | (with_reducible refine Ext.setRow ?_ (by first | exact LeS.le | exact LeS.add _ | (simp; done) | (simp; omega)) _) | (with_reducible refine Ext.setCell ?_ (by first | exact LeS.le | exact LeS.add _ | (simp; done) | (simp; omega)) _)))), Own.nil _ _ _ _ _⟩
  · rw [storeR_no2 h2]
    simp only [h1] at kv
    simp only [h2] at kh
    clear h1 h2
    go_enter Try.func8, Try.ntmps8
    go_wp2_with (first | (go_at_call 29; refine (kv _ (H.out.up (by repeat (first | (with_reducible exact Ext.refl _) | (with_reducible refine Ext.up ?_ _) | (with_reducible refine Ext.alloc ?_ _) | (with_reducible refine Ext.drew ?_) | (with_reducible refine Ext.setRow ?_ (by first | exact LeS.le | exact LeS.add _ | (simp; done) | (simp; omega)) _) | (with_reducible refine Ext.setCell ?_ (by first | exact LeS.le | exact LeS.add _ | (simp; done) | (simp; omega)) _))))).mono ?_; rintro e w' ⟨rfl, z1, rfl⟩) | (go_at_call 30; refine (kh _ (H.out.up (by repeat (first | (with_reducible exact Ext.refl _) | (with_reducible refine Ext.up ?_ _) | (with_reducible refine Ext.alloc ?_ _) | (with_reducible refine Ext.drew ?_) | (with_reducible refine Ext.setRow ?_ (by first | exact LeS.le | exact LeS.add _ | (simp; done) | (simp; omega)) _) | (with_reducible refine Ext.setCell ?_ (by first | exact LeS.le | exact LeS.add _ | (simp; done) | (simp; omega)) _))))).mono ?_; rintro e w' ⟨rfl, z2, rfl⟩))
    go_ret
    exact ⟨_, rfl, (.of (by repeat (first | (with_reducible exact Ext.refl _) | (with_reducible refine Ext.up ?_ _) | (with_reducible refine Ext.alloc ?_ _) | (with_reducible refine Ext.drew ?_) | (with_reducible refine Ext.setRow ?_ (by first | exact LeS.le | exact LeS.add _ | (simp; done) | (simp; omega)) _) | (with_reducible refine Ext.setCell ?_ (by first | exact LeS.le | exact LeS.add _ | (simp; done) | (simp; omega)) _)))), Own.nil _ _ _ _ _⟩
  · rw [storeR_yes h1 h2]
    have ka := fun w h => after_any t (.slice p0 t.base.length c0) (.slice p1 t.bs.length c1) (.slice p2 t.pr.length c2) n w h h1 h2
    have hvl : (aftV t n).length = 32 := aftL_len _ _
    simp only [h1] at kv
    simp only [h2] at kh
    generalize aftV t n = vs at *
    clear h1 h2
    go_enter Try.func8, Try.ntmps8
    go_wp2_with (first | (go_at_call 29; refine (kv _ (H.out.up (by repeat (first | (with_reducible exact Ext.refl _) | (with_reducible refine Ext.up ?_ _) | (with_reducible refine Ext.alloc ?_ _) | (with_reducible refine Ext.drew ?_) | (with_reducible refine Ext.setRow ?_ (by first | exact LeS.le | exact LeS.add _ | (simp; done) | (simp; omega)) _) | (with_reducible refine Ext.setCell ?_ (by first | exact LeS.le | exact LeS.add _ | (simp; done) | (simp; omega)) _))))).mono ?_; rintro e w' ⟨rfl, z1, rfl⟩) | (go_at_call 30; refine (kh _ (H.out.up (by repeat (first | (with_reducible exact Ext.refl _) | (with_reducible refine Ext.up ?_ _) | (with_reducible refine Ext.alloc ?_ _) | (with_reducible refine Ext.drew ?_) | (with_reducible refine Ext.setRow ?_ (by first | exact LeS.le | exact LeS.add _ | (simp; done) | (simp; omega)) _) | (with_reducible refine Ext.setCell ?_ (by first | exact LeS.le | exact LeS.add _ | (simp; done) | (simp; omega)) _))))).mono ?_; rintro e w' ⟨rfl, z2, rfl⟩) | (go_at_call 31; refine (ka _ (H.out.up (by repeat (first | (with_reducible exact Ext.refl _) | (with_reducible refine Ext.up ?_ _) | (with_reducible refine Ext.alloc ?_ _) | (with_reducible refine Ext.drew ?_) | (with_reducible refine Ext.setRow ?_ (by first | exact LeS.le | exact LeS.add _ | (simp; done) | (simp; omega)) _) | (with_reducible refine Ext.setCell ?_ (by first | exact LeS.le | exact LeS.add _ | (simp; done) | (simp; omega)) _))))).mono ?_; rintro e w' ⟨rfl, z3, rfl⟩) | (go_at_call 32; refine (store_any vs _ hvl).mono ?_; rintro e w' ⟨v', rfl, ⟨z4, rfl⟩, o4⟩; have O4 := Lib.hid o4; clear o4))
    go_ret
    exact ⟨_, rfl, (.of (by repeat (first | (with_reducible exact Ext.refl _) | (with_reducible refine Ext.up ?_ _) | (with_reducible refine Ext.alloc ?_ _) | (with_reducible refine Ext.drew ?_) | (with_reducible refine Ext.setRow ?_ (by first | exact LeS.le | exact LeS.add _ | (simp; done) | (simp; omega)) _) | (with_reducible refine Ext.setCell ?_ (by first | exact LeS.le | exact LeS.add _ | (simp; done) | (simp; omega)) _)))), O4.out.lo LeS.le⟩
end Go.Proofs.Yteiemjebdhmnaaa
namespace Go.Proofs.Yteiemjebdhmnaaa
open Go Go.RowKit Go.Proofs

set_option maxRecDepth 100000 in
set_option maxHeartbeats 2000000 in
theorem iRunSerial_yes (s : List Ent) (l : List Actn) (v vl : Value) (w : World) (h : SL (RF Ent.enc) 2 w v s) (hl : SL (RF Actn.enc) 4 w vl l) (hok : entsOk 1 s = true) (hlk : actsOk l = true) :
    Calls Try.prog 13 #[v, vl] w fun e w' => ∃ v1 v2 ts, e = .returned (.tuple #[v1, v2]) ∧ Up w w' ∧ Own Ent.enc 61 2 w.heap.size w' v1 (storeOf (runAll (valsOf s) l).1) ∧
      OE 82 61 w.heap.size w' v2 ts ∧ ts.map TE.core = (runAll (valsOf s) l).2 := by
  have H := Lib.hid h; have HL := Lib.hid hl
  obtain ⟨p, c, rfl, _, _⟩ := h.openc
  obtain ⟨p3, c3, rfl, _, _⟩ := hl.openc
  have kv := fun w (h : SL (RF Ent.enc) 2 w (.slice p s.length c) s) => iStoreValid_any s _ w h
  simp only [hok] at kv
  have kw := fun w (h : SL (RF Actn.enc) 4 w (.slice p3 l.length c3) l) => iActionsValid_any l _ w h
  simp only [hlk] at kw
  have hvi : valsIn (valsOf s) := valsOf_in (entsOk_least (by decide) hok)
  have kr := fun w h => runAll_any (valsOf s) l (.slice p3 l.length c3) w h (valsOf_length s) hvi (fun x hx => by obtain ⟨i, hi⟩ := List.getElem?_of_mem hx; exact actsOk_at hlk hi) (by have := actsOk_len hlk; omega)
  have hRl : (runAll (valsOf s) l).1.length = 32 := runStep_len (valsOf_length s)
  have Hok := Lib.hid hok
  have tok : True := trivial
  clear h hl hok hlk hvi
  generalize runAll (valsOf s) l = R at *
  go_enter Try.func13, Try.ntmps13
  go_wp2_with (first | (go_at_call 14; refine (kv _ (H.out.up (by repeat (first | (with_reducible exact Ext.refl _) | (with_reducible refine Ext.up ?_ _) | (with_reducible refine Ext.alloc ?_ _) | (with_reducible refine Ext.drew ?_) | (with_reducible refine Ext.setRow ?_ (by first | exact LeS.le | exact LeS.add _ | (simp; done) | (simp; omega)) _) | (with_reducible refine Ext.setCell ?_ (by first | exact LeS.le | exact LeS.add _ | (simp; done) | (simp; omega)) _))))).mono ?_; rintro e w' ⟨rfl, z1, rfl⟩) | (go_at_call 43; refine (kw _ (HL.out.up (by repeat (first | (with_reducible exact Ext.refl _) | (with_reducible refine Ext.up ?_ _) | (with_reducible refine Ext.alloc ?_ _) | (with_reducible refine Ext.drew ?_) | (with_reducible refine Ext.setRow ?_ (by first | exact LeS.le | exact LeS.add _ | (simp; done) | (simp; omega)) _) | (with_reducible refine Ext.setCell ?_ (by first | exact LeS.le | exact LeS.add _ | (simp; done) | (simp; omega)) _))))).mono ?_; rintro e w' ⟨rfl, z2, rfl⟩) | (go_at_call 45; refine (valuesOf_any 1 s _ _ (H.out.up (by repeat (first | (with_reducible exact Ext.refl _) | (with_reducible refine Ext.up ?_ _) | (with_reducible refine Ext.alloc ?_ _) | (with_reducible refine Ext.drew ?_) | (with_reducible refine Ext.setRow ?_ (by first | exact LeS.le | exact LeS.add _ | (simp; done) | (simp; omega)) _) | (with_reducible refine Ext.setCell ?_ (by first | exact LeS.le | exact LeS.add _ | (simp; done) | (simp; omega)) _)))) Hok.out).mono ?_; rintro e w' ⟨rfl, z3, rfl⟩) | ((go_at_call 44; refine (kr _ (HL.out.up (by repeat (first | (with_reducible exact Ext.refl _) | (with_reducible refine Ext.up ?_ _) | (with_reducible refine Ext.alloc ?_ _) | (with_reducible refine Ext.drew ?_) | (with_reducible refine Ext.setRow ?_ (by first | exact LeS.le | exact LeS.add _ | (simp; done) | (simp; omega)) _) | (with_reducible refine Ext.setCell ?_ (by first | exact LeS.le | exact LeS.add _ | (simp; done) | (simp; omega)) _))))).mono ?_; rintro e w' ⟨v2, ts, rfl, ⟨z4, rfl⟩, oe, hts⟩); have OE4 := Lib.hid oe; have HTS := Lib.hid hts; clear oe hts) | (have _t := tok; refine wpList_store_new rfl _ _ _ rfl rfl rfl rfl (by rw [hRl]; exact Try.sVals) (by rw [hRl]; rfl) ?_; intro z5 r5; clear _t tok; have R5 := Lib.hid r5; clear r5) | (refine wpList_load_row rfl _ _ rfl _ rfl _ _ _ _ R5.out.eq Try.underlying57 rfl (by rw [vA_size, hRl]; exact Try.sVals) ?_) | (go_at_call 32; refine (store_any _ _ hRl).mono ?_; rintro e w' ⟨v', rfl, ⟨z6, rfl⟩, ho⟩; have HO := Lib.hid ho; clear ho))
  refine bodyPost_ret (v := .tuple #[v', v2]) (by simp [results, Try.results13, go_sem]) rfl ?_
  exact ⟨_, _, ts, rfl, (.of (by repeat (first | (with_reducible exact Ext.refl _) | (with_reducible refine Ext.up ?_ _) | (with_reducible refine Ext.alloc ?_ _) | (with_reducible refine Ext.drew ?_) | (with_reducible refine Ext.setRow ?_ (by first | exact LeS.le | exact LeS.add _ | (simp; done) | (simp; omega)) _) | (with_reducible refine Ext.setCell ?_ (by first | exact LeS.le | exact LeS.add _ | (simp; done) | (simp; omega)) _)))), HO.out.lo LeS.le, (OE4.out.up (by repeat (first | (with_reducible exact Ext.refl _) | (with_reducible refine Ext.up ?_ _) | (with_reducible refine Ext.alloc ?_ _) | (with_reducible refine Ext.drew ?_) | (with_reducible refine Ext.setRow ?_ (by first | exact LeS.le | exact LeS.add _ | (simp; done) | (simp; omega)) _) | (with_reducible refine Ext.setCell ?_ (by first | exact LeS.le | exact LeS.add _ | (simp; done) | (simp; omega)) _)))).lo LeS.le, HTS.out⟩
end Go.Proofs.Yteiemjebdhmnaaa
