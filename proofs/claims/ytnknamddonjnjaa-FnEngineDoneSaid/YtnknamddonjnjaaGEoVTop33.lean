/- Plain laws: engines: steps with the first action that is not checked come to an end. Walks: engines, the reference's side: EngineFinish. Walks: the draws of FnEngineValid and FnEngineDone. -/
import Derived.Test.YtnknamddonjnjaaGEoVTop26
import Derived.Test.YtnknamddonjnjaaGEoVTop30
import Derived.Test.YtnknamddonjnjaaGEoVTop32
import Derived.Test.YtnknamddonjnjaaGEoVTop15
set_option linter.unusedSimpArgs false
set_option linter.unusedVariables false
namespace Go.Proofs.Ytnknamddonjnjaa
open Go Go.RowKit Go.Proofs

/-- How far a slot is from being checked. -/
def Eng.rank (e : Eng) (k : Nat) : Nat := match e.sl[k]? with
  | some t => if t.st = 2 then 0 else if t.st = 1 then (if curOk e.base e.vers k t = true then 1 else 3) else 2
  | none => 0
theorem Eng.rank_le (e : Eng) (k : Nat) : e.rank k ≤ 3 := by unfold Eng.rank; (repeat' split) <;> omega
theorem Eng.rank_eq {e : Eng} {k : Nat} {t : Slt} (h : e.sl[k]? = some t) : e.rank k = if t.st = 2 then 0 else if t.st = 1 then (if curOk e.base e.vers k t = true then 1 else 3) else 2 := by unfold Eng.rank; rw [h]
/-- A step with the first slot that is not checked. -/
theorem Eng.Inv.fin {e : Eng} (h : e.Inv) {k : Nat} {t : Slt} {x : Actn} (ht : e.sl[k]? = some t) (hx : e.acts[k]? = some x) (h2 : t.st ≠ 2) (hb : ∀ j p, j < k → e.sl[j]? = some p → p.st = 2) (htr : t.tr ≤ 900 ∨ (t.st = 1 ∧ curOk e.base e.vers k t = true)) :
    (e.step k).1.rank k < e.rank k ∧ (∀ j, j ≠ k → (e.step k).1.sl[j]? = e.sl[j]?) ∧ ∃ t', (e.step k).1.sl[k]? = some t' ∧ (t'.tr ≤ 900 ∨ (t'.st = 1 ∧ curOk (e.step k).1.base (e.step k).1.vers k t' = true) ∨ t'.st = 2) := by
  have hk := (List.getElem?_eq_some_iff.1 ht).1
  have hprev : e.prevOk k = true := by
    unfold Eng.prevOk
    by_cases h0 : k = 0
    · simp [h0]
    · obtain ⟨p, hp⟩ := getElem?_some_of_lt (l := e.sl) (k := k - 1) (by omega)
      rw [hp]
      simp [hb (k - 1) p (by omega) hp]
  have hok := h.slot ht hx
  rw [Eng.step_in ht hx, Eng.rank_eq ht, if_neg h2]
  unfold Eng.stepAt
  by_cases h0 : t.st = 0
  · have h1 : ¬ t.st = 1 := by omega
    have htr' : t.tr ≠ 1000 := by rcases htr with h | h <;> omega
    rw [if_pos h0, if_neg htr', if_neg h1]
    have hset : (e.sl.set k ⟨1, t.tr + 1, nowF e.base e.vers k x.rk, tryE e.base e.vers k x⟩)[k]? = some ⟨1, t.tr + 1, nowF e.base e.vers k x.rk, tryE e.base e.vers k x⟩ := List.getElem?_set_self hk
    have hpo : putOk e.vers k (tryE e.base e.vers k x).w = true := by
      have hI := (h.tried ht hx h0 htr').w (tryE e.base e.vers k x) (List.mem_map.2 ⟨_, List.mem_of_getElem? hset, rfl⟩)
      have h10 := h.len10
      simp only [putOk, h.vok.1, hI, Bool.true_and, Bool.and_true, inR_iff]; omega
    have hcur := curOk_tried (s := e.base) h.vok.1 (m := t.tr + 1) hpo
    refine ⟨?_, fun j hj => List.getElem?_set_ne (by omega), _, hset, .inr (.inl ⟨rfl, hcur⟩)⟩
    rw [Eng.rank_eq hset]
    simp [hcur]
  · have h1 : t.st = 1 := by
      unfold sltOk at hok
      rw [if_neg h0] at hok
      simp only [sltTry, Bool.and_eq_true, inR_iff] at hok
      omega
    rw [if_neg h0, if_pos h1, if_pos hprev, if_pos h1]
    by_cases hc : curOk e.base e.vers k t = true
    · rw [if_pos hc, if_pos hc]
      have hset : (e.sl.set k ⟨2, t.tr, t.f, t.e⟩)[k]? = some ⟨2, t.tr, t.f, t.e⟩ := List.getElem?_set_self hk
      refine ⟨?_, fun j hj => List.getElem?_set_ne (by omega), _, hset, .inr (.inr rfl)⟩
      rw [Eng.rank_eq hset]; simp
    · rw [if_neg hc, if_neg hc]
      have hset : (e.sl.set k ⟨0, t.tr, [], ⟨false, [], []⟩⟩)[k]? = some ⟨0, t.tr, [], ⟨false, [], []⟩⟩ := List.getElem?_set_self hk
      refine ⟨?_, fun j hj => List.getElem?_set_ne (by omega), _, hset, .inl ?_⟩
      · rw [Eng.rank_eq hset]; simp
      · rcases htr with h | h
        · exact h
        · exact absurd h.2 hc
end Go.Proofs.Ytnknamddonjnjaa
namespace Go.Proofs.Ytnknamddonjnjaa
open Go Go.RowKit Go.Proofs

/-- What stands when the slots before k are checked. -/
def FinAt (e : Eng) (k : Nat) : Prop := (∀ (j : Nat) (p : Slt), j < k → e.sl[j]? = some p → p.st = 2) ∧ (∀ (j : Nat) (p : Slt), k < j → e.sl[j]? = some p → p.tr ≤ 900) ∧ ∀ p : Slt, e.sl[k]? = some p → p.tr ≤ 900 ∨ (p.st = 1 ∧ curOk e.base e.vers k p = true) ∨ p.st = 2
/-- How many rounds are to come at most. -/
def finN (e : Eng) (k : Nat) : Nat := (e.sl.length - k) * 4 + e.rank k
theorem FinAt.start {e : Eng} (h : ∀ (j : Nat) (p : Slt), e.sl[j]? = some p → p.tr ≤ 900) : FinAt e 0 := ⟨fun j p hj => absurd hj (by omega), fun j p _ hp => h j p hp, fun p hp => .inl (h 0 p hp)⟩
theorem FinAt.next {e : Eng} {k : Nat} (h : FinAt e k) {t : Slt} (ht : e.sl[k]? = some t) (h2 : t.st = 2) : FinAt e (k + 1) ∧ finN e (k + 1) < finN e k := by
  refine ⟨⟨fun j p hj hp => ?_, fun j p hj hp => h.2.1 j p (by omega) hp, fun p hp => .inl (h.2.1 (k + 1) p (by omega) hp)⟩, ?_⟩
  · by_cases hjk : j = k
    · subst hjk; rw [ht] at hp; cases hp; exact h2
    · exact h.1 j p (by omega) hp
  · have hk := (List.getElem?_eq_some_iff.1 ht).1
    have h3 := Eng.rank_le e (k + 1)
    unfold finN
    omega
theorem FinAt.step {e : Eng} (hI : e.Inv) {k : Nat} (h : FinAt e k) {t : Slt} (ht : e.sl[k]? = some t) (h2 : t.st ≠ 2) : FinAt (e.step k).1 k ∧ finN (e.step k).1 k < finN e k := by
  obtain ⟨x, hx⟩ := getElem?_some_of_lt (l := e.acts) (k := k) (by have := hI.len; have := (List.getElem?_eq_some_iff.1 ht).1; omega)
  obtain ⟨f1, f2, t', ht', f3⟩ := hI.fin ht hx h2 h.1 (by rcases h.2.2 t ht with a | a | a; exact .inl a; exact .inr a; exact absurd a h2)
  refine ⟨⟨fun j p hj hp => h.1 j p hj ((f2 j (by omega)) ▸ hp), fun j p hj hp => h.2.1 j p hj ((f2 j (by omega)) ▸ hp), fun p hp => ?_⟩, ?_⟩
  · rw [ht'] at hp; cases hp; exact f3
  · unfold finN
    rw [(Eng.step_len e k).1]
    omega
/-- What the steps hold. -/
def FinR (w : World) (G N : Nat) (s6 s7 : Value) (wr : World) : Prop :=
  ∃ (k : Nat) (m : Int) (u0 u1 u2 u3 : Value) (ts : List TS) (E : Eng), s7 = .int .i64 k ∧ s6 = .int .i64 m ∧ k ≤ E.sl.length ∧ FinAt E k ∧ N = finN E k ∧ RunB w (w.heap.size + 1) G u0 u1 u2 u3 ts E wr
set_option maxRecDepth 100000 in
set_option maxHeartbeats 4000000 in
theorem engineFinish_any (e : Eng) (v0 v1 v2 v3 : Value) (w : World) (h : SG w v0 v1 v2 v3 e) (hvl : e.vers.length ≤ 1048576) :
    Calls Try.prog 27 #[.agg #[v0, v1, v2, v3]] w fun ed w' => ∃ u0 u1 u2 u3 ts m, ∃ E : Eng, ed = .returned (.tuple #[.agg #[u0, u1, u2, u3], .int .i64 m]) ∧ Up w w' ∧ ts.map TS.core = E.sl ∧ (E.Inv ∨ E = ⟨[], [], [], []⟩) ∧ OEX w.heap.size w' u0 u1 u2 u3 E.base E.acts E.vers ts := by
  have HG := Lib.hid h
  have hI := Lib.hid (fun h : e.ok = true => Eng.Inv.of h)
  obtain ⟨p0, c0, rfl, _, _⟩ := h.base.openc
  obtain ⟨p1, c1, rfl, _, _⟩ := h.acts.openc
  obtain ⟨p2, c2, rfl, _, _⟩ := h.vers.openc
  obtain ⟨p3, c3, rfl, _, hcs⟩ := h.sl.open
  have HCS := Lib.hid hcs
  have kev := fun w h => sEngineValid_any e (.slice p0 e.base.length c0) (.slice p1 e.acts.length c1) (.slice p2 e.vers.length c2) (.slice p3 e.sl.length c3) w h hvl
  clear h hcs
  rcases hg1 : e.ok with _ | _
  · rw [hg1] at kev
    go_enter Try.func27, Try.ntmps27
    go_wp2_with fail
    refine (kev _ (HG.out.up (by repeat (first | (with_reducible exact Ext.refl _) | (with_reducible refine Ext.up ?_ _) | (with_reducible refine Ext.alloc ?_ _) | (with_reducible refine Ext.drew ?_) | (with_reducible refine Ext.setRow ?_ (by first | exact LeS.le | exact LeS.add _ | (simp; done) | (simp; omega)) _) | (with_reducible refine Ext.setCell ?_ (by first | exact LeS.le | exact LeS.add _ | (simp; done) | (simp; omega)) _))))).mono ?_; rintro ed w' ⟨rfl, ⟨z, rfl⟩⟩
    have hz := z.ext.size
    simp at hz
    have cR0 : z.val.cell? ⟨w.heap.size + 1, 0, none⟩ = some (.slice none 0 0) := by go_simp
    have cR1 : z.val.cell? ⟨w.heap.size + 1, 1, none⟩ = some (.slice none 0 0) := by go_simp
    have cR2 : z.val.cell? ⟨w.heap.size + 1, 2, none⟩ = some (.slice none 0 0) := by go_simp
    have cR3 : z.val.cell? ⟨w.heap.size + 1, 3, none⟩ = some (.slice none 0 0) := by go_simp
    have fR0 : z.val.frozen? ⟨w.heap.size + 1, 0, none⟩ = false := by go_simp
    have fR1 : z.val.frozen? ⟨w.heap.size + 1, 1, none⟩ = false := by go_simp
    have fR2 : z.val.frozen? ⟨w.heap.size + 1, 2, none⟩ = false := by go_simp
    have fR3 : z.val.frozen? ⟨w.heap.size + 1, 3, none⟩ = false := by go_simp
    have hLR : LtS (w.heap.size + 1) z.val := ⟨by omega⟩
    go_wp2_with fail
    refine bodyPost_ret (v := .tuple #[.agg #[.slice none 0 0, .slice none 0 0, .slice none 0 0, .slice none 0 0], .int .i64 (-1)]) (by simp [results, Try.results27, go_sem, cR0, cR1, cR2, cR3]) rfl ?_
    refine ⟨_, _, _, _, [], _, ⟨[], [], [], []⟩, rfl, .of ?_, rfl, .inr rfl, OEX.nil _ _⟩
    repeat (first | (with_reducible exact (Ext.refl _)) | (with_reducible exact z.ext) | (with_reducible refine Ext.setCell ?_ (by first | exact Nat.le_succ _ | omega | (simp; omega)) _) | (with_reducible refine Ext.up ?_ _) | (with_reducible refine Ext.alloc ?_ _) | (with_reducible refine Ext.drew ?_))
  have g1 := hg1
  rw [hg1] at kev
  have hI := Lib.hid (hI.out g1)
  go_enter Try.func27, Try.ntmps27
  go_wp2_with fail
  refine (kev _ (HG.out.up (by repeat (first | (with_reducible exact Ext.refl _) | (with_reducible refine Ext.up ?_ _) | (with_reducible refine Ext.alloc ?_ _) | (with_reducible refine Ext.drew ?_) | (with_reducible refine Ext.setRow ?_ (by first | exact LeS.le | exact LeS.add _ | (simp; done) | (simp; omega)) _) | (with_reducible refine Ext.setCell ?_ (by first | exact LeS.le | exact LeS.add _ | (simp; done) | (simp; omega)) _))))).mono ?_; rintro ed w' ⟨rfl, ⟨z1, rfl⟩⟩
  have hz1 := z1.ext.size
  simp at hz1
  clear kev
  have hLR1 : LtS (w.heap.size + 1) z1.val := ⟨by omega⟩
  have hLR0 : LtS w.heap.size z1.val := ⟨by omega⟩
  have cB : z1.val.cell? ⟨w.heap.size, 3, none⟩ = some (.slice p3 e.sl.length c3) := by go_simp
  go_wp2_with fail
  go_loopw [4] (fun s4 wr => ∃ k : Nat, s4 = .int .i64 k ∧ k ≤ e.sl.length ∧ Up z1.val wr ∧ ∀ (j : Nat) (p : Slt), j < k → e.sl[j]? = some p → p.tr ≤ 900) (fun s4 _ => e.sl.length - (intOf s4).toNat)
  case atStart => exact ⟨0, rfl, Nat.zero_le _, (.of (by repeat (first | (with_reducible exact Ext.refl _) | (with_reducible refine Ext.up ?_ _) | (with_reducible refine Ext.alloc ?_ _) | (with_reducible refine Ext.drew ?_) | (with_reducible refine Ext.setRow ?_ (by first | exact LeS.le | exact LeS.add _ | (simp; done) | (simp; omega)) _) | (with_reducible refine Ext.setCell ?_ (by first | exact LeS.le | exact LeS.add _ | (simp; done) | (simp; omega)) _)))), fun j p hj => absurd hj (by omega)⟩
  case round =>
    obtain ⟨k, rfl, hk, ⟨z, rfl⟩, hall⟩ := hrel
    have HALL := Lib.hid hall; clear hall
    by_cases hlt : k < e.sl.length
    · obtain ⟨t, ht⟩ := getElem?_some_of_lt (l := e.sl) (k := k) hlt
      obtain ⟨b, off, pf, cf, pr, cr, pw, cw, rfl, hb, ⟨e0, e1, e2, e3, e4, e5⟩, -⟩ := HCS.out k t ht
      have HT0 := Lib.hid ht
      have k0 : (0 : Int) ≤ (k : Int) := by omega
      have k1 : (k : Int) < e.sl.length := by omega
      clear e0 e2 e3 e4 e5 ht
      by_cases h9 : 900 < t.tr
      · have cR0 : z.val.cell? ⟨w.heap.size + 1, 0, none⟩ = some (.slice none 0 0) := by go_simp
        have cR1 : z.val.cell? ⟨w.heap.size + 1, 1, none⟩ = some (.slice none 0 0) := by go_simp
        have cR2 : z.val.cell? ⟨w.heap.size + 1, 2, none⟩ = some (.slice none 0 0) := by go_simp
        have cR3 : z.val.cell? ⟨w.heap.size + 1, 3, none⟩ = some (.slice none 0 0) := by go_simp
        have fR0 : z.val.frozen? ⟨w.heap.size + 1, 0, none⟩ = false := by go_simp
        have fR1 : z.val.frozen? ⟨w.heap.size + 1, 1, none⟩ = false := by go_simp
        have fR2 : z.val.frozen? ⟨w.heap.size + 1, 2, none⟩ = false := by go_simp
        have fR3 : z.val.frozen? ⟨w.heap.size + 1, 3, none⟩ = false := by go_simp
        have hLR : LtS (w.heap.size + 1) z.val := inferInstance
        go_wp2_with fail
        refine bodyPost_ret (v := .tuple #[.agg #[.slice none 0 0, .slice none 0 0, .slice none 0 0, .slice none 0 0], .int .i64 (-1)]) (by simp [results, Try.results27, go_sem, cR0, cR1, cR2, cR3]) rfl ?_
        refine ⟨_, _, _, _, [], _, ⟨[], [], [], []⟩, rfl, .of ?_, rfl, .inr rfl, OEX.nil _ _⟩
        repeat (first | (with_reducible exact (Ext.refl _)) | (with_reducible exact z.ext) | (with_reducible refine Ext.setCell ?_ (by first | exact Nat.le_succ _ | omega | (simp; omega)) _) | (with_reducible refine Ext.up ?_ _) | (with_reducible refine Ext.alloc ?_ _) | (with_reducible refine Ext.drew ?_))
      · go_wp2_with fail
        go_roundw
        case rel =>
          refine ⟨k + 1, by go_num, by omega, ⟨z, rfl⟩, fun j p hj hp => ?_⟩
          by_cases hjk : j = k
          · subst hjk
            have := HT0.out
            rw [hp] at this; cases this; omega
          · exact HALL.out j p (by omega) hp
        case measure => simp [intOf]; omega
    · obtain rfl : k = e.sl.length := by omega
      have hfin := Lib.hid (FinAt.start (e := e) fun j p hp => HALL.out j p (List.getElem?_eq_some_iff.1 hp).1 hp)
      have hzs := z.ext.size
      clear HALL
      obtain ⟨n0, n1, n2, n3, n4⟩ := hI.out.parts
      have N4 := Lib.hid n4
      clear n4 hlt hk
      go_wp2_with fail
      refine (copyE_any e _ _ _ _ _ (HG.out.up (by repeat (first | (with_reducible exact Ext.refl _) | (with_reducible refine Ext.up ?_ _) | (with_reducible refine Ext.alloc ?_ _) | (with_reducible refine Ext.drew ?_) | (with_reducible refine Ext.setRow ?_ (by first | exact LeS.le | exact LeS.add _ | (simp; done) | (simp; omega)) _) | (with_reducible refine Ext.setCell ?_ (by first | exact LeS.le | exact LeS.add _ | (simp; done) | (simp; omega)) _)))) n0 n1 n2 n3 N4.out).mono ?_; rintro ed w' ⟨u0, u1, u2, u3, ts, rfl, ⟨z2, rfl⟩, hts, ho⟩
      obtain ⟨q0, d0, rfl, _, _⟩ := (ho.g.base.sl Ent.enc_length).openc
      obtain ⟨q1, d1, rfl, _, _⟩ := (ho.g.acts.sl Actn.enc_length).openc
      obtain ⟨q2, d2, rfl, _, _⟩ := (ho.g.vers.sl Ver.enc_length).openc
      obtain ⟨q3, d3, rfl, _, _⟩ := (ho.g.sl.row.sl TS.enc_length).openc
      have HO := Lib.hid ho; have HT := Lib.hid hts
      have hz2 := z2.ext.size
      have hLR : LtS (w.heap.size + 1) z2.val := ⟨by omega⟩
      have hrB : z2.val.heap[w.heap.size + 1]? = some (.cells #[.slice none 0 0, .slice none 0 0, .slice none 0 0, .slice none 0 0] 28 (0, 0)) := (z2.ext.block (by omega)).trans ((z.ext.block (by omega)).trans ((z1.ext.block (by simp)).trans (heap_alloc_at (by simp))))
      have HRB := Lib.hid hrB
      clear ho hts n0 n1 n2 n3 hrB N4
      go_wp2_with fail
      go_loopg [6, 7] (finN e 0) (fun N s6 s7 wr => FinR w z2.val.heap.size N s6 s7 wr)
      case atStart =>
        refine ⟨0, 0, .slice q0 e.base.length d0, .slice q1 e.acts.length d1, .slice q2 e.vers.length d2, .slice q3 ts.length d3, ts, e, rfl, rfl, Nat.zero_le _, hfin.out, rfl, ⟨?_, ?_, ?_, HT.out, hI.out, ?_⟩⟩
        · exact (by repeat (first | (with_reducible exact Ext.refl _) | (with_reducible refine Ext.up ?_ _) | (with_reducible refine Ext.alloc ?_ _) | (with_reducible refine Ext.drew ?_) | (with_reducible refine Ext.setRow ?_ (by first | exact LeS.le | exact LeS.add _ | (simp; done) | (simp; omega)) _) | (with_reducible refine Ext.setCell ?_ (by first | exact LeS.le | exact LeS.add _ | (simp; done) | (simp; omega)) _)))
        · exact row_up ((Ext.refl _).alloc _) HRB.out
        · exact heap_alloc_new _ _
        · exact (HO.out.up ((Ext.refl _).alloc _)).lo (by omega)
      case round =>
        obtain ⟨k, m, u0, u1, u2, u3, ts, E, rfl, rfl, hk, hf, hN, hrun⟩ := hrel
        have HF := Lib.hid hf; have HN := Lib.hid hN
        obtain ⟨q0, d0, rfl, _, _⟩ := (hrun.ox.g.base.sl Ent.enc_length).openc
        obtain ⟨q1, d1, rfl, _, _⟩ := (hrun.ox.g.acts.sl Actn.enc_length).openc
        obtain ⟨q2, d2, rfl, _, _⟩ := (hrun.ox.g.vers.sl Ver.enc_length).openc
        obtain ⟨q3, d3, rfl, _, _⟩ := (hrun.ox.g.sl.row.sl TS.enc_length).openc
        have HRB := Lib.hid hrun
        have hsg := hrun.ox.sgE hrun.hts
        have HSG := Lib.hid hsg; have HT := Lib.hid hrun.hts; have HI := Lib.hid hrun.inv
        have hTl : ts.length = E.sl.length := by rw [← List.length_map (f := TS.core), hrun.hts]
        obtain ⟨z, rfl⟩ := Up.of hrun.up
        have hLG : LtS z2.val.heap.size z.val := ⟨(Array.getElem?_eq_some_iff.1 hrun.box).1⟩
        have hLB : LtS (w.heap.size + 1) z.val := ⟨(Array.getElem?_eq_some_iff.1 hrun.res).1⟩
        have g0 : z.val.cell? ⟨z2.val.heap.size, 0, none⟩ = some (.slice q0 E.base.length d0) := cell_of_row _ _ 0 _ _ _ hrun.box
        have g1 : z.val.cell? ⟨z2.val.heap.size, 1, none⟩ = some (.slice q1 E.acts.length d1) := cell_of_row _ _ 1 _ _ _ hrun.box
        have g2 : z.val.cell? ⟨z2.val.heap.size, 2, none⟩ = some (.slice q2 E.vers.length d2) := cell_of_row _ _ 2 _ _ _ hrun.box
        have g3 : z.val.cell? ⟨z2.val.heap.size, 3, none⟩ = some (.slice q3 ts.length d3) := cell_of_row _ _ 3 _ _ _ hrun.box
        have fg0 := frozen_of_row _ _ 0 _ _ hrun.box
        have fg1 := frozen_of_row _ _ 1 _ _ hrun.box
        have fg2 := frozen_of_row _ _ 2 _ _ hrun.box
        have fg3 := frozen_of_row _ _ 3 _ _ hrun.box
        by_cases hlt : k < E.sl.length
        · obtain ⟨t, ht⟩ := getElem?_some_of_lt (l := E.sl) (k := k) hlt
          obtain ⟨_, _, ea, _, hcs⟩ := hsg.sl.open
          obtain ⟨b, off, pf, cf, pr, cr, pw, cw, rfl, hb, ⟨e0, -⟩, -⟩ := hcs k t ht
          simp only [Value.slice.injEq] at ea
          obtain ⟨rfl, -, -⟩ := ea
          have HT0 := Lib.hid ht
          have k0 : (0 : Int) ≤ (k : Int) := by omega
          have k1 : (k : Int) < ts.length := by omega
          have HTl := Lib.hid hTl
          clear hcs ht hrun hsg hf hN hTl
          by_cases s2 : t.st = 2
          · have hb2 : (t.st == 2) = true := by rw [s2]; rfl
            rw [s2] at e0
            obtain ⟨n1, n2⟩ := HF.out.next HT0.out s2
            have HN1 := Lib.hid n1; have HN2 := Lib.hid n2
            clear n1 n2
            go_wp2_with fail
            go_roundg (finN E (k + 1))
            case measure => have := HN.out; have := HN2.out; omega
            case rel => exact ⟨k + 1, _, _, _, _, _, ts, E, by go_num, rfl, by omega, HN1.out, rfl, HRB.out⟩
          · have hb2 : (t.st == 2) = false := by rw [beq_eq_false_iff_ne]; exact s2
            obtain ⟨n1, n2⟩ := HF.out.step HI.out HT0.out s2
            have HN1 := Lib.hid n1; have HN2 := Lib.hid n2
            have hle := (Eng.step_len E k).1
            have HLE := Lib.hid hle
            clear n1 n2 hle
            go_wp2_with fail
            refine (stepE_any E _ _ _ _ (k : Int) _ (HSG.out.up (by repeat (first | (with_reducible exact Ext.refl _) | (with_reducible refine Ext.up ?_ _) | (with_reducible refine Ext.alloc ?_ _) | (with_reducible refine Ext.drew ?_) | (with_reducible refine Ext.setRow ?_ (by first | exact LeS.le | exact LeS.add _ | (simp; done) | (simp; omega)) _) | (with_reducible refine Ext.setCell ?_ (by first | exact LeS.le | exact LeS.add _ | (simp; done) | (simp; omega)) _)))) HI.out).mono ?_
            rintro ed w' ⟨y0, y1, y2, y3, ts', rfl, ⟨z8, rfl⟩, hts, ho⟩
            obtain ⟨f0, h0, rfl, _, _⟩ := (ho.g.base.sl Ent.enc_length).openc
            obtain ⟨f1, h1, rfl, _, _⟩ := (ho.g.acts.sl Actn.enc_length).openc
            obtain ⟨f2, h2, rfl, _, _⟩ := (ho.g.vers.sl Ver.enc_length).openc
            obtain ⟨f3, h3, rfl, _, _⟩ := (ho.g.sl.row.sl TS.enc_length).openc
            have HO8 := Lib.hid ho; have HT8 := Lib.hid hts; clear ho hts
            have hz8 := z8.ext.size
            have hzw := HRB.out.up.size
            have hGl : z2.val.heap.size < z.val.heap.size := hLG.lt
            have hwz : w.heap.size ≤ z2.val.heap.size := by omega
            have hEY : Ext z.val (z8.val.alloc (.cells #[.slice f0 (E.step k).fst.base.length h0, .slice f1 (E.step k).fst.acts.length h1, .slice f2 (E.step k).fst.vers.length h2, .slice f3 ts'.length h3] 28)) := (by repeat (first | (with_reducible exact Ext.refl _) | (with_reducible refine Ext.up ?_ _) | (with_reducible refine Ext.alloc ?_ _) | (with_reducible refine Ext.drew ?_) | (with_reducible refine Ext.setRow ?_ (by first | exact LeS.le | exact LeS.add _ | (simp; done) | (simp; omega)) _) | (with_reducible refine Ext.setCell ?_ (by first | exact LeS.le | exact LeS.add _ | (simp; done) | (simp; omega)) _)))
            have HNX := Lib.hid (RunB.next HRB.out hEY (by omega) hwz HT8.out (HI.out.step k) ((HO8.out.up ((Ext.refl _).alloc _)).lo (by first | omega | (simp; omega))))
            clear hEY
            go_wp2_with fail
            go_roundg (finN (E.step k).1 k)
            case measure => have := HN.out; have := HN2.out; omega
            case rel => exact ⟨k, _, .slice f0 (E.step k).fst.base.length h0, .slice f1 (E.step k).fst.acts.length h1, .slice f2 (E.step k).fst.vers.length h2, .slice f3 ts'.length h3, ts', (E.step k).1, rfl, rfl, by have := HLE.out; omega, HN1.out, rfl, HNX.out⟩
        · obtain rfl : k = E.sl.length := by omega
          have cR0 : z.val.cell? ⟨w.heap.size + 1, 0, none⟩ = some (.slice none 0 0) := cell_of_row _ _ 0 _ _ _ HRB.out.res
          have cR1 : z.val.cell? ⟨w.heap.size + 1, 1, none⟩ = some (.slice none 0 0) := cell_of_row _ _ 1 _ _ _ HRB.out.res
          have cR2 : z.val.cell? ⟨w.heap.size + 1, 2, none⟩ = some (.slice none 0 0) := cell_of_row _ _ 2 _ _ _ HRB.out.res
          have cR3 : z.val.cell? ⟨w.heap.size + 1, 3, none⟩ = some (.slice none 0 0) := cell_of_row _ _ 3 _ _ _ HRB.out.res
          have fB0 := frozen_of_row _ _ 0 _ _ HRB.out.res
          have fB1 := frozen_of_row _ _ 1 _ _ HRB.out.res
          have fB2 := frozen_of_row _ _ 2 _ _ HRB.out.res
          have fB3 := frozen_of_row _ _ 3 _ _ HRB.out.res
          have hge : ¬ ((E.sl.length : Int) < (ts.length : Int)) := by omega
          clear hrun hsg hf hN hTl
          go_wp2_with fail
          refine bodyPost_ret (v := .tuple #[.agg #[.slice q0 E.base.length d0, .slice q1 E.acts.length d1, .slice q2 E.vers.length d2, .slice q3 ts.length d3], .int .i64 m]) (by simp [results, Try.results27, go_sem, cR0, cR1, cR2, cR3]) rfl ?_
          first | refine ⟨_, _, _, _, ts, m, E, rfl, .of ?_, HT.out, .inl HI.out, ?_⟩ | refine ⟨_, _, _, _, ⟨m, rfl⟩, .of ?_, ts, E, HT.out, .inl HI.out, ?_⟩
          · have h2 : w.heap.size ≤ w.heap.size + 1 := Nat.le_succ _
            exact z.ext.set4 h2 _ _ _ _
          · exact HRB.out.ox.set4 HRB.out.res _ _ _ _
end Go.Proofs.Ytnknamddonjnjaa
namespace Go.Proofs.Ytnknamddonjnjaa
open Go Go.RowKit Go.Proofs

set_option maxRecDepth 100000 in
set_option maxHeartbeats 2000000 in
theorem drawEngineValid_any (bs : List Int) (v : Value) (w : World) (h : SL (RF encU) 1 w v bs) (hb : ∀ b ∈ bs, 0 ≤ b ∧ b ≤ 255) :
    Calls Try.prog 5 #[v] w fun ed w' => ∃ u0 u1 u2 u3, ∃ E : Eng, ed = .returned (.agg #[u0, u1, u2, u3]) ∧ Up w w' ∧ E.vers.length ≤ 1000 ∧ SG w' u0 u1 u2 u3 E := by
  have H := Lib.hid h; clear h
  go_enter Try.func5, Try.ntmps5
  go_wp2_with fail
  refine (open_any bs v _ (H.out.up (by repeat (first | (with_reducible exact Ext.refl _) | (with_reducible refine Ext.up ?_ _) | (with_reducible refine Ext.alloc ?_ _) | (with_reducible refine Ext.drew ?_) | (with_reducible refine Ext.setRow ?_ (by first | exact LeS.le | exact LeS.add _ | (simp; done) | (simp; omega)) _) | (with_reducible refine Ext.setCell ?_ (by first | exact LeS.le | exact LeS.add _ | (simp; done) | (simp; omega)) _)))) hb).mono ?_; rintro e w' ⟨rb, rfl, ⟨z0, rfl⟩, hr⟩
  have H0 := Lib.hid hr
  have Hold := Lib.hid hr.old
  have hrb := hr.lt
  have hz0 := z0.ext.size
  simp at hz0
  clear hr
  go_wp2_with fail
  refine (drawEngine_any _ _ rb _ 2 H0.out (by omega) (by omega) (by omega)).mono ?_; rintro e w' ⟨u0, u1, u2, u3, E, rfl, hvl, ⟨z1, rfl⟩, hr, hs⟩
  have HS := Lib.hid hs
  have hsg := hs _ (Keep.refl _ _)
  obtain ⟨p0, c0, rfl, _, _⟩ := hsg.base.openc
  obtain ⟨p1, c1, rfl, _, _⟩ := hsg.acts.openc
  obtain ⟨p2, c2, rfl, _, _⟩ := hsg.vers.openc
  obtain ⟨p3, c3, rfl, _, _⟩ := hsg.sl.open
  have hold := Hold.out
  simp at hold
  have E1 : Ext w z1.val := Ext.trans ((Ext.refl w).alloc _) (Ext.upR z0.ext Hold.out z1)
  have hNB : NeS w.heap.size rb := ⟨by omega⟩
  have hLB : LtS w.heap.size z0.val := ⟨by omega⟩
  have cB0 : z1.val.cell? ⟨w.heap.size, 0, none⟩ = some (.slice none 0 0) := by go_simp
  have cB1 : z1.val.cell? ⟨w.heap.size, 1, none⟩ = some (.slice none 0 0) := by go_simp
  have cB2 : z1.val.cell? ⟨w.heap.size, 2, none⟩ = some (.slice none 0 0) := by go_simp
  have cB3 : z1.val.cell? ⟨w.heap.size, 3, none⟩ = some (.slice none 0 0) := by go_simp
  clear hr hs hsg
  go_wp2_with fail
  refine bodyPost_ret (v := .agg #[.slice p0 E.base.length c0, .slice p1 E.acts.length c1, .slice p2 E.vers.length c2, .slice p3 E.sl.length c3]) (by simp [results, Try.results5, go_sem, cB0, cB1, cB2, cB3]) rfl ?_
  refine ⟨_, _, _, _, E, rfl, .of (E1.set4 (Nat.le_refl _) _ _ _ _), hvl, HS.out _ ?_⟩
  exact Keep.setCell (Keep.setCell (Keep.setCell (Keep.setCell (Keep.refl _ _) _ _ (by omega)) _ _ (by omega)) _ _ (by omega)) _ _ (by omega)
set_option maxRecDepth 100000 in
set_option maxHeartbeats 2000000 in
theorem drawEngineDone_any (bs : List Int) (v : Value) (w : World) (h : SL (RF encU) 1 w v bs) (hb : ∀ b ∈ bs, 0 ≤ b ∧ b ≤ 255) :
    Calls Try.prog 9 #[v] w fun ed w' => ∃ u0 u1 u2 u3, ∃ E : Eng, ed = .returned (.agg #[u0, u1, u2, u3]) ∧ Up w w' ∧ E.vers.length ≤ 1000 ∧ SG w' u0 u1 u2 u3 E := by
  have H := Lib.hid h; clear h
  go_enter Try.func9, Try.ntmps9
  go_wp2_with fail
  refine (open_any bs v _ (H.out.up (by repeat (first | (with_reducible exact Ext.refl _) | (with_reducible refine Ext.up ?_ _) | (with_reducible refine Ext.alloc ?_ _) | (with_reducible refine Ext.drew ?_) | (with_reducible refine Ext.setRow ?_ (by first | exact LeS.le | exact LeS.add _ | (simp; done) | (simp; omega)) _) | (with_reducible refine Ext.setCell ?_ (by first | exact LeS.le | exact LeS.add _ | (simp; done) | (simp; omega)) _)))) hb).mono ?_; rintro e w' ⟨rb, rfl, ⟨z0, rfl⟩, hr⟩
  have H0 := Lib.hid hr
  have Hold := Lib.hid hr.old
  have hrb := hr.lt
  have hz0 := z0.ext.size
  simp at hz0
  clear hr
  go_wp2_with fail
  refine (drawEngine_any _ _ rb _ 9 H0.out (by omega) (by omega) (by omega)).mono ?_; rintro e w' ⟨u0, u1, u2, u3, E, rfl, hvl, ⟨z1, rfl⟩, hr, hs⟩
  have HS := Lib.hid hs; have HR := Lib.hid hr
  have hsg := hs _ (Keep.refl _ _)
  obtain ⟨p0, c0, rfl, _, _⟩ := hsg.base.openc
  obtain ⟨p1, c1, rfl, _, _⟩ := hsg.acts.openc
  obtain ⟨p2, c2, rfl, _, _⟩ := hsg.vers.openc
  obtain ⟨p3, c3, rfl, _, _⟩ := hsg.sl.open
  have hold := Hold.out
  simp at hold
  have hz1 := z1.grown.size
  have E1 : Ext w z1.val := Ext.trans ((Ext.refl w).alloc _) (Ext.upR z0.ext Hold.out z1)
  have hNB : NeS w.heap.size rb := ⟨by omega⟩
  have hLB : LtS w.heap.size z0.val := ⟨by omega⟩
  clear hr hs hsg
  go_wp2_with fail
  refine (pick_any _ _ rb _ 2 (HR.out.up (by repeat (first | (with_reducible exact Ext.refl _) | (with_reducible refine Ext.up ?_ _) | (with_reducible refine Ext.alloc ?_ _) | (with_reducible refine Ext.drew ?_) | (with_reducible refine Ext.setRow ?_ (by first | exact LeS.le | exact LeS.add _ | (simp; done) | (simp; omega)) _) | (with_reducible refine Ext.setCell ?_ (by first | exact LeS.le | exact LeS.add _ | (simp; done) | (simp; omega)) _)))) (by omega) (by omega) (by omega)).mono ?_; rintro e w' ⟨q, rfl, q0, q1, -, ⟨z2, rfl⟩, hr⟩
  have E2 : Ext w z2.val := Ext.upR (E1.alloc _) (by omega) z2
  have hz2 := z2.grown.size
  simp at hz2
  have hNG : NeS z1.val.heap.size rb := ⟨by omega⟩
  have hK : Keep z0.val.heap.size z1.val z2.val := ⟨by omega, fun k hk hk2 => (z2.block (by simp; omega) (by omega)).trans (heap_alloc_old _ _ hk2)⟩
  have HSG := Lib.hid (HS.out _ hK)
  have rG : z2.val.heap[z1.val.heap.size]? = some (.cells #[.slice p0 E.base.length c0, .slice p1 E.acts.length c1, .slice p2 E.vers.length c2, .slice p3 E.sl.length c3] 28 (0, 0)) := (z2.block (by simp) (by omega)).trans (heap_alloc_new _ _)
  have HRG := Lib.hid rG
  have hLG : LtS z1.val.heap.size z2.val := ⟨by omega⟩
  have hLB2 : LtS w.heap.size z2.val := ⟨by omega⟩
  have cB0 : z2.val.cell? ⟨w.heap.size, 0, none⟩ = some (.slice none 0 0) := by go_simp
  have cB1 : z2.val.cell? ⟨w.heap.size, 1, none⟩ = some (.slice none 0 0) := by go_simp
  have cB2 : z2.val.cell? ⟨w.heap.size, 2, none⟩ = some (.slice none 0 0) := by go_simp
  have cB3 : z2.val.cell? ⟨w.heap.size, 3, none⟩ = some (.slice none 0 0) := by go_simp
  have fB0 : z2.val.frozen? ⟨w.heap.size, 0, none⟩ = false := by go_simp
  have fB1 : z2.val.frozen? ⟨w.heap.size, 1, none⟩ = false := by go_simp
  have fB2 : z2.val.frozen? ⟨w.heap.size, 2, none⟩ = false := by go_simp
  have fB3 : z2.val.frozen? ⟨w.heap.size, 3, none⟩ = false := by go_simp
  have g0 : z2.val.cell? ⟨z1.val.heap.size, 0, none⟩ = some (.slice p0 E.base.length c0) := cell_of_row _ _ 0 _ _ _ rG
  have g1 : z2.val.cell? ⟨z1.val.heap.size, 1, none⟩ = some (.slice p1 E.acts.length c1) := cell_of_row _ _ 1 _ _ _ rG
  have g2 : z2.val.cell? ⟨z1.val.heap.size, 2, none⟩ = some (.slice p2 E.vers.length c2) := cell_of_row _ _ 2 _ _ _ rG
  have g3 : z2.val.cell? ⟨z1.val.heap.size, 3, none⟩ = some (.slice p3 E.sl.length c3) := cell_of_row _ _ 3 _ _ _ rG
  have fg0 := frozen_of_row _ _ 0 _ _ rG
  have fg1 := frozen_of_row _ _ 1 _ _ rG
  have fg2 := frozen_of_row _ _ 2 _ _ rG
  have fg3 := frozen_of_row _ _ 3 _ _ rG
  have HKS := Lib.hid (fun W (hk : Keep z0.val.heap.size z2.val W) => HS.out W (hK.trans hk))
  obtain ⟨zv, hzv⟩ := Up.of E2
  rw [hzv] at HKS HSG HRG hLG hLB2 cB0 cB1 cB2 cB3 fB0 fB1 fB2 fB3 g0 g1 g2 g3 fg0 fg1 fg2 fg3 hz2 ⊢
  clear hr rG hK HS HR H0 hzv E2
  by_cases hq : q = 0
  · subst hq
    go_wp2_with fail
    refine (engineFinish_any E _ _ _ _ _ HSG.out (by omega)).mono ?_; rintro ed w' ⟨y0, y1, y2, y3, ts, m, F, rfl, ⟨z3, rfl⟩, hts, hinv, ho⟩
    obtain ⟨f0, h0, rfl, _, _⟩ := (ho.g.base.sl Ent.enc_length).openc
    obtain ⟨f1, h1, rfl, _, _⟩ := (ho.g.acts.sl Actn.enc_length).openc
    obtain ⟨f2, h2, rfl, _, _⟩ := (ho.g.vers.sl Ver.enc_length).openc
    obtain ⟨f3, h3, rfl, _, _⟩ := (ho.g.sl.row.sl TS.enc_length).openc
    have HO := Lib.hid ho; have HT := Lib.hid hts
    have hvF := (small_ts hinv hts).1
    have hz3 := z3.ext.size
    clear ho hts hinv
    go_wp2_with fail
    refine bodyPost_ret (v := .agg #[.slice f0 F.base.length h0, .slice f1 F.acts.length h1, .slice f2 F.vers.length h2, .slice f3 ts.length h3]) (by simp [results, Try.results9, go_sem, cB0, cB1, cB2, cB3]) rfl ?_
    refine ⟨_, _, _, _, F, rfl, .of ((Ext.set4 (Ext.set4 (zv.ext.trans z3.ext) (by omega) _ _ _ _) (Nat.le_refl _) _ _ _ _)), by omega, OEX.sgE (ts := ts) ((((((((HO.out.setOld _ _ (by dsimp only; omega)).setOld _ _ (by dsimp only; omega)).setOld _ _ (by dsimp only; omega)).setOld _ _ (by dsimp only; omega)).setOld _ _ (by dsimp only; omega)).setOld _ _ (by dsimp only; omega)).setOld _ _ (by dsimp only; omega)).setOld _ _ (by dsimp only; omega)) HT.out⟩
  · have hq0 : (q == 0) = false := by rw [beq_eq_false_iff_ne]; exact hq
    go_wp2_with fail
    refine bodyPost_ret (v := .agg #[.slice p0 E.base.length c0, .slice p1 E.acts.length c1, .slice p2 E.vers.length c2, .slice p3 E.sl.length c3]) (by simp [results, Try.results9, go_sem, cB0, cB1, cB2, cB3]) rfl ?_
    refine ⟨_, _, _, _, E, rfl, .of (zv.ext.set4 (Nat.le_refl _) _ _ _ _), hvl, HKS.out _ ?_⟩
    exact Keep.setCell (Keep.setCell (Keep.setCell (Keep.setCell (Keep.refl _ _) _ _ (by omega)) _ _ (by omega)) _ _ (by omega)) _ _ (by omega)
end Go.Proofs.Ytnknamddonjnjaa
