/- Walks: engines: EngineDone and TriesOf on both sides. The laws FnEngineValid and FnEngineDone: walks. The decoder of codes. -/
import Derived.Test.YtnknamddonjnjaaGEoVTop27
import Derived.Test.YtnknamddonjnjaaGEoVTop33
import Derived.Test.YtnknamddonjnjaaGEoVTop07
import Derived.Test.YtnknamddonjnjaaGEoVTop15
set_option linter.unusedSimpArgs false
set_option linter.unusedVariables false
namespace Go.Proofs.Ytnknamddonjnjaa
open Go Go.RowKit Go.Proofs

theorem eng_ok_parts {e : Eng} (h : e.ok = true) : e.sl.length ≤ 10 ∧ ∀ (k : Nat) t, e.sl[k]? = some t → 0 ≤ t.tr ∧ t.tr ≤ 1000 := by
  unfold Eng.ok at h
  simp only [Bool.and_eq_true, decide_eq_true_eq] at h
  obtain ⟨_, ha, hl, hs, _⟩ := h
  refine ⟨by rw [hl]; exact actsOk_len ha, fun k t ht => ?_⟩
  have hk := (List.getElem?_eq_some_iff.1 ht).1
  obtain ⟨x, hx⟩ := getElem?_some_of_lt (l := e.acts) (k := k) (by omega)
  have := upTo_iff.1 hs k hk
  rw [slAt_eq ht hx] at this
  unfold sltOk at this
  split at this
  · simp only [sltNew, Bool.and_eq_true, inR_iff] at this; exact this.1
  · simp only [sltTry, Bool.and_eq_true, inR_iff] at this; omega
def trS (l : List Slt) : Int := (l.map (·.tr)).sum
theorem trS_snoc {l : List Slt} {k : Nat} {t : Slt} (h : l[k]? = some t) : trS (l.take (k + 1)) = trS (l.take k) + t.tr := by
  unfold trS; rw [List.take_add_one, h]; simp
theorem trS_le {l : List Slt} (h : ∀ (k : Nat) t, l[k]? = some t → 0 ≤ t.tr ∧ t.tr ≤ 1000) : ∀ k, 0 ≤ trS (l.take k) ∧ trS (l.take k) ≤ 1000 * k
  | 0 => by simp [trS]
  | k + 1 => by
    have ih := trS_le h k
    by_cases hk : k < l.length
    · obtain ⟨t, ht⟩ := getElem?_some_of_lt hk
      rw [trS_snoc ht]
      have := h k t ht
      omega
    · rw [List.take_of_length_le (by omega)]; rw [List.take_of_length_le (by omega)] at ih; omega
set_option maxRecDepth 100000 in
set_option maxHeartbeats 1000000 in
theorem sEngineDone_any (e : Eng) (v0 v1 v2 v3 : Value) (w : World) (h : SG w v0 v1 v2 v3 e) (hvl : e.vers.length ≤ 1048576) :
    Calls Try.prog 11 #[.agg #[v0, v1, v2, v3]] w fun ed w' => ed = .returned (.bool e.done) ∧ Up w w' := by
  have HG := Lib.hid h
  obtain ⟨p0, c0, rfl, _, _⟩ := h.base.openc
  obtain ⟨p1, c1, rfl, _, _⟩ := h.acts.openc
  obtain ⟨p2, c2, rfl, _, _⟩ := h.vers.openc
  obtain ⟨p3, c3, rfl, _, hcs⟩ := h.sl.open
  have HCS := Lib.hid hcs
  have kv := fun w h => sEngineValid_any e (.slice p0 e.base.length c0) (.slice p1 e.acts.length c1) (.slice p2 e.vers.length c2) (.slice p3 e.sl.length c3) w h hvl
  clear h hcs
  rcases hok : e.ok with _ | _
  · rw [hok] at kv
    have hD := Lib.hid (show e.done = false by unfold Eng.done; rw [hok]; rfl)
    clear hok
    go_enter Try.func11, Try.ntmps11
    go_wp2_with fail
    refine (kv _ (HG.out.up (by repeat (first | (with_reducible exact Ext.refl _) | (with_reducible refine Ext.up ?_ _) | (with_reducible refine Ext.alloc ?_ _) | (with_reducible refine Ext.drew ?_) | (with_reducible refine Ext.setRow ?_ (by first | exact LeS.le | exact LeS.add _ | (simp; done) | (simp; omega)) _) | (with_reducible refine Ext.setCell ?_ (by first | exact LeS.le | exact LeS.add _ | (simp; done) | (simp; omega)) _))))).mono ?_; rintro ed w' ⟨rfl, ⟨z1, rfl⟩⟩
    go_wp2_with fail
    go_ret
    exact ⟨by rw [hD.out]; rfl, (.of (by repeat (first | (with_reducible exact Ext.refl _) | (with_reducible refine Ext.up ?_ _) | (with_reducible refine Ext.alloc ?_ _) | (with_reducible refine Ext.drew ?_) | (with_reducible refine Ext.setRow ?_ (by first | exact LeS.le | exact LeS.add _ | (simp; done) | (simp; omega)) _) | (with_reducible refine Ext.setCell ?_ (by first | exact LeS.le | exact LeS.add _ | (simp; done) | (simp; omega)) _))))⟩
  rw [hok] at kv
  have hl10 := (eng_ok_parts hok).1
  have hD := Lib.hid (show e.done = e.sl.all fun s => s.st == 2 by unfold Eng.done; rw [hok]; rfl)
  clear hok
  go_enter Try.func11, Try.ntmps11
  go_wp2_with fail
  refine (kv _ (HG.out.up (by repeat (first | (with_reducible exact Ext.refl _) | (with_reducible refine Ext.up ?_ _) | (with_reducible refine Ext.alloc ?_ _) | (with_reducible refine Ext.drew ?_) | (with_reducible refine Ext.setRow ?_ (by first | exact LeS.le | exact LeS.add _ | (simp; done) | (simp; omega)) _) | (with_reducible refine Ext.setCell ?_ (by first | exact LeS.le | exact LeS.add _ | (simp; done) | (simp; omega)) _))))).mono ?_; rintro ed w' ⟨rfl, ⟨z1, rfl⟩⟩
  clear kv
  go_wp2_with fail
  go_loopw [3] (fun s3 wr => ∃ (k : Nat), s3 = .int .i64 k ∧ k ≤ e.sl.length ∧ Up z1.val wr ∧ ((e.sl.take k).all fun s => s.st == 2) = true) (fun s3 _ => e.sl.length - (intOf s3).toNat)
  case atStart => exact ⟨0, rfl, Nat.zero_le _, .of (Ext.refl _), rfl⟩
  case round =>
    obtain ⟨k, rfl, hk, ⟨z, rfl⟩, hall⟩ := hrel
    have HALL := Lib.hid hall; clear hall
    by_cases hlt : k < e.sl.length
    · obtain ⟨t, ht⟩ := getElem?_some_of_lt hlt
      obtain ⟨b, off, q0, d0, q1, d1, q2, d2, rfl, hb, ⟨e0, e1, e2, e3, e4, e5⟩, -, -, -⟩ := HCS.out k t ht
      have k0 : (0 : Int) ≤ (k : Int) := by omega
      have k1 : (k : Int) < e.sl.length := by omega
      have HT := Lib.hid ht; clear ht
      by_cases h2 : t.st = 2
      · have h2' : (t.st != 2) = false := by simpa using h2
        have hn := Lib.hid (all_next (p := fun s : Slt => s.st == 2) HT.out HALL.out (by simpa using h2))
        clear h2
        go_wp2_with fail
        go_roundw
        case rel => exact ⟨k + 1, by go_num, by omega, (.of (by repeat (first | (with_reducible exact Ext.refl _) | (with_reducible refine Ext.up ?_ _) | (with_reducible refine Ext.alloc ?_ _) | (with_reducible refine Ext.drew ?_) | (with_reducible refine Ext.setRow ?_ (by first | exact LeS.le | exact LeS.add _ | (simp; done) | (simp; omega)) _) | (with_reducible refine Ext.setCell ?_ (by first | exact LeS.le | exact LeS.add _ | (simp; done) | (simp; omega)) _)))), hn.out⟩
        case measure => simp [intOf] <;> omega
      · have h2' : (t.st != 2) = true := by simpa using h2
        have hn := Lib.hid (all_stop (p := fun s : Slt => s.st == 2) HT.out (by simpa using h2))
        clear h2
        go_wp2_with fail
        go_ret
        exact ⟨by rw [hD.out, hn.out]; rfl, (.of (by repeat (first | (with_reducible exact Ext.refl _) | (with_reducible refine Ext.up ?_ _) | (with_reducible refine Ext.alloc ?_ _) | (with_reducible refine Ext.drew ?_) | (with_reducible refine Ext.setRow ?_ (by first | exact LeS.le | exact LeS.add _ | (simp; done) | (simp; omega)) _) | (with_reducible refine Ext.setCell ?_ (by first | exact LeS.le | exact LeS.add _ | (simp; done) | (simp; omega)) _))))⟩
    · obtain rfl : k = e.sl.length := by omega
      go_wp2_with fail
      go_ret
      exact ⟨by have := HALL.out; rw [List.take_length] at this; rw [hD.out, this]; rfl, (.of (by repeat (first | (with_reducible exact Ext.refl _) | (with_reducible refine Ext.up ?_ _) | (with_reducible refine Ext.alloc ?_ _) | (with_reducible refine Ext.drew ?_) | (with_reducible refine Ext.setRow ?_ (by first | exact LeS.le | exact LeS.add _ | (simp; done) | (simp; omega)) _) | (with_reducible refine Ext.setCell ?_ (by first | exact LeS.le | exact LeS.add _ | (simp; done) | (simp; omega)) _))))⟩
set_option maxRecDepth 100000 in
theorem iDone1_any (t : Slt) (vf vr vw : Value) (w : World) : Calls Try.prog 63 #[.agg #[.int .i64 t.st, .int .i64 t.tr, vf, .bool t.e.d, vr, vw]] w fun e w' => e = .returned (.bool (t.st != 2)) ∧ Up w w' := by
  go_enter Try.func63, Try.ntmps63
  go_wp2_with fail
  go_ret
  exact ⟨rfl, (.of (by repeat (first | exact Ext.refl _ | refine Ext.up ?_ _ | refine Ext.alloc ?_ _ | refine Ext.drew ?_ | refine Ext.setRow ?_ (by first | (dsimp only; omega) | exact LeS.le | exact LeS.add _ | (simp; done) | (simp; omega)) _ | refine Ext.setCell ?_ (by first | (dsimp only; omega) | exact LeS.le | exact LeS.add _ | (simp; done) | (simp; omega)) _)))⟩
set_option maxRecDepth 100000 in
set_option maxHeartbeats 1000000 in
theorem iIndexD_any (l : List Slt) (v : Value) (w : World) (h : SS w v l) :
    Calls Try.prog 83 #[v, .func (.func 63) #[] #[]] w fun e w' => ∃ n : Int, e = .returned (.int .i64 n) ∧ decide (0 ≤ n) = (!l.all fun s => s.st == 2) ∧ Up w w' := by
  obtain ⟨p3, c3, rfl, hlen, hcs⟩ := h.open
  have HCS := Lib.hid hcs
  clear h hcs
  go_enter Try.func83, Try.ntmps83
  go_wp2_with fail
  go_loopw [5, 8] (fun _ s8 wr => ∃ (k : Nat), s8 = .int .i64 k ∧ k ≤ l.length ∧ Up w wr ∧ ((l.take k).all fun s => s.st == 2) = true) (fun _ s8 _ => l.length - (intOf s8).toNat)
  case atStart => exact ⟨0, rfl, Nat.zero_le _, .of (Ext.refl _), rfl⟩
  case round =>
    obtain ⟨k, rfl, hk, ⟨z, rfl⟩, hall⟩ := hrel
    have HALL := Lib.hid hall; clear hall
    by_cases hlt : k < l.length
    · obtain ⟨t, ht⟩ := getElem?_some_of_lt hlt
      obtain ⟨b, off, q0, d0, q1, d1, q2, d2, rfl, hb, ⟨e0, e1, e2, e3, e4, e5⟩, -, -, -⟩ := HCS.out k t ht
      have k0 : (0 : Int) ≤ (k : Int) := by omega
      have k1 : (k : Int) < l.length := by omega
      have HT := Lib.hid ht; clear ht
      have kq := fun w => iDone1_any t (.slice q0 t.f.length d0) (.slice q1 t.e.r.length d1) (.slice q2 t.e.w.length d2) w
      by_cases h2 : t.st = 2
      · have h2' : (t.st != 2) = false := by simpa using h2
        have hn := Lib.hid (all_next (p := fun s : Slt => s.st == 2) HT.out HALL.out (by simpa using h2))
        rw [h2'] at kq
        clear h2
        go_wp2_with (go_at_call 63; refine (kq _).mono ?_; rintro e w' ⟨rfl, z1, rfl⟩)
        go_roundw
        case rel => exact ⟨k + 1, by go_num, by omega, (.of (by repeat (first | (with_reducible exact Ext.refl _) | (with_reducible refine Ext.up ?_ _) | (with_reducible refine Ext.alloc ?_ _) | (with_reducible refine Ext.drew ?_) | (with_reducible refine Ext.setRow ?_ (by first | exact LeS.le | exact LeS.add _ | (simp; done) | (simp; omega)) _) | (with_reducible refine Ext.setCell ?_ (by first | exact LeS.le | exact LeS.add _ | (simp; done) | (simp; omega)) _)))), hn.out⟩
        case measure => simp [intOf] <;> omega
      · have h2' : (t.st != 2) = true := by simpa using h2
        have hn := Lib.hid (all_stop (p := fun s : Slt => s.st == 2) HT.out (by simpa using h2))
        rw [h2'] at kq
        clear h2
        go_wp2_with (go_at_call 63; refine (kq _).mono ?_; rintro e w' ⟨rfl, z1, rfl⟩)
        go_ret
        exact ⟨_, rfl, by rw [hn.out]; simp, (.of (by repeat (first | (with_reducible exact Ext.refl _) | (with_reducible refine Ext.up ?_ _) | (with_reducible refine Ext.alloc ?_ _) | (with_reducible refine Ext.drew ?_) | (with_reducible refine Ext.setRow ?_ (by first | exact LeS.le | exact LeS.add _ | (simp; done) | (simp; omega)) _) | (with_reducible refine Ext.setCell ?_ (by first | exact LeS.le | exact LeS.add _ | (simp; done) | (simp; omega)) _))))⟩
    · obtain rfl : k = l.length := by omega
      go_wp2_with fail
      go_ret
      exact ⟨_, rfl, by have := HALL.out; rw [List.take_length] at this; rw [this]; rfl, (.of (by repeat (first | (with_reducible exact Ext.refl _) | (with_reducible refine Ext.up ?_ _) | (with_reducible refine Ext.alloc ?_ _) | (with_reducible refine Ext.drew ?_) | (with_reducible refine Ext.setRow ?_ (by first | exact LeS.le | exact LeS.add _ | (simp; done) | (simp; omega)) _) | (with_reducible refine Ext.setCell ?_ (by first | exact LeS.le | exact LeS.add _ | (simp; done) | (simp; omega)) _))))⟩
set_option maxRecDepth 100000 in
theorem iContainsD_any (l : List Slt) (v : Value) (w : World) (h : SS w v l) :
    Calls Try.prog 62 #[v, .func (.func 63) #[] #[]] w fun e w' => e = .returned (.bool (!l.all fun s => s.st == 2)) ∧ Up w w' := by
  have H := Lib.hid h
  obtain ⟨p3, c3, rfl, hlen, -⟩ := h.open
  clear h
  generalize hB : (!l.all fun s => s.st == 2) = B
  have ki := fun w h => iIndexD_any l (.slice p3 l.length c3) w h
  rw [hB] at ki
  clear hB
  go_enter Try.func62, Try.ntmps62
  go_wp2_with (go_at_call 83; refine (ki _ H.out).mono ?_; rintro e w' ⟨n, rfl, hn, z, rfl⟩)
  go_ret
  exact ⟨rfl, (.of (by repeat (first | exact Ext.refl _ | refine Ext.up ?_ _ | refine Ext.alloc ?_ _ | refine Ext.drew ?_ | refine Ext.setRow ?_ (by first | (dsimp only; omega) | exact LeS.le | exact LeS.add _ | (simp; done) | (simp; omega)) _ | refine Ext.setCell ?_ (by first | (dsimp only; omega) | exact LeS.le | exact LeS.add _ | (simp; done) | (simp; omega)) _)))⟩
set_option maxRecDepth 100000 in
theorem iDone_any (e : Eng) (v0 v1 v2 v3 : Value) (w : World) (h : SG w v0 v1 v2 v3 e) :
    Calls Try.prog 28 #[.agg #[v0, v1, v2, v3]] w fun ed w' => ed = .returned (.bool (e.sl.all fun s => s.st == 2)) ∧ Up w w' := by
  have HS := Lib.hid h.sl
  obtain ⟨p0, c0, rfl, _, _⟩ := h.base.openc
  obtain ⟨p1, c1, rfl, _, _⟩ := h.acts.openc
  obtain ⟨p2, c2, rfl, _, _⟩ := h.vers.openc
  obtain ⟨p3, c3, rfl, _, -⟩ := h.sl.open
  have kc := fun w h => iContainsD_any e.sl (.slice p3 e.sl.length c3) w h
  generalize (e.sl.all fun s => s.st == 2) = B at *
  clear h
  go_enter Try.func28, Try.ntmps28
  go_wp2_with fail
  refine (kc _ (HS.out.up (by repeat (first | (with_reducible exact Ext.refl _) | (with_reducible refine Ext.up ?_ _) | (with_reducible refine Ext.alloc ?_ _) | (with_reducible refine Ext.drew ?_) | (with_reducible refine Ext.setRow ?_ (by first | exact LeS.le | exact LeS.add _ | (simp; done) | (simp; omega)) _) | (with_reducible refine Ext.setCell ?_ (by first | exact LeS.le | exact LeS.add _ | (simp; done) | (simp; omega)) _))))).mono ?_; rintro ed w' ⟨rfl, ⟨z1, rfl⟩⟩
  go_wp2_with fail
  go_ret
  exact ⟨by cases B <;> rfl, (.of (by repeat (first | (with_reducible exact Ext.refl _) | (with_reducible refine Ext.up ?_ _) | (with_reducible refine Ext.alloc ?_ _) | (with_reducible refine Ext.drew ?_) | (with_reducible refine Ext.setRow ?_ (by first | exact LeS.le | exact LeS.add _ | (simp; done) | (simp; omega)) _) | (with_reducible refine Ext.setCell ?_ (by first | exact LeS.le | exact LeS.add _ | (simp; done) | (simp; omega)) _))))⟩
set_option maxRecDepth 100000 in
theorem iEngineDone_any (e : Eng) (v0 v1 v2 v3 : Value) (w : World) (h : SG w v0 v1 v2 v3 e) (hvl : e.vers.length ≤ 1048576) :
    Calls Try.prog 10 #[.agg #[v0, v1, v2, v3]] w fun ed w' => ed = .returned (.bool e.done) ∧ Up w w' := by
  have HG := Lib.hid h
  obtain ⟨p0, c0, rfl, _, _⟩ := h.base.openc
  obtain ⟨p1, c1, rfl, _, _⟩ := h.acts.openc
  obtain ⟨p2, c2, rfl, _, _⟩ := h.vers.openc
  obtain ⟨p3, c3, rfl, _, -⟩ := h.sl.open
  have kv := fun w h => iEngineValid_any e (.slice p0 e.base.length c0) (.slice p1 e.acts.length c1) (.slice p2 e.vers.length c2) (.slice p3 e.sl.length c3) w h hvl
  have kd := fun w h => iDone_any e (.slice p0 e.base.length c0) (.slice p1 e.acts.length c1) (.slice p2 e.vers.length c2) (.slice p3 e.sl.length c3) w h
  have hD := Lib.hid (show e.done = (e.ok && e.sl.all fun s => s.st == 2) from rfl)
  generalize e.done = D at *
  generalize (e.sl.all fun s => s.st == 2) = A at *
  generalize e.ok = B at *
  clear h
  rcases B with _ | _
  · obtain rfl : D = false := hD.out
    go_enter Try.func10, Try.ntmps10
    go_wp2_with fail
    refine (kv _ (HG.out.up (by repeat (first | (with_reducible exact Ext.refl _) | (with_reducible refine Ext.up ?_ _) | (with_reducible refine Ext.alloc ?_ _) | (with_reducible refine Ext.drew ?_) | (with_reducible refine Ext.setRow ?_ (by first | exact LeS.le | exact LeS.add _ | (simp; done) | (simp; omega)) _) | (with_reducible refine Ext.setCell ?_ (by first | exact LeS.le | exact LeS.add _ | (simp; done) | (simp; omega)) _))))).mono ?_; rintro ed w' ⟨rfl, ⟨z1, rfl⟩⟩
    go_wp2_with fail
    go_ret
    exact ⟨rfl, (.of (by repeat (first | (with_reducible exact Ext.refl _) | (with_reducible refine Ext.up ?_ _) | (with_reducible refine Ext.alloc ?_ _) | (with_reducible refine Ext.drew ?_) | (with_reducible refine Ext.setRow ?_ (by first | exact LeS.le | exact LeS.add _ | (simp; done) | (simp; omega)) _) | (with_reducible refine Ext.setCell ?_ (by first | exact LeS.le | exact LeS.add _ | (simp; done) | (simp; omega)) _))))⟩
  · obtain rfl : D = A := hD.out
    go_enter Try.func10, Try.ntmps10
    go_wp2_with fail
    refine (kv _ (HG.out.up (by repeat (first | (with_reducible exact Ext.refl _) | (with_reducible refine Ext.up ?_ _) | (with_reducible refine Ext.alloc ?_ _) | (with_reducible refine Ext.drew ?_) | (with_reducible refine Ext.setRow ?_ (by first | exact LeS.le | exact LeS.add _ | (simp; done) | (simp; omega)) _) | (with_reducible refine Ext.setCell ?_ (by first | exact LeS.le | exact LeS.add _ | (simp; done) | (simp; omega)) _))))).mono ?_; rintro ed w' ⟨rfl, ⟨z1, rfl⟩⟩
    go_wp2_with fail
    refine (kd _ (HG.out.up (by repeat (first | (with_reducible exact Ext.refl _) | (with_reducible refine Ext.up ?_ _) | (with_reducible refine Ext.alloc ?_ _) | (with_reducible refine Ext.drew ?_) | (with_reducible refine Ext.setRow ?_ (by first | exact LeS.le | exact LeS.add _ | (simp; done) | (simp; omega)) _) | (with_reducible refine Ext.setCell ?_ (by first | exact LeS.le | exact LeS.add _ | (simp; done) | (simp; omega)) _))))).mono ?_; rintro ed w' ⟨rfl, ⟨z2, rfl⟩⟩
    go_wp2_with fail
    go_ret
    exact ⟨rfl, (.of (by repeat (first | (with_reducible exact Ext.refl _) | (with_reducible refine Ext.up ?_ _) | (with_reducible refine Ext.alloc ?_ _) | (with_reducible refine Ext.drew ?_) | (with_reducible refine Ext.setRow ?_ (by first | exact LeS.le | exact LeS.add _ | (simp; done) | (simp; omega)) _) | (with_reducible refine Ext.setCell ?_ (by first | exact LeS.le | exact LeS.add _ | (simp; done) | (simp; omega)) _))))⟩
end Go.Proofs.Ytnknamddonjnjaa
namespace Go.Proofs.Ytnknamddonjnjaa
open Go Go.RowKit Go.Proofs

set_option maxRecDepth 100000 in
set_option maxHeartbeats 2000000 in
theorem FnEngineValid_any (bs : List Int) (v : Value) (w : World) (h : SL (RF encU) 1 w v bs) (hb : ∀ b ∈ bs, 0 ≤ b ∧ b ≤ 255) :
    Calls Try.prog 3 #[v] w fun e w' => e = .returned (.bool true) ∧ Up w w' := by
  have H := Lib.hid h
  obtain ⟨p, c, rfl, _, _⟩ := h.openc
  clear h
  by_cases hl : 1048576 < bs.length
  · go_enter Try.func3, Try.ntmps3
    go_wp2_with fail
    go_ret
    exact ⟨rfl, (.of (by repeat (first | (with_reducible exact Ext.refl _) | (with_reducible refine Ext.up ?_ _) | (with_reducible refine Ext.alloc ?_ _) | (with_reducible refine Ext.drew ?_) | (with_reducible refine Ext.setRow ?_ (by first | exact LeS.le | exact LeS.add _ | (simp; done) | (simp; omega)) _) | (with_reducible refine Ext.setCell ?_ (by first | exact LeS.le | exact LeS.add _ | (simp; done) | (simp; omega)) _))))⟩
  go_enter Try.func3, Try.ntmps3
  go_wp2_with fail
  refine (drawEngineValid_any bs _ _ (H.out.up (by repeat (first | (with_reducible exact Ext.refl _) | (with_reducible refine Ext.up ?_ _) | (with_reducible refine Ext.alloc ?_ _) | (with_reducible refine Ext.drew ?_) | (with_reducible refine Ext.setRow ?_ (by first | exact LeS.le | exact LeS.add _ | (simp; done) | (simp; omega)) _) | (with_reducible refine Ext.setCell ?_ (by first | exact LeS.le | exact LeS.add _ | (simp; done) | (simp; omega)) _)))) hb).mono ?_; rintro e w' ⟨u0, u1, u2, u3, E, rfl, ⟨z0, rfl⟩, hvl, hs⟩
  obtain ⟨p0, c0, rfl, _, _⟩ := hs.base.openc
  obtain ⟨p1, c1, rfl, _, _⟩ := hs.acts.openc
  obtain ⟨p2, c2, rfl, _, _⟩ := hs.vers.openc
  obtain ⟨p3, c3, rfl, _, _⟩ := hs.sl.open
  have HS := Lib.hid hs
  clear hs
  go_wp2_with fail
  refine (iEngineValid_any E _ _ _ _ _ (HS.out.up (by repeat (first | (with_reducible exact Ext.refl _) | (with_reducible refine Ext.up ?_ _) | (with_reducible refine Ext.alloc ?_ _) | (with_reducible refine Ext.drew ?_) | (with_reducible refine Ext.setRow ?_ (by first | exact LeS.le | exact LeS.add _ | (simp; done) | (simp; omega)) _) | (with_reducible refine Ext.setCell ?_ (by first | exact LeS.le | exact LeS.add _ | (simp; done) | (simp; omega)) _)))) (by omega)).mono ?_; rintro e w' ⟨rfl, ⟨z1, rfl⟩⟩
  go_wp2_with fail
  refine (sEngineValid_any E _ _ _ _ _ (HS.out.up (by repeat (first | (with_reducible exact Ext.refl _) | (with_reducible refine Ext.up ?_ _) | (with_reducible refine Ext.alloc ?_ _) | (with_reducible refine Ext.drew ?_) | (with_reducible refine Ext.setRow ?_ (by first | exact LeS.le | exact LeS.add _ | (simp; done) | (simp; omega)) _) | (with_reducible refine Ext.setCell ?_ (by first | exact LeS.le | exact LeS.add _ | (simp; done) | (simp; omega)) _)))) (by omega)).mono ?_; rintro e w' ⟨rfl, ⟨z2, rfl⟩⟩
  have hmore := Lib.hid (fun h : E.ok = true => Eng.more_no h ⟨31, 9, 1⟩)
  generalize E.ok = bo at *
  go_upto_region 8 with fail
  have rX := heap_alloc_new z2.val (.cells #[.slice p0 E.base.length c0, .slice p1 E.acts.length c1, .slice p2 E.vers.length c2, .slice p3 E.sl.length c3] 28)
  have rE : (z2.val.alloc (.cells #[.slice p0 E.base.length c0, .slice p1 E.acts.length c1, .slice p2 E.vers.length c2, .slice p3 E.sl.length c3] 28)).heap[z0.val.heap.size]? = some (.cells #[.slice p0 E.base.length c0, .slice p1 E.acts.length c1, .slice p2 E.vers.length c2, .slice p3 E.sl.length c3] 28 (0, 0)) := row_up ((Ext.refl _).alloc _) (row_up z2.ext (row_up z1.ext (heap_alloc_new z0.val _)))
  obtain ⟨zc, hzc⟩ := Up.of ((Ext.refl z2.val).alloc (.cells #[.slice p0 E.base.length c0, .slice p1 E.acts.length c1, .slice p2 E.vers.length c2, .slice p3 E.sl.length c3] 28))
  rw [hzc] at rX rE ⊢
  clear hzc
  have hLX : LtS z2.val.heap.size zc.val := ⟨(Array.getElem?_eq_some_iff.1 rX).1⟩
  have hLE : LtS z0.val.heap.size zc.val := ⟨(Array.getElem?_eq_some_iff.1 rE).1⟩
  have x0 : zc.val.cell? ⟨z2.val.heap.size, 0, none⟩ = some (.slice p0 E.base.length c0) := cell_of_row _ _ 0 _ _ _ rX
  have x1 : zc.val.cell? ⟨z2.val.heap.size, 1, none⟩ = some (.slice p1 E.acts.length c1) := cell_of_row _ _ 1 _ _ _ rX
  have x2 : zc.val.cell? ⟨z2.val.heap.size, 2, none⟩ = some (.slice p2 E.vers.length c2) := cell_of_row _ _ 2 _ _ _ rX
  have x3 : zc.val.cell? ⟨z2.val.heap.size, 3, none⟩ = some (.slice p3 E.sl.length c3) := cell_of_row _ _ 3 _ _ _ rX
  have fx2 := frozen_of_row _ _ 2 _ _ rX
  have e2 : zc.val.cell? ⟨z0.val.heap.size, 2, none⟩ = some (.slice p2 E.vers.length c2) := cell_of_row _ _ 2 _ _ _ rE
  have hzX := hLX.lt
  have Hzx := Lib.hid hzX
  have HSc := Lib.hid (HS.out.up (w' := zc.val) (Ext.trans (Ext.trans (Ext.trans ((Ext.refl _).alloc _) z1.ext) z2.ext) zc.ext))
  have EW := Lib.hid (show Ext w zc.val from Ext.trans (Ext.trans (Ext.trans (Ext.trans z0.ext ((Ext.refl _).alloc _)) z1.ext) z2.ext) zc.ext)
  clear rX rE hzX
  have O0 := Lib.hid (show Own Ver.enc 32 3 zc.val.heap.size (zc.val.alloc (.cells #[] 32)) (.slice (some ⟨zc.val.heap.size, 0, none⟩) 0 0) [] from Own.lit rfl (Nat.le_refl _) rfl rfl Ver.enc_length (by simp))
  go_upto_region 9 with (at_builtin; first | (refine wpList_catA fVer rfl (.tmp 18) (.tmp 20) rfl Ver.enc Ver.enc_length zc.val (lo := zc.val.heap.size) E.vers [] rfl O0.out ((Ext.refl _).alloc _) (Nat.le_refl _) (by simp) rfl (HSc.out.vers.up ((Ext.refl _).alloc _)) (oneVs _) (by simp; omega) (by simp; omega) ?_; intro v7 z7 o7 g7 b7; have O7 := Lib.hid (show Own Ver.enc 32 3 zc.val.heap.size z7.val v7 E.vers from o7); (obtain ⟨p7, c7, hv7, _, _⟩ := (O7.out.sl Ver.enc_length).openc); subst hv7; clear o7 g7 b7) | (refine wpList_pushG fVer rfl (.tmp 21) (.tmp 23) rfl Ver.enc Ver.enc_length zc.val (lo := zc.val.heap.size) [⟨31, 9, 1⟩] E.vers rfl O7.out z7.ext (Nat.le_refl _) z7.ext.size rfl rfl (by go_simp) rfl (oneVs _) (by simp; omega) (by simp; omega) ?_; intro v8 z8 o8 g8 b8; have O8 := Lib.hid o8; (obtain ⟨p8, n8, c8, hv8⟩ : ∃ p n c, v8 = Value.slice p n c := (by obtain ⟨p, c, hv, _, _⟩ := (o8.sl Ver.enc_length).openc; exact ⟨p, _, c, hv⟩)); subst hv8; clear o8 g8 b8))
  have hm := Lib.hid hmore.out
  have EF := Lib.hid (show Ext z0.val z8.val from Ext.trans (Ext.trans (Ext.trans (Ext.trans ((Ext.refl _).alloc _) z1.ext) z2.ext) zc.ext) z8.ext)
  have hz02 : z0.val.heap.size ≤ z2.val.heap.size := by have := z1.ext.size; have := z2.ext.size; simp at *; omega
  have hw0 : w.heap.size ≤ z2.val.heap.size := by have := z0.ext.size; omega
  have hLX8 : LtS z2.val.heap.size z8.val := inferInstance
  have EW8 := Lib.hid (show Ext w (z8.val.setCell ⟨z2.val.heap.size, 2, none⟩ (.slice p8 n8 c8)) from Ext.setCell (EW.out.trans z8.ext) hw0 _)
  rcases bo with _ | _
  · clear hmore hm
    obtain ⟨zf, hzf⟩ := Up.of EW8.out
    rw [hzf]
    go_wp2_with fail
    refine (alive_any _).mono ?_; rintro e w' ⟨rfl, ⟨z9, rfl⟩⟩
    go_wp2_with fail
    go_ret
    exact ⟨rfl, (.of (by repeat (first | (with_reducible exact Ext.refl _) | (with_reducible refine Ext.up ?_ _) | (with_reducible refine Ext.alloc ?_ _) | (with_reducible refine Ext.drew ?_) | (with_reducible refine Ext.setRow ?_ (by first | exact LeS.le | exact LeS.add _ | (simp; done) | (simp; omega)) _) | (with_reducible refine Ext.setCell ?_ (by first | exact LeS.le | exact LeS.add _ | (simp; done) | (simp; omega)) _))))⟩
  · have kev := fun w h => iEngineValid_any ⟨E.base, E.acts, E.vers ++ [⟨31, 9, 1⟩], E.sl⟩ (.slice p0 E.base.length c0) (.slice p1 E.acts.length c1) (.slice p8 n8 c8) (.slice p3 E.sl.length c3) w h (by simp; omega)
    rw [hm.out rfl] at kev
    have EFX : Ext z0.val (z8.val.setCell ⟨z2.val.heap.size, 2, none⟩ (.slice p8 n8 c8)) := Ext.setCell EF.out hz02 _
    have HSF := Lib.hid (show SG (z8.val.setCell ⟨z2.val.heap.size, 2, none⟩ (.slice p8 n8 c8)) (.slice p0 E.base.length c0) (.slice p1 E.acts.length c1) (.slice p8 n8 c8) (.slice p3 E.sl.length c3) ⟨E.base, E.acts, E.vers ++ [⟨31, 9, 1⟩], E.sl⟩ from ⟨HS.out.base.up EFX, HS.out.acts.up EFX, (O8.out.setOld ⟨z2.val.heap.size, 2, none⟩ _ Hzx.out).sl Ver.enc_length, HS.out.sl.up EFX⟩)
    clear hmore hm EFX
    go_wp2_with fail
    refine (kev _ HSF.out).mono ?_; rintro e w' ⟨rfl, ⟨z9, rfl⟩⟩
    have E9 := Lib.hid (EW8.out.trans z9.ext)
    obtain ⟨zf, hzf⟩ := Up.of E9.out
    rw [hzf]
    go_wp2_with fail
    refine (alive_any _).mono ?_; rintro e w' ⟨rfl, ⟨z10, rfl⟩⟩
    go_wp2_with fail
    go_ret
    exact ⟨rfl, (.of (by repeat (first | (with_reducible exact Ext.refl _) | (with_reducible refine Ext.up ?_ _) | (with_reducible refine Ext.alloc ?_ _) | (with_reducible refine Ext.drew ?_) | (with_reducible refine Ext.setRow ?_ (by first | exact LeS.le | exact LeS.add _ | (simp; done) | (simp; omega)) _) | (with_reducible refine Ext.setCell ?_ (by first | exact LeS.le | exact LeS.add _ | (simp; done) | (simp; omega)) _))))⟩
set_option maxRecDepth 100000 in
set_option maxHeartbeats 2000000 in
theorem FnEngineDone_any (bs : List Int) (v : Value) (w : World) (h : SL (RF encU) 1 w v bs) (hb : ∀ b ∈ bs, 0 ≤ b ∧ b ≤ 255) :
    Calls Try.prog 4 #[v] w fun e w' => e = .returned (.bool true) ∧ Up w w' := by
  have H := Lib.hid h
  obtain ⟨p, c, rfl, _, _⟩ := h.openc
  clear h
  by_cases hl : 1048576 < bs.length
  · go_enter Try.func4, Try.ntmps4
    go_wp2_with fail
    go_ret
    exact ⟨rfl, (.of (by repeat (first | (with_reducible exact Ext.refl _) | (with_reducible refine Ext.up ?_ _) | (with_reducible refine Ext.alloc ?_ _) | (with_reducible refine Ext.drew ?_) | (with_reducible refine Ext.setRow ?_ (by first | exact LeS.le | exact LeS.add _ | (simp; done) | (simp; omega)) _) | (with_reducible refine Ext.setCell ?_ (by first | exact LeS.le | exact LeS.add _ | (simp; done) | (simp; omega)) _))))⟩
  go_enter Try.func4, Try.ntmps4
  go_wp2_with fail
  refine (drawEngineDone_any bs _ _ (H.out.up (by repeat (first | (with_reducible exact Ext.refl _) | (with_reducible refine Ext.up ?_ _) | (with_reducible refine Ext.alloc ?_ _) | (with_reducible refine Ext.drew ?_) | (with_reducible refine Ext.setRow ?_ (by first | exact LeS.le | exact LeS.add _ | (simp; done) | (simp; omega)) _) | (with_reducible refine Ext.setCell ?_ (by first | exact LeS.le | exact LeS.add _ | (simp; done) | (simp; omega)) _)))) hb).mono ?_; rintro e w' ⟨u0, u1, u2, u3, E, rfl, ⟨z0, rfl⟩, hvl, hs⟩
  obtain ⟨p0, c0, rfl, _, _⟩ := hs.base.openc
  obtain ⟨p1, c1, rfl, _, _⟩ := hs.acts.openc
  obtain ⟨p2, c2, rfl, _, _⟩ := hs.vers.openc
  obtain ⟨p3, c3, rfl, _, hcs⟩ := hs.sl.open
  have HS := Lib.hid hs; have HCS := Lib.hid hcs
  clear hs hcs
  go_wp2_with fail
  refine (iEngineDone_any E _ _ _ _ _ (HS.out.up (by repeat (first | (with_reducible exact Ext.refl _) | (with_reducible refine Ext.up ?_ _) | (with_reducible refine Ext.alloc ?_ _) | (with_reducible refine Ext.drew ?_) | (with_reducible refine Ext.setRow ?_ (by first | exact LeS.le | exact LeS.add _ | (simp; done) | (simp; omega)) _) | (with_reducible refine Ext.setCell ?_ (by first | exact LeS.le | exact LeS.add _ | (simp; done) | (simp; omega)) _)))) (by omega)).mono ?_; rintro e w' ⟨rfl, ⟨z1, rfl⟩⟩
  go_wp2_with fail
  refine (sEngineDone_any E _ _ _ _ _ (HS.out.up (by repeat (first | (with_reducible exact Ext.refl _) | (with_reducible refine Ext.up ?_ _) | (with_reducible refine Ext.alloc ?_ _) | (with_reducible refine Ext.drew ?_) | (with_reducible refine Ext.setRow ?_ (by first | exact LeS.le | exact LeS.add _ | (simp; done) | (simp; omega)) _) | (with_reducible refine Ext.setCell ?_ (by first | exact LeS.le | exact LeS.add _ | (simp; done) | (simp; omega)) _)))) (by omega)).mono ?_; rintro e w' ⟨rfl, ⟨z2, rfl⟩⟩
  have hdone := Lib.hid (fun h : E.done = true => Eng.done_all h)
  generalize E.done = bo at *
  have rE : z2.val.heap[z0.val.heap.size]? = some (.cells #[.slice p0 E.base.length c0, .slice p1 E.acts.length c1, .slice p2 E.vers.length c2, .slice p3 E.sl.length c3] 28 (0, 0)) := row_up z2.ext (row_up z1.ext (heap_alloc_new z0.val _))
  have hLE : LtS z0.val.heap.size z2.val := ⟨(Array.getElem?_eq_some_iff.1 rE).1⟩
  have e0 : z2.val.cell? ⟨z0.val.heap.size, 0, none⟩ = some (.slice p0 E.base.length c0) := cell_of_row _ _ 0 _ _ _ rE
  have e1 : z2.val.cell? ⟨z0.val.heap.size, 1, none⟩ = some (.slice p1 E.acts.length c1) := cell_of_row _ _ 1 _ _ _ rE
  have e2 : z2.val.cell? ⟨z0.val.heap.size, 2, none⟩ = some (.slice p2 E.vers.length c2) := cell_of_row _ _ 2 _ _ _ rE
  have e3 : z2.val.cell? ⟨z0.val.heap.size, 3, none⟩ = some (.slice p3 E.sl.length c3) := cell_of_row _ _ 3 _ _ _ rE
  clear rE
  go_wp2_with fail
  go_loopw [5] (fun s5 wr => ∃ k : Nat, s5 = .int .i64 k ∧ k ≤ E.sl.length ∧ Up z2.val wr) (fun s5 _ => E.sl.length - (intOf s5).toNat)
  case atStart => exact ⟨0, rfl, Nat.zero_le _, (.of (by repeat (first | (with_reducible exact Ext.refl _) | (with_reducible refine Ext.up ?_ _) | (with_reducible refine Ext.alloc ?_ _) | (with_reducible refine Ext.drew ?_) | (with_reducible refine Ext.setRow ?_ (by first | exact LeS.le | exact LeS.add _ | (simp; done) | (simp; omega)) _) | (with_reducible refine Ext.setCell ?_ (by first | exact LeS.le | exact LeS.add _ | (simp; done) | (simp; omega)) _))))⟩
  case round =>
    obtain ⟨k, rfl, hk, ⟨z, rfl⟩⟩ := hrel
    by_cases hlt : k < E.sl.length
    · rcases bo with _ | _
      · clear hdone
        go_wp2_with fail
        go_roundw
        case rel => exact ⟨k + 1, by go_num, by omega, (.of (by repeat (first | (with_reducible exact Ext.refl _) | (with_reducible refine Ext.up ?_ _) | (with_reducible refine Ext.alloc ?_ _) | (with_reducible refine Ext.drew ?_) | (with_reducible refine Ext.setRow ?_ (by first | exact LeS.le | exact LeS.add _ | (simp; done) | (simp; omega)) _) | (with_reducible refine Ext.setCell ?_ (by first | exact LeS.le | exact LeS.add _ | (simp; done) | (simp; omega)) _))))⟩
        case measure => simp [intOf]; omega
      · obtain ⟨t, ht⟩ := getElem?_some_of_lt (l := E.sl) (k := k) hlt
        obtain ⟨b, off, pf, cf, pr, cr, pw, cw, rfl, hb9, ⟨d0, -⟩, -⟩ := HCS.out k t ht
        rw [(hdone.out rfl).2 k t ht] at d0
        have k0 : (0 : Int) ≤ (k : Int) := by omega
        have k1 : (k : Int) < E.sl.length := by omega
        clear hdone ht
        go_wp2_with fail
        go_roundw
        case rel => exact ⟨k + 1, by go_num, by omega, (.of (by repeat (first | (with_reducible exact Ext.refl _) | (with_reducible refine Ext.up ?_ _) | (with_reducible refine Ext.alloc ?_ _) | (with_reducible refine Ext.drew ?_) | (with_reducible refine Ext.setRow ?_ (by first | exact LeS.le | exact LeS.add _ | (simp; done) | (simp; omega)) _) | (with_reducible refine Ext.setCell ?_ (by first | exact LeS.le | exact LeS.add _ | (simp; done) | (simp; omega)) _))))⟩
        case measure => simp [intOf]; omega
    · rcases bo with _ | _
      · clear hdone
        go_wp2_with fail
        refine (alive_any _).mono ?_; rintro e w' ⟨rfl, ⟨z9, rfl⟩⟩
        go_wp2_with fail
        go_ret
        exact ⟨rfl, (.of (by repeat (first | (with_reducible exact Ext.refl _) | (with_reducible refine Ext.up ?_ _) | (with_reducible refine Ext.alloc ?_ _) | (with_reducible refine Ext.drew ?_) | (with_reducible refine Ext.setRow ?_ (by first | exact LeS.le | exact LeS.add _ | (simp; done) | (simp; omega)) _) | (with_reducible refine Ext.setCell ?_ (by first | exact LeS.le | exact LeS.add _ | (simp; done) | (simp; omega)) _))))⟩
      · have kev := fun w h => iEngineValid_any E (.slice p0 E.base.length c0) (.slice p1 E.acts.length c1) (.slice p2 E.vers.length c2) (.slice p3 E.sl.length c3) w h (by omega)
        rw [(hdone.out rfl).1] at kev
        clear hdone
        go_wp2_with fail
        refine (kev _ (HS.out.up (by repeat (first | (with_reducible exact Ext.refl _) | (with_reducible refine Ext.up ?_ _) | (with_reducible refine Ext.alloc ?_ _) | (with_reducible refine Ext.drew ?_) | (with_reducible refine Ext.setRow ?_ (by first | exact LeS.le | exact LeS.add _ | (simp; done) | (simp; omega)) _) | (with_reducible refine Ext.setCell ?_ (by first | exact LeS.le | exact LeS.add _ | (simp; done) | (simp; omega)) _))))).mono ?_; rintro e w' ⟨rfl, ⟨z8, rfl⟩⟩
        go_wp2_with fail
        refine (alive_any _).mono ?_; rintro e w' ⟨rfl, ⟨z9, rfl⟩⟩
        go_wp2_with fail
        go_ret
        exact ⟨rfl, (.of (by repeat (first | (with_reducible exact Ext.refl _) | (with_reducible refine Ext.up ?_ _) | (with_reducible refine Ext.alloc ?_ _) | (with_reducible refine Ext.drew ?_) | (with_reducible refine Ext.setRow ?_ (by first | exact LeS.le | exact LeS.add _ | (simp; done) | (simp; omega)) _) | (with_reducible refine Ext.setCell ?_ (by first | exact LeS.le | exact LeS.add _ | (simp; done) | (simp; omega)) _))))⟩
end Go.Proofs.Ytnknamddonjnjaa
namespace Go.Proofs.Ytnknamddonjnjaa
open Go.ChangeShapes Go.WideShapes Go.ChangeAt Go.RowKit

def RByte (_ : World) (cs : List Value) (n : Int) : Prop := cs = encU n ∧ 0 ≤ n ∧ n ≤ 255
theorem SL.of_byte {w : World} {v : Value} {l : List Int} (h : SL RByte 1 w v l) : SL (RF encU) 1 w v l ∧ ∀ b ∈ l, 0 ≤ b ∧ b ≤ 255 := by
  obtain ⟨a, cap, hv, hl, hc⟩ := h
  refine ⟨⟨a, cap, hv, hl, fun hne => ?_⟩, fun b hb => ?_⟩
  · obtain ⟨b, off, ha, hb, hx⟩ := hc hne
    refine ⟨b, off, ha, hb, fun i x hi => ?_⟩
    obtain ⟨cs, h1, h2, h3⟩ := hx i x hi
    exact ⟨cs, h1, h2, h3.1⟩
  · obtain ⟨i, hi⟩ := List.getElem?_of_mem hb
    obtain ⟨_, _, _, _, hx⟩ := hc (by intro e; subst e; simp at hb)
    obtain ⟨_, _, _, h3⟩ := hx i b hi
    exact h3.2
theorem dec_Byte : Dec Try.prog 5 1 RByte := by
  intro H enc W sp held fuel cs x h
  obtain ⟨n, rfl, _, hw⟩ := DataW.trod_int (k := .u8) Try.underlying5 h
  have hb : 0 ≤ n ∧ n ≤ 255 := by
    simp [Lit.wf, IntKind.min, IntKind.max, IntKind.signed, IntKind.bits] at hw
    omega
  exact ⟨rfl, n, rfl, hb.1, hb.2⟩
theorem dec_Bytes : Dec Try.prog 22 1 (RSl RByte 1) := dec_slice Try.underlying22 (by kernel_rfl) (by decide) dec_Byte
end Go.Proofs.Ytnknamddonjnjaa
