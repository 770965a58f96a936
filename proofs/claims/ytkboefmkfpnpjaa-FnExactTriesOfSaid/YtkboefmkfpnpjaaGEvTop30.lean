/- Walks: engines: EngineDone and TriesOf on both sides. -/
import Derived.Test.YtkboefmkfpnpjaaGEvTop29
set_option linter.unusedSimpArgs false
set_option linter.unusedVariables false
namespace Go.Proofs.Ytkboefmkfpnpjaa
open Go Go.RowKit Go.Proofs

theorem eng_ok_parts {e : Eng} (h : e.ok = true) : e.sl.length ≤ 10 ∧ ∀ (k : Nat) t, e.sl[k]? = some t → 0 ≤ t.tr ∧ t.tr ≤ 1000 := by
  unfold Eng.ok at h
  simp only [Bool.and_eq_true, decide_eq_true_eq] at h
  obtain ⟨_, ha, hl, hs, _⟩ := h
  refine ⟨by rw [hl]; exact actsOk_len ha, fun k t ht => ?_⟩
  have hk := (List.getElem?_eq_some_iff.1 ht).1
  obtain ⟨x, hx⟩ := getElem?_some_of_lt (l := e.acts) (k := k) (by omega)
  have := upTo_iff.1 hs k hk
  rw [slAt_eq ht hx] at this
  unfold sltOk at this
  split at this
  · simp only [sltNew, Bool.and_eq_true, inR_iff] at this; exact this.1
  · simp only [sltTry, Bool.and_eq_true, inR_iff] at this; omega
def trS (l : List Slt) : Int := (l.map (·.tr)).sum
theorem trS_snoc {l : List Slt} {k : Nat} {t : Slt} (h : l[k]? = some t) : trS (l.take (k + 1)) = trS (l.take k) + t.tr := by
  unfold trS; rw [List.take_add_one, h]; simp
theorem trS_le {l : List Slt} (h : ∀ (k : Nat) t, l[k]? = some t → 0 ≤ t.tr ∧ t.tr ≤ 1000) : ∀ k, 0 ≤ trS (l.take k) ∧ trS (l.take k) ≤ 1000 * k
  | 0 => by simp [trS]
  | k + 1 => by
    have ih := trS_le h k
    by_cases hk : k < l.length
    · obtain ⟨t, ht⟩ := getElem?_some_of_lt hk
      rw [trS_snoc ht]
      have := h k t ht
      omega
    · rw [List.take_of_length_le (by omega)]; rw [List.take_of_length_le (by omega)] at ih; omega
set_option maxRecDepth 100000 in
set_option maxHeartbeats 1000000 in
theorem sEngineDone_any (e : Eng) (v0 v1 v2 v3 : Value) (w : World) (h : SG w v0 v1 v2 v3 e) (hvl : e.vers.length ≤ 1048576) :
    Calls Try.prog 53 #[.agg #[v0, v1, v2, v3]] w fun ed w' => ed = .returned (.bool e.done) ∧ Up w w' := by
  have HG := Lib.hid h
  obtain ⟨p0, c0, rfl, _, _⟩ := h.base.openc
  obtain ⟨p1, c1, rfl, _, _⟩ := h.acts.openc
  obtain ⟨p2, c2, rfl, _, _⟩ := h.vers.openc
  obtain ⟨p3, c3, rfl, _, hcs⟩ := h.sl.open
  have HCS := Lib.hid hcs
  have kv := fun w h => sEngineValid_any e (.slice p0 e.base.length c0) (.slice p1 e.acts.length c1) (.slice p2 e.vers.length c2) (.slice p3 e.sl.length c3) w h hvl
  clear h hcs
  rcases hok : e.ok with _ | _
  · rw [hok] at kv
    have hD := Lib.hid (show e.done = false by unfold Eng.done; rw [hok]; rfl)
    clear hok
    go_enter Try.func53, Try.ntmps53
    go_wp2_with fail
    refine (kv _ (HG.out.up (by repeat (first | (with_reducible exact Ext.refl _) | (with_reducible refine Ext.up ?_ _) | (with_reducible refine Ext.alloc ?_ _) | (with_reducible refine Ext.drew ?_) | (with_reducible refine Ext.setRow ?_ (by first | exact LeS.le | exact LeS.add _ | (simp; done) | (simp; omega)) _) | (with_reducible refine Ext.setCell ?_ (by first | exact LeS.le | exact LeS.add _ | (simp; done) | (simp; omega)) _))))).mono ?_; rintro ed w' ⟨rfl, ⟨z1, rfl⟩⟩
    go_wp2_with fail
    go_ret
    exact ⟨by rw [hD.out]; rfl, (.of (by repeat (first | (with_reducible exact Ext.refl _) | (with_reducible refine Ext.up ?_ _) | (with_reducible refine Ext.alloc ?_ _) | (with_reducible refine Ext.drew ?_) | (with_reducible refine Ext.setRow ?_ (by first | exact LeS.le | exact LeS.add _ | (simp; done) | (simp; omega)) _) | (with_reducible refine Ext.setCell ?_ (by first | exact LeS.le | exact LeS.add _ | (simp; done) | (simp; omega)) _))))⟩
  rw [hok] at kv
  have hl10 := (eng_ok_parts hok).1
  have hD := Lib.hid (show e.done = e.sl.all fun s => s.st == 2 by unfold Eng.done; rw [hok]; rfl)
  clear hok
  go_enter Try.func53, Try.ntmps53
  go_wp2_with fail
  refine (kv _ (HG.out.up (by repeat (first | (with_reducible exact Ext.refl _) | (with_reducible refine Ext.up ?_ _) | (with_reducible refine Ext.alloc ?_ _) | (with_reducible refine Ext.drew ?_) | (with_reducible refine Ext.setRow ?_ (by first | exact LeS.le | exact LeS.add _ | (simp; done) | (simp; omega)) _) | (with_reducible refine Ext.setCell ?_ (by first | exact LeS.le | exact LeS.add _ | (simp; done) | (simp; omega)) _))))).mono ?_; rintro ed w' ⟨rfl, ⟨z1, rfl⟩⟩
  clear kv
  go_wp2_with fail
  go_loopw [3] (fun s3 wr => ∃ (k : Nat), s3 = .int .i64 k ∧ k ≤ e.sl.length ∧ Up z1.val wr ∧ ((e.sl.take k).all fun s => s.st == 2) = true) (fun s3 _ => e.sl.length - (intOf s3).toNat)
  case atStart => exact ⟨0, rfl, Nat.zero_le _, .of (Ext.refl _), rfl⟩
  case round =>
    obtain ⟨k, rfl, hk, ⟨z, rfl⟩, hall⟩ := hrel
    have HALL := Lib.hid hall; clear hall
    by_cases hlt : k < e.sl.length
    · obtain ⟨t, ht⟩ := getElem?_some_of_lt hlt
      obtain ⟨b, off, q0, d0, q1, d1, q2, d2, rfl, hb, ⟨e0, e1, e2, e3, e4, e5⟩, -, -, -⟩ := HCS.out k t ht
      have k0 : (0 : Int) ≤ (k : Int) := by omega
      have k1 : (k : Int) < e.sl.length := by omega
      have HT := Lib.hid ht; clear ht
      by_cases h2 : t.st = 2
      · have h2' : (t.st != 2) = false := by simpa using h2
        have hn := Lib.hid (all_next (p := fun s : Slt => s.st == 2) HT.out HALL.out (by simpa using h2))
        clear h2
        go_wp2_with fail
        go_roundw
        case rel => exact ⟨k + 1, by go_num, by omega, (.of (by repeat (first | (with_reducible exact Ext.refl _) | (with_reducible refine Ext.up ?_ _) | (with_reducible refine Ext.alloc ?_ _) | (with_reducible refine Ext.drew ?_) | (with_reducible refine Ext.setRow ?_ (by first | exact LeS.le | exact LeS.add _ | (simp; done) | (simp; omega)) _) | (with_reducible refine Ext.setCell ?_ (by first | exact LeS.le | exact LeS.add _ | (simp; done) | (simp; omega)) _)))), hn.out⟩
        case measure => simp [intOf] <;> omega
      · have h2' : (t.st != 2) = true := by simpa using h2
        have hn := Lib.hid (all_stop (p := fun s : Slt => s.st == 2) HT.out (by simpa using h2))
        clear h2
        go_wp2_with fail
        go_ret
        exact ⟨by rw [hD.out, hn.out]; rfl, (.of (by repeat (first | (with_reducible exact Ext.refl _) | (with_reducible refine Ext.up ?_ _) | (with_reducible refine Ext.alloc ?_ _) | (with_reducible refine Ext.drew ?_) | (with_reducible refine Ext.setRow ?_ (by first | exact LeS.le | exact LeS.add _ | (simp; done) | (simp; omega)) _) | (with_reducible refine Ext.setCell ?_ (by first | exact LeS.le | exact LeS.add _ | (simp; done) | (simp; omega)) _))))⟩
    · obtain rfl : k = e.sl.length := by omega
      go_wp2_with fail
      go_ret
      exact ⟨by have := HALL.out; rw [List.take_length] at this; rw [hD.out, this]; rfl, (.of (by repeat (first | (with_reducible exact Ext.refl _) | (with_reducible refine Ext.up ?_ _) | (with_reducible refine Ext.alloc ?_ _) | (with_reducible refine Ext.drew ?_) | (with_reducible refine Ext.setRow ?_ (by first | exact LeS.le | exact LeS.add _ | (simp; done) | (simp; omega)) _) | (with_reducible refine Ext.setCell ?_ (by first | exact LeS.le | exact LeS.add _ | (simp; done) | (simp; omega)) _))))⟩
set_option maxRecDepth 100000 in
theorem iDone1_any (t : Slt) (vf vr vw : Value) (w : World) : Calls Try.prog 164 #[.agg #[.int .i64 t.st, .int .i64 t.tr, vf, .bool t.e.d, vr, vw]] w fun e w' => e = .returned (.bool (t.st != 2)) ∧ Up w w' := by
  go_enter Try.func164, Try.ntmps164
  go_wp2_with fail
  go_ret
  exact ⟨rfl, (.of (by repeat (first | exact Ext.refl _ | refine Ext.up ?_ _ | refine Ext.alloc ?_ _ | refine Ext.drew ?_ | refine Ext.setRow ?_ (by first | (dsimp only; omega) | exact LeS.le | exact LeS.add _ | (simp; done) | (simp; omega)) _ | refine Ext.setCell ?_ (by first | (dsimp only; omega) | exact LeS.le | exact LeS.add _ | (simp; done) | (simp; omega)) _)))⟩
set_option maxRecDepth 100000 in
set_option maxHeartbeats 1000000 in
theorem iIndexD_any (l : List Slt) (v : Value) (w : World) (h : SS w v l) :
    Calls Try.prog 192 #[v, .func (.func 164) #[] #[]] w fun e w' => ∃ n : Int, e = .returned (.int .i64 n) ∧ decide (0 ≤ n) = (!l.all fun s => s.st == 2) ∧ Up w w' := by
  obtain ⟨p3, c3, rfl, hlen, hcs⟩ := h.open
  have HCS := Lib.hid hcs
  clear h hcs
  go_enter Try.func192, Try.ntmps192
  go_wp2_with fail
  go_loopw [5, 8] (fun _ s8 wr => ∃ (k : Nat), s8 = .int .i64 k ∧ k ≤ l.length ∧ Up w wr ∧ ((l.take k).all fun s => s.st == 2) = true) (fun _ s8 _ => l.length - (intOf s8).toNat)
  case atStart => exact ⟨0, rfl, Nat.zero_le _, .of (Ext.refl _), rfl⟩
  case round =>
    obtain ⟨k, rfl, hk, ⟨z, rfl⟩, hall⟩ := hrel
    have HALL := Lib.hid hall; clear hall
    by_cases hlt : k < l.length
    · obtain ⟨t, ht⟩ := getElem?_some_of_lt hlt
      obtain ⟨b, off, q0, d0, q1, d1, q2, d2, rfl, hb, ⟨e0, e1, e2, e3, e4, e5⟩, -, -, -⟩ := HCS.out k t ht
      have k0 : (0 : Int) ≤ (k : Int) := by omega
      have k1 : (k : Int) < l.length := by omega
      have HT := Lib.hid ht; clear ht
      have kq := fun w => iDone1_any t (.slice q0 t.f.length d0) (.slice q1 t.e.r.length d1) (.slice q2 t.e.w.length d2) w
      by_cases h2 : t.st = 2
      · have h2' : (t.st != 2) = false := by simpa using h2
        have hn := Lib.hid (all_next (p := fun s : Slt => s.st == 2) HT.out HALL.out (by simpa using h2))
        rw [h2'] at kq
        clear h2
        go_wp2_with (go_at_call 164; refine (kq _).mono ?_; rintro e w' ⟨rfl, z1, rfl⟩)
        go_roundw
        case rel => exact ⟨k + 1, by go_num, by omega, (.of (by repeat (first | (with_reducible exact Ext.refl _) | (with_reducible refine Ext.up ?_ _) | (with_reducible refine Ext.alloc ?_ _) | (with_reducible refine Ext.drew ?_) | (with_reducible refine Ext.setRow ?_ (by first | exact LeS.le | exact LeS.add _ | (simp; done) | (simp; omega)) _) | (with_reducible refine Ext.setCell ?_ (by first | exact LeS.le | exact LeS.add _ | (simp; done) | (simp; omega)) _)))), hn.out⟩
        case measure => simp [intOf] <;> omega
      · have h2' : (t.st != 2) = true := by simpa using h2
        have hn := Lib.hid (all_stop (p := fun s : Slt => s.st == 2) HT.out (by simpa using h2))
        rw [h2'] at kq
        clear h2
        go_wp2_with (go_at_call 164; refine (kq _).mono ?_; rintro e w' ⟨rfl, z1, rfl⟩)
        go_ret
        exact ⟨_, rfl, by rw [hn.out]; simp, (.of (by repeat (first | (with_reducible exact Ext.refl _) | (with_reducible refine Ext.up ?_ _) | (with_reducible refine Ext.alloc ?_ _) | (with_reducible refine Ext.drew ?_) | (with_reducible refine Ext.setRow ?_ (by first | exact LeS.le | exact LeS.add _ | (simp; done) | (simp; omega)) _) | (with_reducible refine Ext.setCell ?_ (by first | exact LeS.le | exact LeS.add _ | (simp; done) | (simp; omega)) _))))⟩
    · obtain rfl : k = l.length := by omega
      go_wp2_with fail
      go_ret
      exact ⟨_, rfl, by have := HALL.out; rw [List.take_length] at this; rw [this]; rfl, (.of (by repeat (first | (with_reducible exact Ext.refl _) | (with_reducible refine Ext.up ?_ _) | (with_reducible refine Ext.alloc ?_ _) | (with_reducible refine Ext.drew ?_) | (with_reducible refine Ext.setRow ?_ (by first | exact LeS.le | exact LeS.add _ | (simp; done) | (simp; omega)) _) | (with_reducible refine Ext.setCell ?_ (by first | exact LeS.le | exact LeS.add _ | (simp; done) | (simp; omega)) _))))⟩
set_option maxRecDepth 100000 in
theorem iContainsD_any (l : List Slt) (v : Value) (w : World) (h : SS w v l) :
    Calls Try.prog 163 #[v, .func (.func 164) #[] #[]] w fun e w' => e = .returned (.bool (!l.all fun s => s.st == 2)) ∧ Up w w' := by
  have H := Lib.hid h
  obtain ⟨p3, c3, rfl, hlen, -⟩ := h.open
  clear h
  generalize hB : (!l.all fun s => s.st == 2) = B
  have ki := fun w h => iIndexD_any l (.slice p3 l.length c3) w h
  rw [hB] at ki
  clear hB
  go_enter Try.func163, Try.ntmps163
  go_wp2_with (go_at_call 192; refine (ki _ H.out).mono ?_; rintro e w' ⟨n, rfl, hn, z, rfl⟩)
  go_ret
  exact ⟨rfl, (.of (by repeat (first | exact Ext.refl _ | refine Ext.up ?_ _ | refine Ext.alloc ?_ _ | refine Ext.drew ?_ | refine Ext.setRow ?_ (by first | (dsimp only; omega) | exact LeS.le | exact LeS.add _ | (simp; done) | (simp; omega)) _ | refine Ext.setCell ?_ (by first | (dsimp only; omega) | exact LeS.le | exact LeS.add _ | (simp; done) | (simp; omega)) _)))⟩
set_option maxRecDepth 100000 in
theorem iDone_any (e : Eng) (v0 v1 v2 v3 : Value) (w : World) (h : SG w v0 v1 v2 v3 e) :
    Calls Try.prog 123 #[.agg #[v0, v1, v2, v3]] w fun ed w' => ed = .returned (.bool (e.sl.all fun s => s.st == 2)) ∧ Up w w' := by
  have HS := Lib.hid h.sl
  obtain ⟨p0, c0, rfl, _, _⟩ := h.base.openc
  obtain ⟨p1, c1, rfl, _, _⟩ := h.acts.openc
  obtain ⟨p2, c2, rfl, _, _⟩ := h.vers.openc
  obtain ⟨p3, c3, rfl, _, -⟩ := h.sl.open
  have kc := fun w h => iContainsD_any e.sl (.slice p3 e.sl.length c3) w h
  generalize (e.sl.all fun s => s.st == 2) = B at *
  clear h
  go_enter Try.func123, Try.ntmps123
  go_wp2_with fail
  refine (kc _ (HS.out.up (by repeat (first | (with_reducible exact Ext.refl _) | (with_reducible refine Ext.up ?_ _) | (with_reducible refine Ext.alloc ?_ _) | (with_reducible refine Ext.drew ?_) | (with_reducible refine Ext.setRow ?_ (by first | exact LeS.le | exact LeS.add _ | (simp; done) | (simp; omega)) _) | (with_reducible refine Ext.setCell ?_ (by first | exact LeS.le | exact LeS.add _ | (simp; done) | (simp; omega)) _))))).mono ?_; rintro ed w' ⟨rfl, ⟨z1, rfl⟩⟩
  go_wp2_with fail
  go_ret
  exact ⟨by cases B <;> rfl, (.of (by repeat (first | (with_reducible exact Ext.refl _) | (with_reducible refine Ext.up ?_ _) | (with_reducible refine Ext.alloc ?_ _) | (with_reducible refine Ext.drew ?_) | (with_reducible refine Ext.setRow ?_ (by first | exact LeS.le | exact LeS.add _ | (simp; done) | (simp; omega)) _) | (with_reducible refine Ext.setCell ?_ (by first | exact LeS.le | exact LeS.add _ | (simp; done) | (simp; omega)) _))))⟩
set_option maxRecDepth 100000 in
theorem iEngineDone_any (e : Eng) (v0 v1 v2 v3 : Value) (w : World) (h : SG w v0 v1 v2 v3 e) (hvl : e.vers.length ≤ 1048576) :
    Calls Try.prog 54 #[.agg #[v0, v1, v2, v3]] w fun ed w' => ed = .returned (.bool e.done) ∧ Up w w' := by
  have HG := Lib.hid h
  obtain ⟨p0, c0, rfl, _, _⟩ := h.base.openc
  obtain ⟨p1, c1, rfl, _, _⟩ := h.acts.openc
  obtain ⟨p2, c2, rfl, _, _⟩ := h.vers.openc
  obtain ⟨p3, c3, rfl, _, -⟩ := h.sl.open
  have kv := fun w h => iEngineValid_any e (.slice p0 e.base.length c0) (.slice p1 e.acts.length c1) (.slice p2 e.vers.length c2) (.slice p3 e.sl.length c3) w h hvl
  have kd := fun w h => iDone_any e (.slice p0 e.base.length c0) (.slice p1 e.acts.length c1) (.slice p2 e.vers.length c2) (.slice p3 e.sl.length c3) w h
  have hD := Lib.hid (show e.done = (e.ok && e.sl.all fun s => s.st == 2) from rfl)
  generalize e.done = D at *
  generalize (e.sl.all fun s => s.st == 2) = A at *
  generalize e.ok = B at *
  clear h
  rcases B with _ | _
  · obtain rfl : D = false := hD.out
    go_enter Try.func54, Try.ntmps54
    go_wp2_with fail
    refine (kv _ (HG.out.up (by repeat (first | (with_reducible exact Ext.refl _) | (with_reducible refine Ext.up ?_ _) | (with_reducible refine Ext.alloc ?_ _) | (with_reducible refine Ext.drew ?_) | (with_reducible refine Ext.setRow ?_ (by first | exact LeS.le | exact LeS.add _ | (simp; done) | (simp; omega)) _) | (with_reducible refine Ext.setCell ?_ (by first | exact LeS.le | exact LeS.add _ | (simp; done) | (simp; omega)) _))))).mono ?_; rintro ed w' ⟨rfl, ⟨z1, rfl⟩⟩
    go_wp2_with fail
    go_ret
    exact ⟨rfl, (.of (by repeat (first | (with_reducible exact Ext.refl _) | (with_reducible refine Ext.up ?_ _) | (with_reducible refine Ext.alloc ?_ _) | (with_reducible refine Ext.drew ?_) | (with_reducible refine Ext.setRow ?_ (by first | exact LeS.le | exact LeS.add _ | (simp; done) | (simp; omega)) _) | (with_reducible refine Ext.setCell ?_ (by first | exact LeS.le | exact LeS.add _ | (simp; done) | (simp; omega)) _))))⟩
  · obtain rfl : D = A := hD.out
    go_enter Try.func54, Try.ntmps54
    go_wp2_with fail
    refine (kv _ (HG.out.up (by repeat (first | (with_reducible exact Ext.refl _) | (with_reducible refine Ext.up ?_ _) | (with_reducible refine Ext.alloc ?_ _) | (with_reducible refine Ext.drew ?_) | (with_reducible refine Ext.setRow ?_ (by first | exact LeS.le | exact LeS.add _ | (simp; done) | (simp; omega)) _) | (with_reducible refine Ext.setCell ?_ (by first | exact LeS.le | exact LeS.add _ | (simp; done) | (simp; omega)) _))))).mono ?_; rintro ed w' ⟨rfl, ⟨z1, rfl⟩⟩
    go_wp2_with fail
    refine (kd _ (HG.out.up (by repeat (first | (with_reducible exact Ext.refl _) | (with_reducible refine Ext.up ?_ _) | (with_reducible refine Ext.alloc ?_ _) | (with_reducible refine Ext.drew ?_) | (with_reducible refine Ext.setRow ?_ (by first | exact LeS.le | exact LeS.add _ | (simp; done) | (simp; omega)) _) | (with_reducible refine Ext.setCell ?_ (by first | exact LeS.le | exact LeS.add _ | (simp; done) | (simp; omega)) _))))).mono ?_; rintro ed w' ⟨rfl, ⟨z2, rfl⟩⟩
    go_wp2_with fail
    go_ret
    exact ⟨rfl, (.of (by repeat (first | (with_reducible exact Ext.refl _) | (with_reducible refine Ext.up ?_ _) | (with_reducible refine Ext.alloc ?_ _) | (with_reducible refine Ext.drew ?_) | (with_reducible refine Ext.setRow ?_ (by first | exact LeS.le | exact LeS.add _ | (simp; done) | (simp; omega)) _) | (with_reducible refine Ext.setCell ?_ (by first | exact LeS.le | exact LeS.add _ | (simp; done) | (simp; omega)) _))))⟩
set_option maxRecDepth 100000 in
set_option maxHeartbeats 1000000 in
theorem sTriesOf_any (e : Eng) (v0 v1 v2 v3 : Value) (w : World) (h : SG w v0 v1 v2 v3 e) (hvl : e.vers.length ≤ 1048576) :
    Calls Try.prog 55 #[.agg #[v0, v1, v2, v3]] w fun ed w' => ed = .returned (.int .i64 e.tries) ∧ Up w w' := by
  have HG := Lib.hid h
  obtain ⟨p0, c0, rfl, _, _⟩ := h.base.openc
  obtain ⟨p1, c1, rfl, _, _⟩ := h.acts.openc
  obtain ⟨p2, c2, rfl, _, _⟩ := h.vers.openc
  obtain ⟨p3, c3, rfl, _, hcs⟩ := h.sl.open
  have HCS := Lib.hid hcs
  have kv := fun w h => sEngineValid_any e (.slice p0 e.base.length c0) (.slice p1 e.acts.length c1) (.slice p2 e.vers.length c2) (.slice p3 e.sl.length c3) w h hvl
  clear h hcs
  rcases hok : e.ok with _ | _
  · rw [hok] at kv
    have hD := Lib.hid (show e.tries = -1 by unfold Eng.tries; rw [hok]; rfl)
    clear hok
    go_enter Try.func55, Try.ntmps55
    go_wp2_with fail
    refine (kv _ (HG.out.up (by repeat (first | (with_reducible exact Ext.refl _) | (with_reducible refine Ext.up ?_ _) | (with_reducible refine Ext.alloc ?_ _) | (with_reducible refine Ext.drew ?_) | (with_reducible refine Ext.setRow ?_ (by first | exact LeS.le | exact LeS.add _ | (simp; done) | (simp; omega)) _) | (with_reducible refine Ext.setCell ?_ (by first | exact LeS.le | exact LeS.add _ | (simp; done) | (simp; omega)) _))))).mono ?_; rintro ed w' ⟨rfl, ⟨z1, rfl⟩⟩
    go_wp2_with fail
    go_ret
    exact ⟨by rw [hD.out]; rfl, (.of (by repeat (first | (with_reducible exact Ext.refl _) | (with_reducible refine Ext.up ?_ _) | (with_reducible refine Ext.alloc ?_ _) | (with_reducible refine Ext.drew ?_) | (with_reducible refine Ext.setRow ?_ (by first | exact LeS.le | exact LeS.add _ | (simp; done) | (simp; omega)) _) | (with_reducible refine Ext.setCell ?_ (by first | exact LeS.le | exact LeS.add _ | (simp; done) | (simp; omega)) _))))⟩
  rw [hok] at kv
  obtain ⟨hl10, htr⟩ := eng_ok_parts hok
  have HTR := Lib.hid (trS_le htr)
  have hD := Lib.hid (show e.tries = trS e.sl by unfold Eng.tries; rw [hok]; rfl)
  clear hok htr
  go_enter Try.func55, Try.ntmps55
  go_wp2_with fail
  refine (kv _ (HG.out.up (by repeat (first | (with_reducible exact Ext.refl _) | (with_reducible refine Ext.up ?_ _) | (with_reducible refine Ext.alloc ?_ _) | (with_reducible refine Ext.drew ?_) | (with_reducible refine Ext.setRow ?_ (by first | exact LeS.le | exact LeS.add _ | (simp; done) | (simp; omega)) _) | (with_reducible refine Ext.setCell ?_ (by first | exact LeS.le | exact LeS.add _ | (simp; done) | (simp; omega)) _))))).mono ?_; rintro ed w' ⟨rfl, ⟨z1, rfl⟩⟩
  clear kv
  go_wp2_with fail
  go_loopw [3, 4] (fun s3 s4 wr => ∃ (k : Nat) (m : Int), s4 = .int .i64 k ∧ s3 = .int .i64 m ∧ m = trS (e.sl.take k) ∧ k ≤ e.sl.length ∧ Up z1.val wr) (fun _ s4 _ => e.sl.length - (intOf s4).toNat)
  case atStart => exact ⟨0, _, rfl, rfl, rfl, Nat.zero_le _, .of (Ext.refl _)⟩
  case round =>
    obtain ⟨k, m, rfl, rfl, hm, hk, ⟨z, rfl⟩⟩ := hrel
    have HM := Lib.hid hm; clear hm
    by_cases hlt : k < e.sl.length
    · obtain ⟨t, ht⟩ := getElem?_some_of_lt hlt
      obtain ⟨b, off, q0, d0, q1, d1, q2, d2, rfl, hb, ⟨e0, e1, e2, e3, e4, e5⟩, -, -, -⟩ := HCS.out k t ht
      have k0 : (0 : Int) ≤ (k : Int) := by omega
      have k1 : (k : Int) < e.sl.length := by omega
      have hsn := trS_snoc ht
      have hb1 := HTR.out (k + 1)
      have hw : IntKind.i64.wrap (m + t.tr) = trS (e.sl.take (k + 1)) := by rw [hsn, ← HM.out]; exact IntWalk.i64_in _ ⟨by rw [HM.out, ← hsn]; omega, by rw [HM.out, ← hsn]; omega⟩
      clear ht hsn hb1
      go_wp2_with fail
      go_roundw
      case rel => exact ⟨k + 1, _, by go_num, rfl, rfl, by omega, (.of (by repeat (first | (with_reducible exact Ext.refl _) | (with_reducible refine Ext.up ?_ _) | (with_reducible refine Ext.alloc ?_ _) | (with_reducible refine Ext.drew ?_) | (with_reducible refine Ext.setRow ?_ (by first | exact LeS.le | exact LeS.add _ | (simp; done) | (simp; omega)) _) | (with_reducible refine Ext.setCell ?_ (by first | exact LeS.le | exact LeS.add _ | (simp; done) | (simp; omega)) _))))⟩
      case measure => simp [intOf] <;> omega
    · obtain rfl : k = e.sl.length := by omega
      go_wp2_with fail
      go_ret
      exact ⟨by have := HM.out; rw [List.take_length] at this; rw [hD.out, ← this]; rfl, (.of (by repeat (first | (with_reducible exact Ext.refl _) | (with_reducible refine Ext.up ?_ _) | (with_reducible refine Ext.alloc ?_ _) | (with_reducible refine Ext.drew ?_) | (with_reducible refine Ext.setRow ?_ (by first | exact LeS.le | exact LeS.add _ | (simp; done) | (simp; omega)) _) | (with_reducible refine Ext.setCell ?_ (by first | exact LeS.le | exact LeS.add _ | (simp; done) | (simp; omega)) _))))⟩
set_option maxRecDepth 100000 in
set_option maxHeartbeats 1000000 in
theorem iTries_any (e : Eng) (v0 v1 v2 v3 : Value) (w : World) (h : SG w v0 v1 v2 v3 e) (hl10 : e.sl.length ≤ 10) (htr : ∀ (k : Nat) t, e.sl[k]? = some t → 0 ≤ t.tr ∧ t.tr ≤ 1000) :
    Calls Try.prog 124 #[.agg #[v0, v1, v2, v3]] w fun ed w' => ed = .returned (.int .i64 (trS e.sl)) ∧ Up w w' := by
  obtain ⟨p0, c0, rfl, _, _⟩ := h.base.openc
  obtain ⟨p1, c1, rfl, _, _⟩ := h.acts.openc
  obtain ⟨p2, c2, rfl, _, _⟩ := h.vers.openc
  obtain ⟨p3, c3, rfl, _, hcs⟩ := h.sl.open
  have HCS := Lib.hid hcs
  have HTR := Lib.hid (trS_le htr)
  clear h hcs htr
  go_enter Try.func124, Try.ntmps124
  go_wp2_with fail
  go_loopw [3, 5, 9] (fun s3 _ s9 wr => ∃ (k : Nat) (m : Int), s9 = .int .i64 k ∧ s3 = .int .i64 m ∧ m = trS (e.sl.take k) ∧ k ≤ e.sl.length ∧ Up w wr) (fun _ _ s9 _ => e.sl.length - (intOf s9).toNat)
  case atStart => exact ⟨0, _, rfl, rfl, rfl, Nat.zero_le _, (.of (by repeat (first | (with_reducible exact Ext.refl _) | (with_reducible refine Ext.up ?_ _) | (with_reducible refine Ext.alloc ?_ _) | (with_reducible refine Ext.drew ?_) | (with_reducible refine Ext.setRow ?_ (by first | exact LeS.le | exact LeS.add _ | (simp; done) | (simp; omega)) _) | (with_reducible refine Ext.setCell ?_ (by first | exact LeS.le | exact LeS.add _ | (simp; done) | (simp; omega)) _))))⟩
  case round =>
    obtain ⟨k, m, rfl, rfl, hm, hk, ⟨z, rfl⟩⟩ := hrel
    have HM := Lib.hid hm; clear hm
    by_cases hlt : k < e.sl.length
    · obtain ⟨t, ht⟩ := getElem?_some_of_lt hlt
      obtain ⟨b, off, q0, d0, q1, d1, q2, d2, rfl, hb, ⟨e0, e1, e2, e3, e4, e5⟩, -, -, -⟩ := HCS.out k t ht
      have k0 : (0 : Int) ≤ (k : Int) := by omega
      have k1 : (k : Int) < e.sl.length := by omega
      have hsn := trS_snoc ht
      have hb1 := HTR.out (k + 1)
      have hw : IntKind.i64.wrap (m + t.tr) = trS (e.sl.take (k + 1)) := by rw [hsn, ← HM.out]; exact IntWalk.i64_in _ ⟨by rw [HM.out, ← hsn]; omega, by rw [HM.out, ← hsn]; omega⟩
      clear ht hsn hb1
      go_wp2_with fail
      go_roundw
      case rel => exact ⟨k + 1, _, by go_num, rfl, rfl, by omega, (.of (by repeat (first | (with_reducible exact Ext.refl _) | (with_reducible refine Ext.up ?_ _) | (with_reducible refine Ext.alloc ?_ _) | (with_reducible refine Ext.drew ?_) | (with_reducible refine Ext.setRow ?_ (by first | exact LeS.le | exact LeS.add _ | (simp; done) | (simp; omega)) _) | (with_reducible refine Ext.setCell ?_ (by first | exact LeS.le | exact LeS.add _ | (simp; done) | (simp; omega)) _))))⟩
      case measure => simp [intOf] <;> omega
    · obtain rfl : k = e.sl.length := by omega
      go_wp2_with fail
      go_ret
      exact ⟨by have := HM.out; rw [List.take_length] at this; rw [← this]; rfl, (.of (by repeat (first | (with_reducible exact Ext.refl _) | (with_reducible refine Ext.up ?_ _) | (with_reducible refine Ext.alloc ?_ _) | (with_reducible refine Ext.drew ?_) | (with_reducible refine Ext.setRow ?_ (by first | exact LeS.le | exact LeS.add _ | (simp; done) | (simp; omega)) _) | (with_reducible refine Ext.setCell ?_ (by first | exact LeS.le | exact LeS.add _ | (simp; done) | (simp; omega)) _))))⟩
set_option maxRecDepth 100000 in
theorem iTriesOf_any (e : Eng) (v0 v1 v2 v3 : Value) (w : World) (h : SG w v0 v1 v2 v3 e) (hvl : e.vers.length ≤ 1048576) :
    Calls Try.prog 56 #[.agg #[v0, v1, v2, v3]] w fun ed w' => ed = .returned (.int .i64 e.tries) ∧ Up w w' := by
  have HG := Lib.hid h
  obtain ⟨p0, c0, rfl, _, _⟩ := h.base.openc
  obtain ⟨p1, c1, rfl, _, _⟩ := h.acts.openc
  obtain ⟨p2, c2, rfl, _, _⟩ := h.vers.openc
  obtain ⟨p3, c3, rfl, _, -⟩ := h.sl.open
  have kv := fun w h => iEngineValid_any e (.slice p0 e.base.length c0) (.slice p1 e.acts.length c1) (.slice p2 e.vers.length c2) (.slice p3 e.sl.length c3) w h hvl
  clear h
  rcases hok : e.ok with _ | _
  · rw [hok] at kv
    have hD := Lib.hid (show e.tries = -1 by unfold Eng.tries; rw [hok]; rfl)
    clear hok
    go_enter Try.func56, Try.ntmps56
    go_wp2_with fail
    refine (kv _ (HG.out.up (by repeat (first | (with_reducible exact Ext.refl _) | (with_reducible refine Ext.up ?_ _) | (with_reducible refine Ext.alloc ?_ _) | (with_reducible refine Ext.drew ?_) | (with_reducible refine Ext.setRow ?_ (by first | exact LeS.le | exact LeS.add _ | (simp; done) | (simp; omega)) _) | (with_reducible refine Ext.setCell ?_ (by first | exact LeS.le | exact LeS.add _ | (simp; done) | (simp; omega)) _))))).mono ?_; rintro ed w' ⟨rfl, ⟨z1, rfl⟩⟩
    go_wp2_with fail
    go_ret
    exact ⟨by rw [hD.out]; rfl, (.of (by repeat (first | (with_reducible exact Ext.refl _) | (with_reducible refine Ext.up ?_ _) | (with_reducible refine Ext.alloc ?_ _) | (with_reducible refine Ext.drew ?_) | (with_reducible refine Ext.setRow ?_ (by first | exact LeS.le | exact LeS.add _ | (simp; done) | (simp; omega)) _) | (with_reducible refine Ext.setCell ?_ (by first | exact LeS.le | exact LeS.add _ | (simp; done) | (simp; omega)) _))))⟩
  rw [hok] at kv
  obtain ⟨hl10, htr⟩ := eng_ok_parts hok
  have kt := fun w h => iTries_any e (.slice p0 e.base.length c0) (.slice p1 e.acts.length c1) (.slice p2 e.vers.length c2) (.slice p3 e.sl.length c3) w h hl10 htr
  have hD := Lib.hid (show e.tries = trS e.sl by unfold Eng.tries; rw [hok]; rfl)
  clear hok htr
  go_enter Try.func56, Try.ntmps56
  go_wp2_with fail
  refine (kv _ (HG.out.up (by repeat (first | (with_reducible exact Ext.refl _) | (with_reducible refine Ext.up ?_ _) | (with_reducible refine Ext.alloc ?_ _) | (with_reducible refine Ext.drew ?_) | (with_reducible refine Ext.setRow ?_ (by first | exact LeS.le | exact LeS.add _ | (simp; done) | (simp; omega)) _) | (with_reducible refine Ext.setCell ?_ (by first | exact LeS.le | exact LeS.add _ | (simp; done) | (simp; omega)) _))))).mono ?_; rintro ed w' ⟨rfl, ⟨z1, rfl⟩⟩
  go_wp2_with fail
  refine (kt _ (HG.out.up (by repeat (first | (with_reducible exact Ext.refl _) | (with_reducible refine Ext.up ?_ _) | (with_reducible refine Ext.alloc ?_ _) | (with_reducible refine Ext.drew ?_) | (with_reducible refine Ext.setRow ?_ (by first | exact LeS.le | exact LeS.add _ | (simp; done) | (simp; omega)) _) | (with_reducible refine Ext.setCell ?_ (by first | exact LeS.le | exact LeS.add _ | (simp; done) | (simp; omega)) _))))).mono ?_; rintro ed w' ⟨rfl, ⟨z2, rfl⟩⟩
  go_wp2_with fail
  go_ret
  exact ⟨by rw [hD.out]; rfl, (.of (by repeat (first | (with_reducible exact Ext.refl _) | (with_reducible refine Ext.up ?_ _) | (with_reducible refine Ext.alloc ?_ _) | (with_reducible refine Ext.drew ?_) | (with_reducible refine Ext.setRow ?_ (by first | exact LeS.le | exact LeS.add _ | (simp; done) | (simp; omega)) _) | (with_reducible refine Ext.setCell ?_ (by first | exact LeS.le | exact LeS.add _ | (simp; done) | (simp; omega)) _))))⟩
end Go.Proofs.Ytkboefmkfpnpjaa
