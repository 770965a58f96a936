/- Plain laws: put versions are read by the next action; dropping them leads back. The law FnPutVersions's walk. -/
import Derived.Test.YtkboefmkfpnpjaaGCflTop31
import Derived.Test.YtkboefmkfpnpjaaGCflTop34
import Derived.Test.YtkboefmkfpnpjaaGCflTop22
import Derived.Test.YtkboefmkfpnpjaaGCflTop32
set_option linter.unusedSimpArgs false
set_option linter.unusedVariables false
namespace Go.Proofs.Ytkboefmkfpnpjaa
open Go Go.RowKit Go.Proofs

theorem dropV_insV {x : Ver} {b : Int} (h : x.b = b) (l : List Ver) : dropV (insV x l) b = dropV l b := by
  have e : (dropV (insV x l) b) = ((l.takeWhile fun y => verLt y x) ++ (l.dropWhile fun y => verLt y x)).filter fun y => decide (y.b ≠ b) := by
    unfold dropV insV
    rw [List.filter_append, List.filter_append, List.filter_cons, if_neg (by simp [h])]
  rw [e, List.takeWhile_append_dropWhile]; rfl
theorem dropV_putTo (b : Int) : ∀ (u : List Ent) (out : List Ver), dropV (putTo b out u) b = dropV out b
  | [], _ => rfl
  | e :: u, out => by
    show dropV (putTo b (insV (mkV b e) out) u) b = _
    rw [dropV_putTo b u, dropV_insV (x := mkV b e) (b := b) rfl]
theorem dropV_putV (l : List Ver) (b : Int) (u : List Ent) : dropV (putV l b u) b = dropV l b := by
  unfold putV
  rw [dropV_putTo, dropV_twice]
theorem putV_read {l : List Ver} {b : Int} {u : List Ent} (h : putOk l b u = true) {e : Ent} (he : e ∈ u) : rdV [] (putV l b u) e.k (b + 1) = (e.v, b) := by
  have hok := putV_ok h
  simp only [putOk, Bool.and_eq_true, inR_iff] at h
  obtain ⟨_, ⟨b0, b1⟩, hu⟩ := h
  have hk := entsOk_mem hu he
  rw [rdV_yes (by simp only [rdOk, show entsOk 1 [] = true from rfl, hok, Bool.true_and, Bool.and_eq_true, inR_iff]; omega)]
  refine readV_last (x := mkV b e) (vers_sorted hok) ((putTo_perm b u _).mem_iff.2 (List.mem_append.2 (.inr (List.mem_map.2 ⟨e, he, rfl⟩)))) rfl (by show b < b + 1; omega) fun y _ _ hy => ?_
  show y.b ≤ b
  omega
theorem putV_drop {l : List Ver} {b : Int} {u : List Ent} (h : putOk l b u = true) : dropR (putV l b u) b = dropR l b := by
  have hok := putV_ok h
  simp only [putOk, Bool.and_eq_true] at h
  unfold dropR
  rw [if_pos hok, if_pos h.1, dropV_putV]
end Go.Proofs.Ytkboefmkfpnpjaa
namespace Go.Proofs.Ytkboefmkfpnpjaa
open Go Go.RowKit Go.Proofs

set_option maxRecDepth 100000 in
set_option maxHeartbeats 1000000 in
theorem drawPutVersions_any (bs : List Int) (v : Value) (w : World) (h : SL (RF encU) 1 w v bs) (hb : ∀ b ∈ bs, 0 ≤ b ∧ b ≤ 255) :
    Calls Try.prog 40 #[v] w fun e w' => ∃ v' vu l by_ u, e = .returned (.tuple #[v', .int .i64 by_, vu]) ∧ Up w w' ∧ l.length ≤ 500 ∧ u.length ≤ 10 ∧ (-1 ≤ by_ ∧ by_ ≤ 11) ∧ SL (RF Ver.enc) 3 w' v' l ∧ SL (RF Ent.enc) 2 w' vu u := by
  have H := Lib.hid h; clear h
  go_enter Try.func40, Try.ntmps40
  go_wp2_with fail
  refine (open_any bs v _ H.out hb).mono ?_; rintro e w' ⟨rb, rfl, ⟨z0, rfl⟩, hr⟩
  have H0 := Lib.hid hr
  have Hold := Lib.hid hr.old
  have hrb := hr.lt
  clear hr
  go_wp2_with fail
  refine (drawVersions_any _ _ rb _ 12 H0.out (by omega) (by omega) (by omega)).mono ?_; rintro e w' ⟨yl, l, rfl, hl, ⟨z2, rfl⟩, hr, ho⟩
  have H2 := Lib.hid hr; have HO := Lib.hid ho
  clear hr ho
  go_wp2_with fail
  refine (pick_any _ _ rb _ 11 H2.out (by omega) (by omega) (by omega)).mono ?_; rintro e w' ⟨a, rfl, a0, a1, _, ⟨z3, rfl⟩, hr⟩
  have H3 := Lib.hid hr; clear hr
  go_wp2_with fail
  refine (pick_any _ _ rb _ 12 H3.out (by omega) (by omega) (by omega)).mono ?_; rintro e w' ⟨q, rfl, q0, q1, _, ⟨z4, rfl⟩, hr⟩
  have H4 := Lib.hid hr; clear hr
  have ha := a1 (by omega); have hq := q1 (by omega)
  clear a1 q1
  obtain ⟨m, hm, hm0, hm1⟩ : ∃ m : Int, IntKind.i64.wrap (q.tdiv 11) = m ∧ 0 ≤ m ∧ m ≤ 1 := ⟨q.tdiv 11, by rw [IntWalk.i64_in _ (by have := quo_pos q0 (show (0 : Int) < 11 by omega); omega)], (quo_pos q0 (show (0 : Int) < 11 by omega)).1, by rw [Int.tdiv_eq_ediv_of_nonneg q0]; omega⟩
  have hby : IntKind.i64.wrap (a - m) = a - m := IntWalk.i64_in _ ⟨by omega, by omega⟩
  go_wp2_with fail
  refine (drawEffect_any _ _ rb _ 9 H4.out (by omega) (by omega) (by omega)).mono ?_; rintro e w' ⟨d, vr, vw, r, u, rfl, hr10, hu10, ⟨z5, rfl⟩, hr, or_, ou, _⟩
  obtain ⟨p1, c1, rfl, _, _⟩ := (or_.sl Ent.enc_length).openc
  obtain ⟨p2, c2, rfl, _, _⟩ := (ou.sl Ent.enc_length).openc
  have HU := Lib.hid (ou.sl Ent.enc_length)
  have E := Lib.hid (Ext.upR (Ext.upR (Ext.upR (Ext.upR z0.ext Hold.out z2) Hold.out z3) Hold.out z4) Hold.out z5)
  have HL := Lib.hid ((((HO.out.upR hrb z3).upR hrb z4).upR hrb z5).sl Ver.enc_length)
  clear hr or_ ou
  have hfd : ∀ w : World, (Instr.field 40 (.agg #[.bool d, .slice p1 r.length c1, .slice p2 u.length c2]) 2).run Try.prog w = .ok (.slice p2 u.length c2) w := fun _ => by kernel_rfl
  go_wp2_with fail
  clear hfd
  refine bodyPost_ret (v := .tuple #[yl, .int .i64 (a - m), .slice p2 u.length c2]) (by simp [results, Try.results40, go_sem]) rfl ?_
  exact ⟨_, _, l, a - m, u, rfl, .of E.out, hl, hu10, by omega, HL.out, HU.out⟩
set_option maxRecDepth 100000 in
set_option maxHeartbeats 2000000 in
theorem FnPutVersions_any (bs : List Int) (v : Value) (w : World) (h : SL (RF encU) 1 w v bs) (hb : ∀ b ∈ bs, 0 ≤ b ∧ b ≤ 255) :
    Calls Try.prog 7 #[v] w fun e w' => e = .returned (.bool true) ∧ Up w w' := by
  have H := Lib.hid h
  obtain ⟨p, c, rfl, _, _⟩ := h.openc
  clear h
  by_cases hl : 1048576 < bs.length
  · go_enter Try.func7, Try.ntmps7
    go_wp2_with fail
    go_ret
    exact ⟨rfl, (.of (by repeat (first | (with_reducible exact Ext.refl _) | (with_reducible refine Ext.up ?_ _) | (with_reducible refine Ext.alloc ?_ _) | (with_reducible refine Ext.drew ?_) | (with_reducible refine Ext.setRow ?_ (by first | exact LeS.le | exact LeS.add _ | (simp; done) | (simp; omega)) _) | (with_reducible refine Ext.setCell ?_ (by first | exact LeS.le | exact LeS.add _ | (simp; done) | (simp; omega)) _))))⟩
  go_enter Try.func7, Try.ntmps7
  go_wp2_with fail
  refine (drawPutVersions_any bs _ _ (H.out.up (by repeat (first | (with_reducible exact Ext.refl _) | (with_reducible refine Ext.up ?_ _) | (with_reducible refine Ext.alloc ?_ _) | (with_reducible refine Ext.drew ?_) | (with_reducible refine Ext.setRow ?_ (by first | exact LeS.le | exact LeS.add _ | (simp; done) | (simp; omega)) _) | (with_reducible refine Ext.setCell ?_ (by first | exact LeS.le | exact LeS.add _ | (simp; done) | (simp; omega)) _)))) hb).mono ?_; rintro e w' ⟨vl, vu, l, by_, u, rfl, ⟨z0, rfl⟩, hl5, hu10, ⟨hb0, hb1⟩, ol, ou⟩
  obtain ⟨p0, c0, rfl, _, _⟩ := ol.openc
  obtain ⟨p1, c1, rfl, _, hcu⟩ := ou.open
  have HL := Lib.hid ol; have HU := Lib.hid ou; have HCU := Lib.hid hcu
  clear ol ou hcu
  have hno := fun h => putR_no (l := l) (by_ := by_) (u := u) h
  have hyes := fun h => putR_yes (l := l) (by_ := by_) (u := u) h
  have hrd := fun h e he => putV_read (l := l) (b := by_) (u := u) h (e := e) he
  have hdr := fun h => putV_drop (l := l) (b := by_) (u := u) h
  have hvo := fun h => putV_ok (l := l) (by_ := by_) (u := u) h
  have hrl := putR_le l by_ u
  go_wp2_with fail
  refine (iPutVersions_any l u _ _ by_ _ (HL.out.up (by repeat (first | (with_reducible exact Ext.refl _) | (with_reducible refine Ext.up ?_ _) | (with_reducible refine Ext.alloc ?_ _) | (with_reducible refine Ext.drew ?_) | (with_reducible refine Ext.setRow ?_ (by first | exact LeS.le | exact LeS.add _ | (simp; done) | (simp; omega)) _) | (with_reducible refine Ext.setCell ?_ (by first | exact LeS.le | exact LeS.add _ | (simp; done) | (simp; omega)) _)))) (HU.out.up (by repeat (first | (with_reducible exact Ext.refl _) | (with_reducible refine Ext.up ?_ _) | (with_reducible refine Ext.alloc ?_ _) | (with_reducible refine Ext.drew ?_) | (with_reducible refine Ext.setRow ?_ (by first | exact LeS.le | exact LeS.add _ | (simp; done) | (simp; omega)) _) | (with_reducible refine Ext.setCell ?_ (by first | exact LeS.le | exact LeS.add _ | (simp; done) | (simp; omega)) _)))) (by omega) (by omega)).mono ?_; rintro e w' ⟨v1, rfl, ⟨z1, rfl⟩, o1⟩
  obtain ⟨q1, d1, rfl, _, _⟩ := (o1.sl Ver.enc_length).openc
  have O1 := Lib.hid (o1.sl Ver.enc_length); clear o1
  go_wp2_with fail
  refine (sPutVersions_any l u _ _ by_ _ (HL.out.up (by repeat (first | (with_reducible exact Ext.refl _) | (with_reducible refine Ext.up ?_ _) | (with_reducible refine Ext.alloc ?_ _) | (with_reducible refine Ext.drew ?_) | (with_reducible refine Ext.setRow ?_ (by first | exact LeS.le | exact LeS.add _ | (simp; done) | (simp; omega)) _) | (with_reducible refine Ext.setCell ?_ (by first | exact LeS.le | exact LeS.add _ | (simp; done) | (simp; omega)) _)))) (HU.out.up (by repeat (first | (with_reducible exact Ext.refl _) | (with_reducible refine Ext.up ?_ _) | (with_reducible refine Ext.alloc ?_ _) | (with_reducible refine Ext.drew ?_) | (with_reducible refine Ext.setRow ?_ (by first | exact LeS.le | exact LeS.add _ | (simp; done) | (simp; omega)) _) | (with_reducible refine Ext.setCell ?_ (by first | exact LeS.le | exact LeS.add _ | (simp; done) | (simp; omega)) _)))) (by omega) (by omega)).mono ?_; rintro e w' ⟨v2, rfl, ⟨z2, rfl⟩, o2⟩
  have O2 := Lib.hid (o2.sl Ver.enc_length); clear o2
  generalize putR l by_ u = V at *
  generalize putOk l by_ u = bo at *
  go_wp2_with fail
  refine (sameVersions_same V _ _ _ (O1.out.up (by repeat (first | (with_reducible exact Ext.refl _) | (with_reducible refine Ext.up ?_ _) | (with_reducible refine Ext.alloc ?_ _) | (with_reducible refine Ext.drew ?_) | (with_reducible refine Ext.setRow ?_ (by first | exact LeS.le | exact LeS.add _ | (simp; done) | (simp; omega)) _) | (with_reducible refine Ext.setCell ?_ (by first | exact LeS.le | exact LeS.add _ | (simp; done) | (simp; omega)) _)))) (O2.out.up (by repeat (first | (with_reducible exact Ext.refl _) | (with_reducible refine Ext.up ?_ _) | (with_reducible refine Ext.alloc ?_ _) | (with_reducible refine Ext.drew ?_) | (with_reducible refine Ext.setRow ?_ (by first | exact LeS.le | exact LeS.add _ | (simp; done) | (simp; omega)) _) | (with_reducible refine Ext.setCell ?_ (by first | exact LeS.le | exact LeS.add _ | (simp; done) | (simp; omega)) _))))).mono ?_; rintro e w' ⟨rfl, ⟨z3, rfl⟩⟩
  rcases bo with _ | _
  · obtain rfl := hno rfl
    clear hno hyes hrd hdr hvo
    go_wp2_with fail
    refine (alive_any _).mono ?_; rintro e w' ⟨rfl, ⟨z4, rfl⟩⟩
    go_wp2_with fail
    go_ret
    exact ⟨rfl, (.of (by repeat (first | (with_reducible exact Ext.refl _) | (with_reducible refine Ext.up ?_ _) | (with_reducible refine Ext.alloc ?_ _) | (with_reducible refine Ext.drew ?_) | (with_reducible refine Ext.setRow ?_ (by first | exact LeS.le | exact LeS.add _ | (simp; done) | (simp; omega)) _) | (with_reducible refine Ext.setCell ?_ (by first | exact LeS.le | exact LeS.add _ | (simp; done) | (simp; omega)) _))))⟩
  have hy := hyes rfl
  have HRD := hrd rfl; have HDR := hdr rfl; have HVO := hvo rfl
  rw [← hy] at HRD HDR HVO
  have HRD := Lib.hid HRD
  have kvv := fun w h => iVersionsValid_any V (.slice q1 V.length d1) w h
  rw [HVO] at kvv
  have kd1 := fun w h => iDropVersions_any V (.slice q1 V.length d1) by_ w h (by omega)
  rw [HDR] at kd1
  have kd2 := fun w h => iDropVersions_any l (.slice p0 l.length c0) by_ w h (by omega)
  generalize dropR l by_ = D at *
  have hbw : IntKind.i64.wrap (by_ + 1) = by_ + 1 := IntWalk.i64_in _ ⟨by omega, by omega⟩
  clear hno hyes hrd hdr hvo hy HDR HVO
  go_wp2_with fail
  go_loopw [10] (fun s10 wr => ∃ (k : Nat), s10 = .int .i64 k ∧ k ≤ u.length ∧ Up z3.val wr) (fun s10 _ => u.length - (intOf s10).toNat)
  case atStart => exact ⟨0, rfl, Nat.zero_le _, (.of (by repeat (first | (with_reducible exact Ext.refl _) | (with_reducible refine Ext.up ?_ _) | (with_reducible refine Ext.alloc ?_ _) | (with_reducible refine Ext.drew ?_) | (with_reducible refine Ext.setRow ?_ (by first | exact LeS.le | exact LeS.add _ | (simp; done) | (simp; omega)) _) | (with_reducible refine Ext.setCell ?_ (by first | exact LeS.le | exact LeS.add _ | (simp; done) | (simp; omega)) _))))⟩
  case round =>
    obtain ⟨k, rfl, hk, ⟨z, rfl⟩⟩ := hrel
    by_cases hlt : k < u.length
    · obtain ⟨x, hxk⟩ := getElem?_some_of_lt hlt
      obtain ⟨b, off, rfl, hb', hcc⟩ := HCU.out k x hxk
      have e0 : z0.val.cell? ⟨b, off + k * 2, none⟩ = some (.int .i64 x.k) := hcc 0 _ rfl
      have e1 : z0.val.cell? ⟨b, off + k * 2 + 1, none⟩ = some (.int .i64 x.v) := hcc 1 _ rfl
      have k0 : (0 : Int) ≤ (k : Int) := by omega
      have k1 : (k : Int) < u.length := by omega
      have krd := fun v w h h' => iReadVersion_any [] V v (.slice q1 V.length d1) x.k (by_ + 1) w h h'
      rw [HRD.out x (List.mem_of_getElem? hxk)] at krd
      clear hcc hxk kvv kd1 kd2
      go_wp2_with fail
      refine (krd _ _ (SL.nil _ _ _ _ _) (O1.out.up (by repeat (first | (with_reducible exact Ext.refl _) | (with_reducible refine Ext.up ?_ _) | (with_reducible refine Ext.alloc ?_ _) | (with_reducible refine Ext.drew ?_) | (with_reducible refine Ext.setRow ?_ (by first | exact LeS.le | exact LeS.add _ | (simp; done) | (simp; omega)) _) | (with_reducible refine Ext.setCell ?_ (by first | exact LeS.le | exact LeS.add _ | (simp; done) | (simp; omega)) _))))).mono ?_; rintro e w' ⟨rfl, ⟨z5, rfl⟩⟩
      go_wp2_with fail
      go_roundw
      case rel => exact ⟨k + 1, by go_num, by omega, (.of (by repeat (first | (with_reducible exact Ext.refl _) | (with_reducible refine Ext.up ?_ _) | (with_reducible refine Ext.alloc ?_ _) | (with_reducible refine Ext.drew ?_) | (with_reducible refine Ext.setRow ?_ (by first | exact LeS.le | exact LeS.add _ | (simp; done) | (simp; omega)) _) | (with_reducible refine Ext.setCell ?_ (by first | exact LeS.le | exact LeS.add _ | (simp; done) | (simp; omega)) _))))⟩
      case measure => simp [intOf] <;> omega
    · go_wp2_with fail
      refine (kvv _ (O1.out.up (by repeat (first | (with_reducible exact Ext.refl _) | (with_reducible refine Ext.up ?_ _) | (with_reducible refine Ext.alloc ?_ _) | (with_reducible refine Ext.drew ?_) | (with_reducible refine Ext.setRow ?_ (by first | exact LeS.le | exact LeS.add _ | (simp; done) | (simp; omega)) _) | (with_reducible refine Ext.setCell ?_ (by first | exact LeS.le | exact LeS.add _ | (simp; done) | (simp; omega)) _))))).mono ?_; rintro e w' ⟨rfl, ⟨z5, rfl⟩⟩
      go_wp2_with fail
      refine (kd1 _ (O1.out.up (by repeat (first | (with_reducible exact Ext.refl _) | (with_reducible refine Ext.up ?_ _) | (with_reducible refine Ext.alloc ?_ _) | (with_reducible refine Ext.drew ?_) | (with_reducible refine Ext.setRow ?_ (by first | exact LeS.le | exact LeS.add _ | (simp; done) | (simp; omega)) _) | (with_reducible refine Ext.setCell ?_ (by first | exact LeS.le | exact LeS.add _ | (simp; done) | (simp; omega)) _))))).mono ?_; rintro e w' ⟨v6, rfl, ⟨z6, rfl⟩, o6⟩
      have O6 := Lib.hid (o6.sl Ver.enc_length); clear o6
      go_wp2_with fail
      refine (kd2 _ (HL.out.up (by repeat (first | (with_reducible exact Ext.refl _) | (with_reducible refine Ext.up ?_ _) | (with_reducible refine Ext.alloc ?_ _) | (with_reducible refine Ext.drew ?_) | (with_reducible refine Ext.setRow ?_ (by first | exact LeS.le | exact LeS.add _ | (simp; done) | (simp; omega)) _) | (with_reducible refine Ext.setCell ?_ (by first | exact LeS.le | exact LeS.add _ | (simp; done) | (simp; omega)) _))))).mono ?_; rintro e w' ⟨v7, rfl, ⟨z7, rfl⟩, o7⟩
      have O7 := Lib.hid (o7.sl Ver.enc_length); clear o7
      go_wp2_with fail
      refine (sameVersions_same D _ _ _ (O6.out.up (by repeat (first | (with_reducible exact Ext.refl _) | (with_reducible refine Ext.up ?_ _) | (with_reducible refine Ext.alloc ?_ _) | (with_reducible refine Ext.drew ?_) | (with_reducible refine Ext.setRow ?_ (by first | exact LeS.le | exact LeS.add _ | (simp; done) | (simp; omega)) _) | (with_reducible refine Ext.setCell ?_ (by first | exact LeS.le | exact LeS.add _ | (simp; done) | (simp; omega)) _)))) (O7.out.up (by repeat (first | (with_reducible exact Ext.refl _) | (with_reducible refine Ext.up ?_ _) | (with_reducible refine Ext.alloc ?_ _) | (with_reducible refine Ext.drew ?_) | (with_reducible refine Ext.setRow ?_ (by first | exact LeS.le | exact LeS.add _ | (simp; done) | (simp; omega)) _) | (with_reducible refine Ext.setCell ?_ (by first | exact LeS.le | exact LeS.add _ | (simp; done) | (simp; omega)) _))))).mono ?_; rintro e w' ⟨rfl, ⟨z8, rfl⟩⟩
      go_wp2_with fail
      go_ret
      exact ⟨rfl, (.of (by repeat (first | (with_reducible exact Ext.refl _) | (with_reducible refine Ext.up ?_ _) | (with_reducible refine Ext.alloc ?_ _) | (with_reducible refine Ext.drew ?_) | (with_reducible refine Ext.setRow ?_ (by first | exact LeS.le | exact LeS.add _ | (simp; done) | (simp; omega)) _) | (with_reducible refine Ext.setCell ?_ (by first | exact LeS.le | exact LeS.add _ | (simp; done) | (simp; omega)) _))))⟩
end Go.Proofs.Ytkboefmkfpnpjaa
