/- Walks: drawn orders of actions. Walks: lists of effects that are compared; drawn stores, actions and orders. -/
import Derived.Test.YtkboefmkfpnpjaaGEsLTop27
import Derived.Test.YtkboefmkfpnpjaaGEsLTop12
import Derived.Test.YtkboefmkfpnpjaaGEsLTop29
import Derived.Test.YtkboefmkfpnpjaaGEsLTop08
import Derived.Test.YtkboefmkfpnpjaaGEsLTop16
set_option linter.unusedSimpArgs false
set_option linter.unusedVariables false
namespace Go.Proofs.Ytkboefmkfpnpjaa
open Go Go.RowKit Go.Proofs

theorem Own.setI {e lo g n c : Nat} {w : World} {l : List Int} (h : Own encI e 1 lo w (.slice (some ⟨g, 0, none⟩) n c) l) {k : Nat} (hk : k < l.length) (a : Int) : Own encI e 1 lo (w.setCell ⟨g, k, none⟩ (.int .i64 a)) (.slice (some ⟨g, 0, none⟩) n c) (l.set k a) := by
  obtain ⟨x, hx⟩ := getElem?_some_of_lt hk
  have := Own.setAt (x' := a) (j := 0) (u := .int .i64 a) encI_length h hx (by decide) rfl
  rwa [Nat.mul_one, Nat.add_zero] at this
theorem Own.frozenI {e lo g n c : Nat} {w : World} {l : List Int} (h : Own encI e 1 lo w (.slice (some ⟨g, 0, none⟩) n c) l) (j : Nat) : w.frozen? ⟨g, j, none⟩ = false := by
  have hn : n = l.length := by
    rcases h.2 with ⟨h0, _⟩ | ⟨g', cap', cur, hv, _⟩
    · cases h0
    · cases hv; rfl
  subst hn
  exact World.ownsRow.frozenAt h j
theorem set_in {o : List Int} {m : Nat} {a N : Int} (h : ∀ x ∈ o, 0 ≤ x ∧ x < N) (ha : 0 ≤ a ∧ a < N) : ∀ x ∈ o.set m a, 0 ≤ x ∧ x < N := by
  intro x hx
  rcases List.mem_or_eq_of_mem_set hx with hx | rfl
  · exact h x hx
  · exact ha
set_option maxRecDepth 100000 in
set_option maxHeartbeats 4000000 in
theorem order_any (w0 w : World) (rb lo : Nat) (lim : Int) (l : List Actn) (vl : Value) (h : Rd w0 w rb lim) (hl : lim ≤ 50000) (hol : Own Actn.enc 24 4 lo w vl l) (hlo : rb < lo) (hn : l.length ≤ 11) :
    Calls Try.prog 75 #[.pointer (some ⟨rb, 0, none⟩), vl] w fun e w' => ∃ v' o, e = .returned v' ∧ o.length ≤ 100 ∧ (∃ z : ExtR rb w, w' = z.val) ∧ Rd w0 w' rb (lim + 100) ∧ Own encI 3 1 w.heap.size w' v' o := by
  have H := Lib.hid h
  have hL : LtS rb w := ⟨h.lt⟩
  have hLe : w0.heap.size ≤ w.heap.size := h.ext.size
  have hlt := h.lt
  obtain ⟨pl, cl, rfl, _, hcl⟩ := (hol.sl Actn.enc_length).open
  have HCL := Lib.hid hcl
  have HNB := Lib.hid (fun b off (e : pl = some ⟨b, off, none⟩) => show b ≠ rb by have := (World.ownsRow.lt hol b (by subst e; rfl)).1; omega)
  have ksv := fun w h => sLevelOrder_any l (.slice pl l.length cl) w h
  have hlv := lvoR_le l
  have HOL := Lib.hid hol
  clear h hol hcl
  go_enter Try.func75, Try.ntmps75
  go_wp2_with fail
  go_loopw [5, 6] (fun s5 s6 wr => ∃ (k : Nat), s6 = .int .i64 k ∧ k ≤ l.length ∧ Up w wr ∧ Own encI 3 1 w.heap.size wr s5 (rangeI k)) (fun _ s6 _ => l.length - (intOf s6).toNat)
  case atStart => exact ⟨0, rfl, Nat.zero_le _, (.of (by repeat (first | (with_reducible exact Ext.refl _) | (with_reducible refine Ext.up ?_ _) | (with_reducible refine Ext.alloc ?_ _) | (with_reducible refine Ext.drew ?_) | (with_reducible refine Ext.setRow ?_ (by first | exact LeS.le | exact LeS.add _ | (simp; done) | (simp; omega)) _) | (with_reducible refine Ext.setCell ?_ (by first | exact LeS.le | exact LeS.add _ | (simp; done) | (simp; omega)) _)))), Own.lit rfl (Nat.le_refl _) rfl rfl encI_length (by simp [rangeI])⟩
  case round =>
    obtain ⟨k, rfl, hk, ⟨z, rfl⟩, hown⟩ := hrel
    have HO := Lib.hid hown; clear hown
    by_cases hlt1 : k < l.length
    · have hrl : (rangeI k).length ≤ 11 := by rw [rangeI_length]; omega
      go_wp2_with (at_builtin; refine wpList_pushG fI rfl (.tmp 17) (.tmp 19) rfl encI encI_length w (lo := w.heap.size) [(k : Int)] (rangeI k) rfl HO.out z.ext (Nat.le_refl _) z.ext.size rfl (by rfl) (by go_simp) rfl (oneIs' _) (by simp; omega) (by simp; omega) ?_; intro v7 z7 o7 _ _)
      have HO7 := Lib.hid o7; clear o7
      go_wp2_with fail
      go_roundw
      case rel => exact ⟨k + 1, by go_num, by omega, ⟨z7, rfl⟩, by rw [rangeI_succ]; exact HO7.out⟩
      case measure => simp [intOf] <;> omega
    · obtain rfl : k = l.length := by omega
      have hres : (rangeI l.length).length = l.length := rangeI_length _
      have HIN := Lib.hid (show ∀ x ∈ rangeI l.length, 0 ≤ x ∧ x < (l.length : Int) by
        intro x hx
        simp only [rangeI, List.mem_map, List.mem_range] at hx
        obtain ⟨i, hi, rfl⟩ := hx; omega)
      obtain ⟨po, co, rfl, _, _⟩ := (HO.out.sl encI_length).openc
      rw [hres] at HO ⊢
      generalize rangeI l.length = o at *
      have Hres := Lib.hid hres; clear hres
      go_wp2_with fail
      refine (pick_any w0 _ rb lim 3 (H.out.up z.ext) (by omega) (by omega) (by omega)).mono ?_; rintro e w' ⟨q, rfl, q0, q1, _, ⟨z1, rfl⟩, hr⟩
      have H1 := Lib.hid hr; clear hr
      have HO1 := Lib.hid (HO.out.upR hlt z1)
      have HG1 := Lib.hid (GB.upR (grownBy_ext z.ext : w.grownBy z.val (some rb)) z1)
      have hLz : LtS rb z.val := ⟨Nat.lt_of_lt_of_le hlt z.ext.size⟩
      by_cases hq : q = 0
      · subst hq
        have HOLz := Lib.hid (((HOL.out.up z.ext).upR hlo z1).sl Actn.enc_length)
        go_wp2_with fail
        refine (ksv _ HOLz.out).mono ?_; rintro e w' ⟨v', rfl, ⟨z2, rfl⟩, o2⟩
        go_wp2_with fail
        go_ret
        exact ⟨_, _, rfl, hlv, ExtR.of (GB.up HG1.out z2), (H1.out.up z2.ext).mono (by omega), o2.lo HG1.out.size⟩
      · have hq' : decide (q = 0) = false := by simpa using hq
        have hq2 : (q == 0) = false := by simpa using hq
        clear ksv
        go_wp2_with fail
        refine (pick_any w0 _ rb _ 6 H1.out (by omega) (by omega) (by omega)).mono ?_; rintro e w' ⟨j0, rfl, j00, j01, _, ⟨z2, rfl⟩, hr⟩
        have H2 := Lib.hid hr; clear hr
        have hj5 := j01 (by omega)
        have HO2 := Lib.hid (HO1.out.upR hlt z2)
        have HG2 := Lib.hid (GB.upR HG1.out z2)
        clear q1 j01
        go_wp2_with fail
        go_loopw [7] (fun s7 wr => ∃ (j : Int) (o : List Int), s7 = .int .i64 j ∧ 0 ≤ j ∧ j ≤ 5 ∧ o.length = l.length ∧ (∀ x ∈ o, 0 ≤ x ∧ x < (l.length : Int)) ∧ (∃ z : ExtR rb w, wr = z.val) ∧ Rd w0 wr rb (lim + 50 - 2 * j) ∧ Own encI 3 1 w.heap.size wr (.slice po l.length co) o) (fun s7 _ => (intOf s7).toNat)
        case atStart => exact ⟨j0, o, rfl, j00, by omega, Hres.out, HIN.out, ExtR.of HG2.out, H2.out.mono (by omega), HO2.out⟩
        case round =>
          obtain ⟨j, o, rfl, jj0, jj5, hol, hin, ⟨z3, rfl⟩, hr, hown⟩ := hrel
          have H3 := Lib.hid hr; have HO3 := Lib.hid hown; have Hin := Lib.hid hin; have Hol := Lib.hid hol
          have hLz3 : LtS rb z3.val := ⟨hr.lt⟩
          clear hr hin
          by_cases hjz : 0 < j
          rotate_left
          · go_wp2_with fail
            refine bodyPost_ret (v := .slice po l.length co) (by simp [results, Try.results75, go_sem]) rfl ?_
            first | exact ⟨_, o, rfl, by omega, ⟨z3, rfl⟩, H3.out.mono (by omega), HO3.out⟩ | exact ⟨_, rfl, o, by omega, ⟨z3, rfl⟩, H3.out.mono (by omega), HO3.out⟩
          by_cases hl1 : 1 < l.length
          rotate_left
          · have hl1' : decide (1 < l.length) = false := by simpa using hl1
            have hl1'' : decide ((1 : Int) < (l.length : Int)) = false := by simp; omega
            go_wp2_with fail
            refine bodyPost_ret (v := .slice po l.length co) (by simp [results, Try.results75, go_sem]) rfl ?_
            first | exact ⟨_, o, rfl, by omega, ⟨z3, rfl⟩, H3.out.mono (by omega), HO3.out⟩ | exact ⟨_, rfl, o, by omega, ⟨z3, rfl⟩, H3.out.mono (by omega), HO3.out⟩
          have hl1' : decide (1 < l.length) = true := by simpa using hl1
          have hl1'' : decide ((1 : Int) < (l.length : Int)) = true := by simp; omega
          have hw1 : IntKind.i64.wrap ((l.length : Int) - 1) = (l.length : Int) - 1 := IntWalk.i64_in _ ⟨by omega, by omega⟩
          obtain ⟨g, c9, hpo⟩ := Own.ne' HO3.out (by intro e; rw [e] at hol; simp at hol; omega)
          rw [hol] at hpo
          cases hpo
          clear hol
          have hgw := (World.ownsRow.lt HO3.out g rfl).1
          have hgz := (World.ownsRow.lt HO3.out g rfl).2
          have hLg : LtS g z3.val := ⟨hgz⟩
          have hNg : NeS g rb := ⟨by omega⟩
          go_wp2_with fail
          refine (pick_any w0 _ rb _ ((l.length : Int) - 1) H3.out (by omega) (by omega) (by omega)).mono ?_; rintro e w' ⟨jj, rfl, m0, m1, _, ⟨z4, rfl⟩, hr⟩
          have H4 := Lib.hid hr; clear hr
          have HO4 := Lib.hid (HO3.out.upR hlt z4)
          have HG4 := Lib.hid (GB.upR z3.grown z4)
          obtain ⟨m, rfl⟩ : ∃ m : Nat, jj = (m : Int) := ⟨jj.toNat, by omega⟩
          have hm := m1 (by omega)
          clear m1 m0
          have hLz4 : LtS rb z4.val := ⟨H4.out.lt⟩
          have hLg4 : LtS g z4.val := ⟨(World.ownsRow.lt HO4.out g rfl).2⟩
          obtain ⟨a, ha⟩ := getElem?_some_of_lt (l := o) (k := m) (by rw [Hol.out]; omega)
          obtain ⟨b, hb⟩ := getElem?_some_of_lt (l := o) (k := m + 1) (by rw [Hol.out]; omega)
          obtain ⟨a0, a1⟩ := Hin.out a (List.mem_of_getElem? ha)
          obtain ⟨b0, b1⟩ := Hin.out b (List.mem_of_getElem? hb)
          obtain ⟨na, rfl⟩ : ∃ n : Nat, a = (n : Int) := ⟨a.toNat, by omega⟩
          obtain ⟨nb, rfl⟩ : ∃ n : Nat, b = (n : Int) := ⟨b.toNat, by omega⟩
          obtain ⟨x, hx⟩ := getElem?_some_of_lt (l := l) (k := na) (by omega)
          obtain ⟨y, hy⟩ := getElem?_some_of_lt (l := l) (k := nb) (by omega)
          obtain ⟨bl, offl, rfl, hbl, _⟩ := HCL.out na x hx
          obtain ⟨x0, x1, x2, x3⟩ := acell HCL.out rfl hx
          obtain ⟨y0, y1, y2, y3⟩ := acell HCL.out rfl hy
          have hNl : NeS bl rb := ⟨HNB.out bl offl rfl⟩
          have hLl3 : LtS bl z3.val := inferInstance
          have ca : z4.val.cell? ⟨g, m, none⟩ = some (.int .i64 na) := by have := HO4.out.cellI ha; simpa using this
          have cb : z4.val.cell? ⟨g, m + 1, none⟩ = some (.int .i64 nb) := by have := HO4.out.cellI hb; simpa using this
          have fa : z4.val.frozen? ⟨g, m, none⟩ = false := HO4.out.frozenI m
          have fb : z4.val.frozen? ⟨g, m + 1, none⟩ = false := HO4.out.frozenI (m + 1)
          have m0 : (0 : Int) ≤ (m : Int) := by omega
          have m1 : (m : Int) < (l.length : Int) := by omega
          have mw : IntKind.i64.wrap ((m : Int) + 1) = (m : Int) + 1 := IntWalk.i64_in _ ⟨by omega, by omega⟩
          have mt : ((m : Int) + 1).toNat = m + 1 := by omega
          have mp0 : (0 : Int) ≤ (m : Int) + 1 := by omega
          have mp1 : (m : Int) + 1 < (l.length : Int) := by omega
          have mp2 : decide ((m : Int) + 1 < (l.length : Int)) = true := by simp; omega
          have na0 : (0 : Int) ≤ (na : Int) := by omega
          have nb0 : (0 : Int) ≤ (nb : Int) := by omega
          have HX := Lib.hid hx; have HY := Lib.hid hy; have HA := Lib.hid ha; have HB := Lib.hid hb
          clear hx hy ha hb
          go_upto_region 12 with fail
          refine wp_region_held_drew (S := (fun w' => (∀ n i, ∀ [LtS n z4.val] [NeS n rb], w'.cell? ⟨n, i, none⟩ = World.cell? z4.val ⟨n, i, none⟩) ∧ World.grownBy z4.val w' (some rb))) (by kernel_rfl) ?_ (fun hHeld => ?_)
          · (try dsimp only)
            refine S_of_gb ?_
            repeat (first | (with_reducible exact grownBy_refl _ _) | (with_reducible refine GB.setNew ?_ (by first | exact LeS.le | exact LeS.add _ | (simp; done) | (simp; omega)) _ _) | (with_reducible refine GB.alloc ?_ _) | (with_reducible refine GB.drew ?_) | (with_reducible refine GB.upR ?_ _) | (with_reducible refine GB.up ?_ _))
          refine wpAnyH_take (i := 0) (v := ?_) (opAt rfl) (by kernel_rfl) (by kernel_rfl) (by kernel_rfl) (fun _ _ _ h => h) (Or.inl ⟨by rfl, ?_⟩) (by assumption) ?_
          rotate_left
          · (intro w hSw; (try dsimp only at hSw); go_simp) <;> with_reducible rfl
          try simp only [Act.put, List.setIfInBounds_toArray, List.set_cons_zero, List.set_cons_succ]
          refine wpAnyH_ready (rs := [1]) (by kernel_rfl) (by simp) ?_
          refine AllReadyH.cons (opAt rfl) (fun K hK => ?_) ?_
          · go_simp
            (go_at_call 79; (with_reducible refine (pick_any w0 _ rb _ 5 (H4.out.up (by repeat (first | (with_reducible exact Ext.refl _) | (with_reducible refine Ext.up ?_ _) | (with_reducible refine Ext.alloc ?_ _) | (with_reducible refine Ext.drew ?_) | (with_reducible refine Ext.setRow ?_ (by first | exact LeS.le | exact LeS.add _ | (simp; done) | (simp; omega)) _) | (with_reducible refine Ext.setCell ?_ (by first | exact LeS.le | exact LeS.add _ | (simp; done) | (simp; omega)) _)))) (by omega) (by omega) (by omega)).mono ?_); rintro e w' ⟨q, rfl, _, _, _, ⟨z5, rfl⟩, hr⟩; have H5 := Lib.hid hr; clear hr; have HO5 := Lib.hid (Own.upR (HO4.out.up (w' := z4.val.drew) (by repeat (first | (with_reducible exact Ext.refl _) | (with_reducible refine Ext.up ?_ _) | (with_reducible refine Ext.alloc ?_ _) | (with_reducible refine Ext.drew ?_) | (with_reducible refine Ext.setRow ?_ (by first | exact LeS.le | exact LeS.add _ | (simp; done) | (simp; omega)) _) | (with_reducible refine Ext.setCell ?_ (by first | exact LeS.le | exact LeS.add _ | (simp; done) | (simp; omega)) _)))) hlt z5); have HG5 := Lib.hid (GB.upR (GB.drew HG4.out) z5))
            try go_wp2_with fail
            refine hK.out _ _ ?_ (fun hHeld1 => ?_)
            · (try dsimp only)
              refine S_of_gb ?_
              repeat (first | (with_reducible exact grownBy_refl _ _) | (with_reducible refine GB.setNew ?_ (by first | exact LeS.le | exact LeS.add _ | (simp; done) | (simp; omega)) _ _) | (with_reducible refine GB.alloc ?_ _) | (with_reducible refine GB.drew ?_) | (with_reducible refine GB.upR ?_ _) | (with_reducible refine GB.up ?_ _))
            clear hK K hHeld
            have hHeld := hHeld1; clear hHeld1
            try simp only [Act.put, List.setIfInBounds_toArray, List.set_cons_zero, List.set_cons_succ]
            rcases hqq : (q == 0) with _ | _
            · refine wpAnyH_take (i := 2) (v := ?_) (opAt rfl) (by kernel_rfl) (by kernel_rfl) (by kernel_rfl) (fun _ _ _ h => h) (Or.inl ⟨by rfl, ?_⟩) (by assumption) ?_
              rotate_left
              · (intro w hSw; (try dsimp only at hSw); go_simp) <;> with_reducible rfl
              try simp only [Act.put, List.setIfInBounds_toArray, List.set_cons_zero, List.set_cons_succ]
              refine wpAnyH_take (i := 3) (v := ?_) (opAt rfl) (by kernel_rfl) (by kernel_rfl) (by kernel_rfl) (fun _ _ _ h => h) (Or.inl ⟨by rfl, ?_⟩) (by assumption) ?_
              rotate_left
              · (intro w hSw; (try dsimp only at hSw); go_simp) <;> with_reducible rfl
              try simp only [Act.put, List.setIfInBounds_toArray, List.set_cons_zero, List.set_cons_succ]
              refine wpAnyH_take (i := 4) (v := ?_) (opAt rfl) (by kernel_rfl) (by kernel_rfl) (by kernel_rfl) (fun _ _ _ h => h) (Or.inl ⟨by rfl, ?_⟩) (by assumption) ?_
              rotate_left
              · (intro w hSw; (try dsimp only at hSw); go_simp) <;> with_reducible rfl
              try simp only [Act.put, List.setIfInBounds_toArray, List.set_cons_zero, List.set_cons_succ]
              refine wpAnyH_take (i := 5) (v := ?_) (opAt rfl) (by kernel_rfl) (by kernel_rfl) (by kernel_rfl) (fun _ _ _ h => h) (Or.inl ⟨by rfl, ?_⟩) (by assumption) ?_
              rotate_left
              · (intro w hSw; (try dsimp only at hSw); go_simp) <;> with_reducible rfl
              try simp only [Act.put, List.setIfInBounds_toArray, List.set_cons_zero, List.set_cons_succ]
              refine wpAnyH_take (i := 6) (v := ?_) (opAt rfl) (by kernel_rfl) (by kernel_rfl) (by kernel_rfl) (fun _ _ _ h => h) (Or.inl ⟨by rfl, ?_⟩) (by assumption) ?_
              rotate_left
              · (intro w hSw; (try dsimp only at hSw); go_simp) <;> with_reducible rfl
              try simp only [Act.put, List.setIfInBounds_toArray, List.set_cons_zero, List.set_cons_succ]
              refine wpAnyH_take (i := 7) (v := ?_) (opAt rfl) (by kernel_rfl) (by kernel_rfl) (by kernel_rfl) (fun _ _ _ h => h) (Or.inl ⟨by rfl, ?_⟩) (by assumption) ?_
              rotate_left
              · (intro w hSw; (try dsimp only at hSw); go_simp) <;> with_reducible rfl
              try simp only [Act.put, List.setIfInBounds_toArray, List.set_cons_zero, List.set_cons_succ]
              refine wpAnyH_take (i := 8) (v := ?_) (opAt rfl) (by kernel_rfl) (by kernel_rfl) (by kernel_rfl) (fun _ _ _ h => h) (Or.inl ⟨by rfl, ?_⟩) (by assumption) ?_
              rotate_left
              · (intro w hSw; (try dsimp only at hSw); go_simp) <;> with_reducible rfl
              try simp only [Act.put, List.setIfInBounds_toArray, List.set_cons_zero, List.set_cons_succ]
              refine wpAnyH_take (i := 9) (v := ?_) (opAt rfl) (by kernel_rfl) (by kernel_rfl) (by kernel_rfl) (fun _ _ _ h => h) (Or.inl ⟨by rfl, ?_⟩) (by assumption) ?_
              rotate_left
              · (intro w hSw; (try dsimp only at hSw); go_simp) <;> with_reducible rfl
              try simp only [Act.put, List.setIfInBounds_toArray, List.set_cons_zero, List.set_cons_succ]
              refine wpAnyH_take (i := 10) (v := ?_) (opAt rfl) (by kernel_rfl) (by kernel_rfl) (by kernel_rfl) (fun _ _ _ h => h) (Or.inl ⟨by rfl, ?_⟩) (by assumption) ?_
              rotate_left
              · (intro w hSw; (try dsimp only at hSw); go_simp) <;> with_reducible rfl
              try simp only [Act.put, List.setIfInBounds_toArray, List.set_cons_zero, List.set_cons_succ]
              refine wpAnyH_take (i := 11) (v := ?_) (opAt rfl) (by kernel_rfl) (by kernel_rfl) (by kernel_rfl) (fun _ _ _ h => h) (Or.inl ⟨by rfl, ?_⟩) (by assumption) ?_
              rotate_left
              · (intro w hSw; (try dsimp only at hSw); go_simp) <;> with_reducible rfl
              try simp only [Act.put, List.setIfInBounds_toArray, List.set_cons_zero, List.set_cons_succ]
              refine wpAnyH_take (i := 12) (v := ?_) (opAt rfl) (by kernel_rfl) (by kernel_rfl) (by kernel_rfl) (fun _ _ _ h => h) (Or.inl ⟨by rfl, ?_⟩) (by assumption) ?_
              rotate_left
              · (intro w hSw; (try dsimp only at hSw); go_simp) <;> with_reducible rfl
              try simp only [Act.put, List.setIfInBounds_toArray, List.set_cons_zero, List.set_cons_succ]
              refine wpAnyH_take (i := 13) (v := ?_) (opAt rfl) (by kernel_rfl) (by kernel_rfl) (by kernel_rfl) (fun _ _ _ h => h) (Or.inl ⟨by rfl, ?_⟩) (by assumption) ?_
              rotate_left
              · (intro w hSw; (try dsimp only at hSw); go_simp) <;> with_reducible rfl
              try simp only [Act.put, List.setIfInBounds_toArray, List.set_cons_zero, List.set_cons_succ]
              refine wpAnyH_take (i := 14) (v := ?_) (opAt rfl) (by kernel_rfl) (by kernel_rfl) (by kernel_rfl) (fun _ _ _ h => h) (Or.inl ⟨by rfl, ?_⟩) (by assumption) ?_
              rotate_left
              · (intro w hSw; (try dsimp only at hSw); go_simp) <;> with_reducible rfl
              try simp only [Act.put, List.setIfInBounds_toArray, List.set_cons_zero, List.set_cons_succ]
              refine wpAnyH_take (i := 15) (v := ?_) (opAt rfl) (by kernel_rfl) (by kernel_rfl) (by kernel_rfl) (fun _ _ _ h => h) (Or.inl ⟨by rfl, ?_⟩) (by assumption) ?_
              rotate_left
              · (intro w hSw; (try dsimp only at hSw); go_simp) <;> with_reducible rfl
              try simp only [Act.put, List.setIfInBounds_toArray, List.set_cons_zero, List.set_cons_succ]
              refine wpAnyH_take (i := 16) (v := ?_) (opAt rfl) (by kernel_rfl) (by kernel_rfl) (by kernel_rfl) (fun _ _ _ h => h) (Or.inl ⟨by rfl, ?_⟩) (by assumption) ?_
              rotate_left
              · (intro w hSw; (try dsimp only at hSw); go_simp) <;> with_reducible rfl
              try simp only [Act.put, List.setIfInBounds_toArray, List.set_cons_zero, List.set_cons_succ]
              refine wpAnyH_take (i := 17) (v := ?_) (opAt rfl) (by kernel_rfl) (by kernel_rfl) (by kernel_rfl) (fun _ _ _ h => h) (Or.inl ⟨by rfl, ?_⟩) (by assumption) ?_
              rotate_left
              · (intro w hSw; (try dsimp only at hSw); go_simp) <;> with_reducible rfl
              try simp only [Act.put, List.setIfInBounds_toArray, List.set_cons_zero, List.set_cons_succ]
              refine wpAnyH_take (i := 18) (v := ?_) (opAt rfl) (by kernel_rfl) (by kernel_rfl) (by kernel_rfl) (fun _ _ _ h => h) (Or.inl ⟨by rfl, ?_⟩) (by assumption) ?_
              rotate_left
              · (intro w hSw; (try dsimp only at hSw); go_simp) <;> with_reducible rfl
              try simp only [Act.put, List.setIfInBounds_toArray, List.set_cons_zero, List.set_cons_succ]
              refine wpAnyH_take (i := 19) (v := ?_) (opAt rfl) (by kernel_rfl) (by kernel_rfl) (by kernel_rfl) (fun _ _ _ h => h) (Or.inl ⟨by rfl, ?_⟩) (by assumption) ?_
              rotate_left
              · (intro w hSw; (try dsimp only at hSw); go_simp) <;> with_reducible rfl
              try simp only [Act.put, List.setIfInBounds_toArray, List.set_cons_zero, List.set_cons_succ]
              refine wpAnyH_take (i := 20) (v := ?_) (opAt rfl) (by kernel_rfl) (by kernel_rfl) (by kernel_rfl) (fun _ _ _ h => h) (Or.inl ⟨by rfl, ?_⟩) (by assumption) ?_
              rotate_left
              · (intro w hSw; (try dsimp only at hSw); go_simp) <;> with_reducible rfl
              try simp only [Act.put, List.setIfInBounds_toArray, List.set_cons_zero, List.set_cons_succ]
              refine wpAnyH_take (i := 21) (v := ?_) (opAt rfl) (by kernel_rfl) (by kernel_rfl) (by kernel_rfl) (fun _ _ _ h => h) (Or.inl ⟨by rfl, ?_⟩) (by assumption) ?_
              rotate_left
              · (intro w hSw; (try dsimp only at hSw); go_simp) <;> with_reducible rfl
              try simp only [Act.put, List.setIfInBounds_toArray, List.set_cons_zero, List.set_cons_succ]
              refine wpAnyH_take (i := 22) (v := ?_) (opAt rfl) (by kernel_rfl) (by kernel_rfl) (by kernel_rfl) (fun _ _ _ h => h) (Or.inl ⟨by rfl, ?_⟩) (by assumption) ?_
              rotate_left
              · (intro w hSw; (try dsimp only at hSw); go_simp) <;> with_reducible rfl
              try simp only [Act.put, List.setIfInBounds_toArray, List.set_cons_zero, List.set_cons_succ]
              refine wpAnyH_take (i := 23) (v := ?_) (opAt rfl) (by kernel_rfl) (by kernel_rfl) (by kernel_rfl) (fun _ _ _ h => h) (Or.inl ⟨by rfl, ?_⟩) (by assumption) ?_
              rotate_left
              · (intro w hSw; (try dsimp only at hSw); go_simp) <;> with_reducible rfl
              try simp only [Act.put, List.setIfInBounds_toArray, List.set_cons_zero, List.set_cons_succ]
              refine wpAnyH_take (i := 24) (v := ?_) (opAt rfl) (by kernel_rfl) (by kernel_rfl) (by kernel_rfl) (fun _ _ _ h => h) (Or.inl ⟨by rfl, ?_⟩) (by assumption) ?_
              rotate_left
              · (intro w hSw; (try dsimp only at hSw); go_simp) <;> with_reducible rfl
              try simp only [Act.put, List.setIfInBounds_toArray, List.set_cons_zero, List.set_cons_succ]
              refine wpAnyH_ready (rs := [25]) (by kernel_rfl) (by simp) ?_
              refine AllReadyH.cons (opAt rfl) (fun K hK => ?_) ?_
              · go_simp
                (go_at_call 16; (with_reducible refine (sConflict_any x y _).mono ?_); rintro e w' ⟨rfl, z6, rfl⟩)
                try go_wp2_with fail
                refine hK.out _ _ ?_ (fun hHeld1 => ?_)
                · (try dsimp only)
                  refine S_of_gb ?_
                  repeat (first | (with_reducible exact grownBy_refl _ _) | (with_reducible refine GB.setNew ?_ (by first | exact LeS.le | exact LeS.add _ | (simp; done) | (simp; omega)) _ _) | (with_reducible refine GB.alloc ?_ _) | (with_reducible refine GB.drew ?_) | (with_reducible refine GB.upR ?_ _) | (with_reducible refine GB.up ?_ _))
                clear hK K hHeld
                have hHeld := hHeld1; clear hHeld1
                try simp only [Act.put, List.setIfInBounds_toArray, List.set_cons_zero, List.set_cons_succ]
                refine wpAnyH_take (i := 26) (v := ?_) (opAt rfl) (by kernel_rfl) (by kernel_rfl) (by kernel_rfl) (fun _ _ _ h => h) (Or.inl ⟨by rfl, ?_⟩) (by assumption) ?_
                rotate_left
                · (intro w hSw; (try dsimp only at hSw); go_simp) <;> with_reducible rfl
                try simp only [Act.put, List.setIfInBounds_toArray, List.set_cons_zero, List.set_cons_succ]
                refine wpAnyH_take (i := 27) (v := ?_) (opAt rfl) (by kernel_rfl) (by kernel_rfl) (by kernel_rfl) (fun _ _ _ h => h) (Or.inl ⟨by rfl, ?_⟩) (by assumption) ?_
                rotate_left
                · (intro w hSw; (try dsimp only at hSw); go_simp) <;> with_reducible rfl
                try simp only [Act.put, List.setIfInBounds_toArray, List.set_cons_zero, List.set_cons_succ]
                refine wpAnyH_take (i := 28) (v := ?_) (opAt rfl) (by kernel_rfl) (by kernel_rfl) (by kernel_rfl) (fun _ _ _ h => h) (Or.inl ⟨by rfl, ?_⟩) (by assumption) ?_
                rotate_left
                · (intro w hSw; (try dsimp only at hSw); go_simp) <;> with_reducible rfl
                try simp only [Act.put, List.setIfInBounds_toArray, List.set_cons_zero, List.set_cons_succ]
                refine wpAnyH_done (by kernel_rfl) ?_ _
                have HRE := Lib.hid ((H5.out.up z6.ext).mono (show _ ≤ lim + 50 - 2 * j + 2 by omega)); have HOE := Lib.hid (HO5.out.up z6.ext); have HGE := Lib.hid (GB.up HG5.out z6)
                rcases hc : conflict x y with _ | _
                · go_wp2_with fail
                  have HOs := Lib.hid (Own.setI (k := m + 1) (Own.setI (k := m) (HOE.out) (by rw [Hol.out]; omega) nb) (by rw [List.length_set, Hol.out]; omega) na)
                  go_roundw
                  case rel => exact ⟨j - 1, _, by go_num, by omega, by omega, by rw [List.length_set, List.length_set]; exact Hol.out, set_in (set_in Hin.out ⟨nb0, b1⟩) ⟨na0, a1⟩, ExtR.of (GB.setNew (GB.setNew HGE.out (by omega) _ _) (by omega) _ _), (Rd.set (Rd.set HRE.out _ _ (by omega) (by omega)) _ _ (by omega) (by omega)).mono (by omega), HOs.out⟩
                  case measure => simp [intOf]; omega
                · go_wp2_with fail
                  go_roundw
                  case rel => exact ⟨j - 1, o, by go_num, by omega, by omega, Hol.out, Hin.out, ExtR.of HGE.out, HRE.out.mono (by omega), HOE.out⟩
                  case measure => simp [intOf]; omega
              exact AllReadyH.nil
            · refine wpAnyH_take (i := 2) (v := ?_) (opAt rfl) (by kernel_rfl) (by kernel_rfl) (by kernel_rfl) (fun _ _ _ h => h) (Or.inl ⟨by rfl, ?_⟩) (by assumption) ?_
              rotate_left
              · (intro w hSw; (try dsimp only at hSw); go_simp) <;> with_reducible rfl
              try simp only [Act.put, List.setIfInBounds_toArray, List.set_cons_zero, List.set_cons_succ]
              refine wpAnyH_take (i := 3) (v := ?_) (opAt rfl) (by kernel_rfl) (by kernel_rfl) (by kernel_rfl) (fun _ _ _ h => h) (Or.inl ⟨by rfl, ?_⟩) (by assumption) ?_
              rotate_left
              · (intro w hSw; (try dsimp only at hSw); go_simp) <;> with_reducible rfl
              try simp only [Act.put, List.setIfInBounds_toArray, List.set_cons_zero, List.set_cons_succ]
              refine wpAnyH_take (i := 4) (v := undef) (opAt rfl) (by kernel_rfl) (by kernel_rfl) (by kernel_rfl) (fun _ _ _ h => h) (Or.inr ⟨by rfl, rfl⟩) (by assumption) ?_
              try simp only [Act.put, List.setIfInBounds_toArray, List.set_cons_zero, List.set_cons_succ]
              refine wpAnyH_take (i := 5) (v := undef) (opAt rfl) (by kernel_rfl) (by kernel_rfl) (by kernel_rfl) (fun _ _ _ h => h) (Or.inr ⟨by rfl, rfl⟩) (by assumption) ?_
              try simp only [Act.put, List.setIfInBounds_toArray, List.set_cons_zero, List.set_cons_succ]
              refine wpAnyH_take (i := 6) (v := undef) (opAt rfl) (by kernel_rfl) (by kernel_rfl) (by kernel_rfl) (fun _ _ _ h => h) (Or.inr ⟨by rfl, rfl⟩) (by assumption) ?_
              try simp only [Act.put, List.setIfInBounds_toArray, List.set_cons_zero, List.set_cons_succ]
              refine wpAnyH_take (i := 7) (v := undef) (opAt rfl) (by kernel_rfl) (by kernel_rfl) (by kernel_rfl) (fun _ _ _ h => h) (Or.inr ⟨by rfl, rfl⟩) (by assumption) ?_
              try simp only [Act.put, List.setIfInBounds_toArray, List.set_cons_zero, List.set_cons_succ]
              refine wpAnyH_take (i := 8) (v := undef) (opAt rfl) (by kernel_rfl) (by kernel_rfl) (by kernel_rfl) (fun _ _ _ h => h) (Or.inr ⟨by rfl, rfl⟩) (by assumption) ?_
              try simp only [Act.put, List.setIfInBounds_toArray, List.set_cons_zero, List.set_cons_succ]
              refine wpAnyH_take (i := 9) (v := undef) (opAt rfl) (by kernel_rfl) (by kernel_rfl) (by kernel_rfl) (fun _ _ _ h => h) (Or.inr ⟨by rfl, rfl⟩) (by assumption) ?_
              try simp only [Act.put, List.setIfInBounds_toArray, List.set_cons_zero, List.set_cons_succ]
              refine wpAnyH_take (i := 10) (v := undef) (opAt rfl) (by kernel_rfl) (by kernel_rfl) (by kernel_rfl) (fun _ _ _ h => h) (Or.inr ⟨by rfl, rfl⟩) (by assumption) ?_
              try simp only [Act.put, List.setIfInBounds_toArray, List.set_cons_zero, List.set_cons_succ]
              refine wpAnyH_take (i := 11) (v := undef) (opAt rfl) (by kernel_rfl) (by kernel_rfl) (by kernel_rfl) (fun _ _ _ h => h) (Or.inr ⟨by rfl, rfl⟩) (by assumption) ?_
              try simp only [Act.put, List.setIfInBounds_toArray, List.set_cons_zero, List.set_cons_succ]
              refine wpAnyH_take (i := 12) (v := undef) (opAt rfl) (by kernel_rfl) (by kernel_rfl) (by kernel_rfl) (fun _ _ _ h => h) (Or.inr ⟨by rfl, rfl⟩) (by assumption) ?_
              try simp only [Act.put, List.setIfInBounds_toArray, List.set_cons_zero, List.set_cons_succ]
              refine wpAnyH_take (i := 13) (v := undef) (opAt rfl) (by kernel_rfl) (by kernel_rfl) (by kernel_rfl) (fun _ _ _ h => h) (Or.inr ⟨by rfl, rfl⟩) (by assumption) ?_
              try simp only [Act.put, List.setIfInBounds_toArray, List.set_cons_zero, List.set_cons_succ]
              refine wpAnyH_take (i := 14) (v := undef) (opAt rfl) (by kernel_rfl) (by kernel_rfl) (by kernel_rfl) (fun _ _ _ h => h) (Or.inr ⟨by rfl, rfl⟩) (by assumption) ?_
              try simp only [Act.put, List.setIfInBounds_toArray, List.set_cons_zero, List.set_cons_succ]
              refine wpAnyH_take (i := 15) (v := undef) (opAt rfl) (by kernel_rfl) (by kernel_rfl) (by kernel_rfl) (fun _ _ _ h => h) (Or.inr ⟨by rfl, rfl⟩) (by assumption) ?_
              try simp only [Act.put, List.setIfInBounds_toArray, List.set_cons_zero, List.set_cons_succ]
              refine wpAnyH_take (i := 16) (v := undef) (opAt rfl) (by kernel_rfl) (by kernel_rfl) (by kernel_rfl) (fun _ _ _ h => h) (Or.inr ⟨by rfl, rfl⟩) (by assumption) ?_
              try simp only [Act.put, List.setIfInBounds_toArray, List.set_cons_zero, List.set_cons_succ]
              refine wpAnyH_take (i := 17) (v := undef) (opAt rfl) (by kernel_rfl) (by kernel_rfl) (by kernel_rfl) (fun _ _ _ h => h) (Or.inr ⟨by rfl, rfl⟩) (by assumption) ?_
              try simp only [Act.put, List.setIfInBounds_toArray, List.set_cons_zero, List.set_cons_succ]
              refine wpAnyH_take (i := 18) (v := undef) (opAt rfl) (by kernel_rfl) (by kernel_rfl) (by kernel_rfl) (fun _ _ _ h => h) (Or.inr ⟨by rfl, rfl⟩) (by assumption) ?_
              try simp only [Act.put, List.setIfInBounds_toArray, List.set_cons_zero, List.set_cons_succ]
              refine wpAnyH_take (i := 19) (v := undef) (opAt rfl) (by kernel_rfl) (by kernel_rfl) (by kernel_rfl) (fun _ _ _ h => h) (Or.inr ⟨by rfl, rfl⟩) (by assumption) ?_
              try simp only [Act.put, List.setIfInBounds_toArray, List.set_cons_zero, List.set_cons_succ]
              refine wpAnyH_take (i := 20) (v := undef) (opAt rfl) (by kernel_rfl) (by kernel_rfl) (by kernel_rfl) (fun _ _ _ h => h) (Or.inr ⟨by rfl, rfl⟩) (by assumption) ?_
              try simp only [Act.put, List.setIfInBounds_toArray, List.set_cons_zero, List.set_cons_succ]
              refine wpAnyH_take (i := 21) (v := undef) (opAt rfl) (by kernel_rfl) (by kernel_rfl) (by kernel_rfl) (fun _ _ _ h => h) (Or.inr ⟨by rfl, rfl⟩) (by assumption) ?_
              try simp only [Act.put, List.setIfInBounds_toArray, List.set_cons_zero, List.set_cons_succ]
              refine wpAnyH_take (i := 22) (v := undef) (opAt rfl) (by kernel_rfl) (by kernel_rfl) (by kernel_rfl) (fun _ _ _ h => h) (Or.inr ⟨by rfl, rfl⟩) (by assumption) ?_
              try simp only [Act.put, List.setIfInBounds_toArray, List.set_cons_zero, List.set_cons_succ]
              refine wpAnyH_take (i := 23) (v := undef) (opAt rfl) (by kernel_rfl) (by kernel_rfl) (by kernel_rfl) (fun _ _ _ h => h) (Or.inr ⟨by rfl, rfl⟩) (by assumption) ?_
              try simp only [Act.put, List.setIfInBounds_toArray, List.set_cons_zero, List.set_cons_succ]
              refine wpAnyH_take (i := 24) (v := undef) (opAt rfl) (by kernel_rfl) (by kernel_rfl) (by kernel_rfl) (fun _ _ _ h => h) (Or.inr ⟨by rfl, rfl⟩) (by assumption) ?_
              try simp only [Act.put, List.setIfInBounds_toArray, List.set_cons_zero, List.set_cons_succ]
              refine wpAnyH_take (i := 25) (v := undef) (opAt rfl) (by kernel_rfl) (by kernel_rfl) (by kernel_rfl) (fun _ _ _ h => h) (Or.inr ⟨by rfl, rfl⟩) (by assumption) ?_
              try simp only [Act.put, List.setIfInBounds_toArray, List.set_cons_zero, List.set_cons_succ]
              refine wpAnyH_take (i := 26) (v := undef) (opAt rfl) (by kernel_rfl) (by kernel_rfl) (by kernel_rfl) (fun _ _ _ h => h) (Or.inr ⟨by rfl, rfl⟩) (by assumption) ?_
              try simp only [Act.put, List.setIfInBounds_toArray, List.set_cons_zero, List.set_cons_succ]
              refine wpAnyH_take (i := 27) (v := undef) (opAt rfl) (by kernel_rfl) (by kernel_rfl) (by kernel_rfl) (fun _ _ _ h => h) (Or.inr ⟨by rfl, rfl⟩) (by assumption) ?_
              try simp only [Act.put, List.setIfInBounds_toArray, List.set_cons_zero, List.set_cons_succ]
              refine wpAnyH_take (i := 28) (v := ?_) (opAt rfl) (by kernel_rfl) (by kernel_rfl) (by kernel_rfl) (fun _ _ _ h => h) (Or.inl ⟨by rfl, ?_⟩) (by assumption) ?_
              rotate_left
              · (intro w hSw; (try dsimp only at hSw); go_simp) <;> with_reducible rfl
              try simp only [Act.put, List.setIfInBounds_toArray, List.set_cons_zero, List.set_cons_succ]
              refine wpAnyH_done (by kernel_rfl) ?_ _
              have HRE := Lib.hid (H5.out.mono (show _ ≤ lim + 50 - 2 * j + 2 by omega)); have HOE := HO5; have HGE := HG5
              go_wp2_with fail
              have HOs := Lib.hid (Own.setI (k := m + 1) (Own.setI (k := m) (HOE.out) (by rw [Hol.out]; omega) nb) (by rw [List.length_set, Hol.out]; omega) na)
              go_roundw
              case rel => exact ⟨j - 1, _, by go_num, by omega, by omega, by rw [List.length_set, List.length_set]; exact Hol.out, set_in (set_in Hin.out ⟨nb0, b1⟩) ⟨na0, a1⟩, ExtR.of (GB.setNew (GB.setNew HGE.out (by omega) _ _) (by omega) _ _), (Rd.set (Rd.set HRE.out _ _ (by omega) (by omega)) _ _ (by omega) (by omega)).mono (by omega), HOs.out⟩
              case measure => simp [intOf]; omega
          exact AllReadyH.nil
end Go.Proofs.Ytkboefmkfpnpjaa
namespace Go.Proofs.Ytkboefmkfpnpjaa
open Go Go.RowKit Go.Proofs

set_option maxHeartbeats 1000000 in
theorem sameEffects_same (es : List Eff) (v v' : Value) (w : World) (h : SE w v es) (h' : SE w v' es) :
    Calls Try.prog 25 #[v, v'] w fun e w' => e = .returned (.bool true) ∧ Up w w' := by
  obtain ⟨a, cap, rfl, hlen, hcap, hc⟩ := h.open
  obtain ⟨a', cap', rfl, _, hcap', hc'⟩ := h'.open
  clear h h' hcap hcap'
  go_enter Try.func25, Try.ntmps25
  go_wp2_with fail
  go_loopw [5] (fun s5 wr => ∃ (k : Nat), s5 = .int .i64 k ∧ k ≤ es.length ∧ Up w wr) (fun s5 _ => es.length - (intOf s5).toNat)
  case atStart => exact ⟨0, rfl, Nat.zero_le _, .of (Ext.refl _)⟩
  case round =>
    obtain ⟨k, rfl, hk, ⟨z, rfl⟩⟩ := hrel
    by_cases hlt : k < es.length
    · obtain ⟨x, hxk⟩ := getElem?_some_of_lt hlt
      obtain ⟨b, off, q1, d1, q2, d2, rfl, hb, e0, e1, e2, s1, s2⟩ := hc k x hxk
      obtain ⟨b', off', q3, d3, q4, d4, rfl, hb', g0, g1, g2, s3, s4⟩ := hc' k x hxk
      have k0 : (0 : Int) ≤ (k : Int) := by omega
      have S1 := Lib.hid s1; have S2 := Lib.hid s2; have S3 := Lib.hid s3; have S4 := Lib.hid s4
      clear hc hc' hxk s1 s2 s3 s4
      go_wp2_with fail
      (refine wp_region_up (by kernel_rfl) (by kernel_rfl) ?_; (repeat (go_big_quiet_step ((go_at_call 21; exact Calls.up (sameEffect_same x.d x.r x.w _ _ _ _ _ (S1.out.up (by repeat (first | (with_reducible exact Ext.refl _) | (with_reducible refine Ext.up ?_ _) | (with_reducible refine Ext.alloc ?_ _) | (with_reducible refine Ext.drew ?_) | (with_reducible refine Ext.setRow ?_ (by first | exact LeS.le | exact LeS.add _ | (simp; done) | (simp; omega)) _) | (with_reducible refine Ext.setCell ?_ (by first | exact LeS.le | exact LeS.add _ | (simp; done) | (simp; omega)) _)))) (S2.out.up (by repeat (first | (with_reducible exact Ext.refl _) | (with_reducible refine Ext.up ?_ _) | (with_reducible refine Ext.alloc ?_ _) | (with_reducible refine Ext.drew ?_) | (with_reducible refine Ext.setRow ?_ (by first | exact LeS.le | exact LeS.add _ | (simp; done) | (simp; omega)) _) | (with_reducible refine Ext.setCell ?_ (by first | exact LeS.le | exact LeS.add _ | (simp; done) | (simp; omega)) _)))) (S3.out.up (by repeat (first | (with_reducible exact Ext.refl _) | (with_reducible refine Ext.up ?_ _) | (with_reducible refine Ext.alloc ?_ _) | (with_reducible refine Ext.drew ?_) | (with_reducible refine Ext.setRow ?_ (by first | exact LeS.le | exact LeS.add _ | (simp; done) | (simp; omega)) _) | (with_reducible refine Ext.setCell ?_ (by first | exact LeS.le | exact LeS.add _ | (simp; done) | (simp; omega)) _)))) (S4.out.up (by repeat (first | (with_reducible exact Ext.refl _) | (with_reducible refine Ext.up ?_ _) | (with_reducible refine Ext.alloc ?_ _) | (with_reducible refine Ext.drew ?_) | (with_reducible refine Ext.setRow ?_ (by first | exact LeS.le | exact LeS.add _ | (simp; done) | (simp; omega)) _) | (with_reducible refine Ext.setCell ?_ (by first | exact LeS.le | exact LeS.add _ | (simp; done) | (simp; omega)) _))))))))); refine wpQuiet_nil ?_; intro _ hw'; obtain ⟨zq, hw''⟩ := hw'; subst hw'')
      go_wp2_with fail
      go_roundw
      case rel => exact ⟨k + 1, by go_num, by omega, (.of (by repeat (first | (with_reducible exact Ext.refl _) | (with_reducible refine Ext.up ?_ _) | (with_reducible refine Ext.alloc ?_ _) | (with_reducible refine Ext.drew ?_) | (with_reducible refine Ext.setRow ?_ (by first | exact LeS.le | exact LeS.add _ | (simp; done) | (simp; omega)) _) | (with_reducible refine Ext.setCell ?_ (by first | exact LeS.le | exact LeS.add _ | (simp; done) | (simp; omega)) _))))⟩
      case measure => simp [intOf]; omega
    · go_wp2_with fail
      go_ret
      exact ⟨rfl, z, rfl⟩
set_option maxRecDepth 100000 in
set_option maxHeartbeats 1000000 in
theorem drawRunOrder_any (bs : List Int) (v : Value) (w : World) (h : SL (RF encU) 1 w v bs) (hb : ∀ b ∈ bs, 0 ≤ b ∧ b ≤ 255) :
    Calls Try.prog 22 #[v] w fun e w' => ∃ vs vl vo s l o, e = .returned (.tuple #[vs, vl, vo]) ∧ Up w w' ∧ s.length ≤ 33 ∧ l.length ≤ 11 ∧ o.length ≤ 100 ∧ SL (RF Ent.enc) 2 w' vs s ∧ SL (RF Actn.enc) 4 w' vl l ∧ SL (RF encI) 1 w' vo o := by
  have H := Lib.hid h; clear h
  go_enter Try.func22, Try.ntmps22
  go_wp2_with fail
  refine (open_any bs v _ H.out hb).mono ?_; rintro e w' ⟨rb, rfl, ⟨z0, rfl⟩, hr⟩
  have H0 := Lib.hid hr
  have Hold := Lib.hid hr.old
  have hrb := hr.lt
  clear hr
  go_wp2_with fail
  refine (drawStore_any _ _ rb _ 14 H0.out (by omega) (by omega) (by omega)).mono ?_; rintro e w' ⟨ys, s, rfl, hs, _, ⟨z1, rfl⟩, hr, hos⟩
  have H1 := Lib.hid hr; have HS := Lib.hid hos; clear hr hos
  go_wp2_with fail
  refine (actions_any _ _ rb _ 14 H1.out (by omega) (by omega) (by omega)).mono ?_; rintro e w' ⟨yl, l, rfl, hl, _, _, ⟨z2, rfl⟩, hr, hol⟩
  have H2 := Lib.hid hr; have HL := Lib.hid hol; clear hr hol
  have hz := z1.grown.size
  have hr1 : rb < z1.val.heap.size := Nat.lt_of_lt_of_le hrb hz
  go_wp2_with fail
  refine (order_any _ _ rb _ _ l yl H2.out (by omega) HL.out hr1 hl).mono ?_; rintro e w' ⟨yo, o, rfl, ho, ⟨z3, rfl⟩, hr, hoo⟩
  have HO := Lib.hid hoo
  have E : Ext w z3.val := Ext.upR (Ext.upR (Ext.upR z0.ext Hold.out z1) Hold.out z2) Hold.out z3
  have HE := Lib.hid E
  clear hr hoo E
  go_wp2_with fail
  refine bodyPost_ret (v := .tuple #[ys, yl, yo]) (by simp [results, Try.results22, go_sem]) rfl ?_
  exact ⟨_, _, _, s, l, o, rfl, .of HE.out, hs, hl, ho, ((HS.out.upR hrb z2).upR hrb z3).sl Ent.enc_length, (HL.out.upR hr1 z3).sl Actn.enc_length, HO.out.sl encI_length⟩
end Go.Proofs.Ytkboefmkfpnpjaa
