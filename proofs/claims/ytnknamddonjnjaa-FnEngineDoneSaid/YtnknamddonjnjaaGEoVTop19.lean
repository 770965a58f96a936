/- Walks: versions with those of an action: the program's side, with slices.SortFunc by its contract of the kit's shelf. Walks: engines on the program's side: EngineValid. -/
import Derived.Test.YtnknamddonjnjaaGEoVTop18
import Derived.Test.YtnknamddonjnjaaGEoVTop02
import Derived.Test.YtnknamddonjnjaaGEoVTop01
import Derived.Test.YtnknamddonjnjaaGEoVTop17
set_option linter.unusedSimpArgs false
set_option linter.unusedVariables false
namespace Go.Proofs.Ytnknamddonjnjaa
open Go Go.RowKit Go.Proofs Go.Sort

theorem flatK_list {α : Type} [Inhabited α] (enc : α → List Value) {k : Nat} (hk : ∀ x, (enc x).length = k) (d : Array α) : (flatK enc k d).toList = d.toList.flatMap enc := by
  apply List.ext_getElem?
  intro t
  by_cases ht : t < d.size * k
  · have k0 : 0 < k := by
      rcases Nat.eq_zero_or_pos k with h | h
      · subst h; simp at ht
      · exact h
    have hq : t / k < d.size := Nat.div_lt_of_lt_mul (by rwa [Nat.mul_comm])
    have hm : t % k < k := Nat.mod_lt _ k0
    have hx : d.toList[t / k]? = some d[t / k] := by simp [hq]
    obtain ⟨u, hu⟩ := getElem?_some_of_lt (l := enc d[t / k]) (k := t % k) (by rw [hk]; exact hm)
    have := flatMap_get hk hx hu
    rw [Nat.div_add_mod'] at this
    rw [this, Array.getElem?_toList, Array.getElem?_eq_getElem (by simpa using ht)]
    have h2 := get_flatK enc k d t ht
    rw [getElem!_pos _ t (by simpa using ht)] at h2
    rw [h2, getElem!_pos d _ hq]
    obtain ⟨h3, h4⟩ := List.getElem?_eq_some_iff.1 hu
    rw [getElem!_pos (enc d[t / k]) (t % k) h3, h4]
  · rw [List.getElem?_eq_none (by simpa using Nat.le_of_not_lt ht), List.getElem?_eq_none (by rw [flatMap_length hk]; simpa using Nat.le_of_not_lt ht)]
theorem verOrd_lt (x y : Ver) : verOrd x y < 0 ↔ (x.k < y.k ∨ x.k = y.k ∧ x.b < y.b) := by
  unfold verOrd or2
  split <;> omega
/-- Versions in range. -/
abbrev VerI := {x : Ver // verIn x = true}
theorem VerI.of (l : List Ver) (h : ∀ x ∈ l, verIn x = true) : ∃ d : Array VerI, d.toList.map (·.1) = l :=
  ⟨(l.attachWith _ h).toArray, by simp⟩
instance VerI.inh : Inhabited VerI := ⟨⟨⟨0, 0, 0⟩, by decide⟩⟩
def VerI.enc (x : VerI) : List Value := x.1.enc
theorem VerI.flat (d : Array VerI) : (flatK VerI.enc 3 d).toList = (d.toList.map (·.1)).flatMap Ver.enc := by
  rw [flatK_list VerI.enc (fun _ => rfl), List.flatMap_map]; rfl
theorem swoV : SWO (Go.Proofs.ltOf fun x y : VerI => verOrd x.1 y.1) where
  irrefl x := by
    have : ¬ verOrd x.1 x.1 < 0 := by rw [verOrd_lt]; omega
    simpa [Go.Proofs.ltOf] using this
  trans x y z h1 h2 := by
    simp only [Go.Proofs.ltOf, decide_eq_true_eq] at *
    rw [verOrd_lt] at *; omega
  ntrans x y z h1 h2 := by
    simp only [Go.Proofs.ltOf, decide_eq_false_iff_not] at *
    rw [verOrd_lt] at *; omega
theorem versionOrder_gr (x y : Ver) (w : World) (h1 : inR x.k 0 31 = true) (h2 : inR y.k 0 31 = true) (h3 : inR x.b 0 9 = true) (h4 : inR y.b 0 9 = true) :
    Calls Try.prog 46 #[.agg #[.int .i64 x.k, .int .i64 x.b, .int .i64 x.v], .agg #[.int .i64 y.k, .int .i64 y.b, .int .i64 y.v]] w
      fun e w' => e = .returned (.int .i64 (verOrd x y)) ∧ GR w w' := by
  obtain ⟨h1, h1'⟩ := inR_iff.1 h1; obtain ⟨h2, h2'⟩ := inR_iff.1 h2; obtain ⟨h3, h3'⟩ := inR_iff.1 h3; obtain ⟨h4, h4'⟩ := inR_iff.1 h4
  go_enter Try.func46, Try.ntmps46
  go_wp2_with (go_at_call 75; refine (cmpOr2 (x.k - y.k) (x.b - y.b) _ _ (by go_simp) (by go_simp)).mono ?_; rintro e w' ⟨rfl, rfl⟩)
  go_ret
  exact ⟨rfl, (((GR.refl _).alloc _).alloc _).alloc _⟩
theorem holdsV {e lo g c : Nat} {w : World} {d : Array VerI} {l : List Ver} (hl : d.toList.map (·.1) = l) (h : Own Ver.enc e 3 lo w (.slice (some ⟨g, 0, none⟩) l.length c) l) : HoldsK VerI.enc 3 w g 0 d := by
  intro j hj
  have hsz : d.size = l.length := by rw [← hl]; simp
  have hj' : j < l.length * 3 := by rw [size_flatK, hsz] at hj; exact hj
  have h' : w.ownsRow lo e 3 (.slice (some ⟨g, 0, none⟩) l.length c) l.length (l.flatMap Ver.enc) := h
  have hc := h'.cellAt j (by omega)
  refine ⟨?_, h'.frozenAt (0 + j)⟩
  rw [Nat.zero_add, hc, ← hl, ← VerI.flat, Array.getElem?_toList, getElem!_pos _ j hj, Array.getElem?_eq_getElem hj]
  rfl
set_option maxRecDepth 100000 in
set_option maxHeartbeats 1000000 in
theorem sortVer_any (l : List Ver) (hl : ∀ x ∈ l, verIn x = true) (hlen : l.length ≤ 100000000) (g c lo : Nat) (W : World) (ho : Own Ver.enc 32 3 lo W (.slice (some ⟨g, 0, none⟩) l.length c) l) :
    Calls Try.prog 45 #[.slice (some ⟨g, 0, none⟩) l.length c, .func (.func 46) #[] #[]] W fun e w' => e = .returned (.tuple #[]) ∧ W.grownBy w' (some g) ∧
      ∃ m : List Ver, m.Perm l ∧ m.Pairwise (fun a b => verLt b a = false) ∧ Own Ver.enc 32 3 lo w' (.slice (some ⟨g, 0, none⟩) l.length c) m := by
  obtain ⟨d, hd⟩ := VerI.of l hl
  have hsz : d.size = l.length := by rw [← hd]; simp
  have eg : ∀ args w, (callFunc 46 args).run Try.prog w = .ok (.enter 46 args) w := enters_of Try.func46 (by kernel_rfl) rfl
  have ho' : W.ownsRow lo 32 3 (.slice (some ⟨g, 0, none⟩) l.length c) l.length (l.flatMap Ver.enc) := ho
  have hblk : g < W.heap.size := (World.ownsRow.lt ho' g rfl).2
  have hcmp : CmpLays Try.prog 46 #[] VerI.enc 3 (fun x y : VerI => verOrd x.1 y.1) g 0 d.size W := by
    intro m os dk _ x y
    have hx := x.2; have hy := y.2
    simp only [verIn, Bool.and_eq_true] at hx hy
    exact versionOrder_gr x.1 y.1 _ hx.1 hy.1 hx.2.1 hy.2.1
  have hcon := AnyQ.slices_SortFunc Try.sortVer 3 (fun _ => by kernel_rfl) (fun _ => by kernel_rfl) VerI.enc (fun _ => rfl) (fun x => oneV x.1) (fun x y : VerI => verOrd x.1 y.1) swoV 46 #[] g 0 c d W eg hcmp (holdsV hd ho) hblk (by omega)
  rw [hsz] at hcon
  refine hcon.mono ?_
  rintro e w' ⟨he, d', q, os, hp, hs, rfl⟩
  have hdl : d'.size = l.length := by rw [hp.1]; omega
  have hr := ownsRow_putL id (n := q) os (flatK VerI.enc 3 d') ho' (by rw [size_flatK, hdl])
  rw [List.map_id, VerI.flat] at hr
  have hgb := grownBy_putL id (w := W) (g := g) (n := q) (os := os) (flatK VerI.enc 3 d')
  have e1 := extract_all d' hdl
  have e2 := extract_all d hsz
  have hperm := hp.2.2
  rw [e1, e2] at hperm
  refine ⟨he, hgb, d'.toList.map (·.1), ?_, ?_, ?_⟩
  · have := List.Perm.map (fun x : VerI => x.1) hperm
    rw [hd] at this
    exact this
  · rw [List.pairwise_map, List.pairwise_iff_getElem]
    intro i j hi hj hij
    have hi' : i < d'.size := by simpa using hi
    have hj' : j < d'.size := by simpa using hj
    have h1 := hs i j (Nat.zero_le _) hij (by omega)
    rw [getElem!_pos d' j hj', getElem!_pos d' i hi'] at h1
    simp only [Go.Proofs.ltOf, decide_eq_false_iff_not] at h1
    simp only [Array.getElem_toList, verLt, decide_eq_false_iff_not]
    exact h1
  · show World.ownsRow _ _ _ _ _ _ _
    rw [show (d'.toList.map (fun x : VerI => x.1)).length = l.length from by simp [hdl]]
    exact hr
theorem mkV_snoc (by_ : Int) {u : List Ent} {k : Nat} {e : Ent} (h : u[k]? = some e) : (u.take (k + 1)).map (mkV by_) = (u.take k).map (mkV by_) ++ [mkV by_ e] := by
  rw [List.take_add_one, h]; simp
theorem mkV_in {by_ : Int} {u : List Ent} (hb : inR by_ 0 9 = true) (hu : entsOk 0 u = true) : ∀ x ∈ u.map (mkV by_), verIn x = true := by
  intro x hx
  obtain ⟨e, he, rfl⟩ := List.mem_map.1 hx
  have := entsOk_mem hu he
  simp only [verIn, mkV, Bool.and_eq_true, inR_iff]
  exact ⟨⟨by omega, by omega⟩, inR_iff.1 hb, by omega, by omega⟩
set_option maxRecDepth 100000 in
set_option maxHeartbeats 1000000 in
theorem withWrites_any (l : List Ver) (u : List Ent) (v vu : Value) (by_ : Int) (w : World) (h : SL (RF Ver.enc) 3 w v l) (hu : SL (RF Ent.enc) 2 w vu u) (hn : l.length ≤ 1048576) (hun : u.length ≤ 1048576) (hok : versOk l = true) (hb : inR by_ 0 9 = true) (huo : entsOk 0 u = true) :
    Calls Try.prog 17 #[v, .int .i64 by_, vu] w fun e w' => ∃ v', e = .returned v' ∧ Up w w' ∧ Own Ver.enc 32 3 w.heap.size w' v' (putV l by_ u) := by
  have H := Lib.hid h
  obtain ⟨p, c, rfl, _, _⟩ := h.openc
  obtain ⟨pu, cu, rfl, _, hcu⟩ := hu.open
  have kw := fun w h => without_any l (.slice p l.length c) by_ w h (by omega)
  have hdl := dropV_le l by_
  have hq := Lib.hid (fun m hp hs => putV_unique (by_ := by_) (m := m) (vers_sorted hok) (asc_of huo) hp hs)
  have hin := Lib.hid (fun x (hx : x ∈ dropV l by_) => versOk_mem hok (dropV_ne hx).1)
  have hin2 := Lib.hid (mkV_in hb huo)
  clear h hu hok hb huo
  generalize dropV l by_ = D at *
  generalize putV l by_ u = R at *
  go_enter Try.func17, Try.ntmps17
  go_wp2_with fail
  refine (kw _ (H.out.up (by repeat (first | (with_reducible exact Ext.refl _) | (with_reducible refine Ext.up ?_ _) | (with_reducible refine Ext.alloc ?_ _) | (with_reducible refine Ext.drew ?_) | (with_reducible refine Ext.setRow ?_ (by first | exact LeS.le | exact LeS.add _ | (simp; done) | (simp; omega)) _) | (with_reducible refine Ext.setCell ?_ (by first | exact LeS.le | exact LeS.add _ | (simp; done) | (simp; omega)) _))))).mono ?_; rintro e w' ⟨y, rfl, ⟨z1, rfl⟩, oy⟩
  obtain ⟨p1, c1, rfl, _, _⟩ := (oy.sl Ver.enc_length).openc
  have OY := Lib.hid (oy.lo (lo' := w.heap.size) LeS.le); clear oy
  go_wp2_with fail
  go_loopw [7, 9, 15] (fun s7 _ s15 wr => ∃ (k : Nat), s15 = .int .i64 k ∧ k ≤ u.length ∧ Up w wr ∧ Own Ver.enc 32 3 w.heap.size wr s7 (D ++ (u.take k).map (mkV by_))) (fun _ _ s15 _ => u.length - (intOf s15).toNat)
  case atStart => exact ⟨0, rfl, Nat.zero_le _, ⟨⟨_, (by repeat (first | (with_reducible exact Ext.refl _) | (with_reducible refine Ext.up ?_ _) | (with_reducible refine Ext.alloc ?_ _) | (with_reducible refine Ext.drew ?_) | (with_reducible refine Ext.setRow ?_ (by first | exact LeS.le | exact LeS.add _ | (simp; done) | (simp; omega)) _) | (with_reducible refine Ext.setCell ?_ (by first | exact LeS.le | exact LeS.add _ | (simp; done) | (simp; omega)) _)))⟩, rfl⟩, by rw [List.take_zero, List.map_nil, List.append_nil]; exact OY.out⟩
  case round =>
    obtain ⟨k, rfl, hk, ⟨z, rfl⟩, hown⟩ := hrel
    by_cases hlt : k < u.length
    · obtain ⟨x, hxk⟩ := getElem?_some_of_lt hlt
      obtain ⟨b, off, rfl, hb, hcc⟩ := hcu k x hxk
      have c0 : w.cell? ⟨b, off + k * 2, none⟩ = some (.int .i64 x.k) := hcc 0 _ rfl
      have c1 : w.cell? ⟨b, off + k * 2 + 1, none⟩ = some (.int .i64 x.v) := hcc 1 _ rfl
      have hle : (D ++ (u.take k).map (mkV by_)).length ≤ 2100000 := by simp; omega
      have Hs := Lib.hid (mkV_snoc by_ hxk)
      have Hown := Lib.hid hown
      generalize (u.take k).map (mkV by_) = M at *
      clear hcc hcu hxk hown
      go_wp2_with (at_builtin; refine wpList_push1 fVer rfl (.tmp 19) (.tmp 26) rfl Ver.enc w (mkV by_ x) (D ++ M) rfl (Hown.out.up (by repeat (first | (with_reducible exact Ext.refl _) | (with_reducible refine Ext.up ?_ _) | (with_reducible refine Ext.alloc ?_ _) | (with_reducible refine Ext.drew ?_) | (with_reducible refine Ext.setRow ?_ (by first | exact LeS.le | exact LeS.add _ | (simp; done) | (simp; omega)) _) | (with_reducible refine Ext.setCell ?_ (by first | exact LeS.le | exact LeS.add _ | (simp; done) | (simp; omega)) _)))) (by repeat (first | (with_reducible exact Ext.refl _) | (with_reducible refine Ext.up ?_ _) | (with_reducible refine Ext.alloc ?_ _) | (with_reducible refine Ext.drew ?_) | (with_reducible refine Ext.setRow ?_ (by first | exact LeS.le | exact LeS.add _ | (simp; done) | (simp; omega)) _) | (with_reducible refine Ext.setCell ?_ (by first | exact LeS.le | exact LeS.add _ | (simp; done) | (simp; omega)) _))) rfl (by go_simp) rfl rfl (oneV _) (by omega) (by omega) ?_; intro v1 z5 hown1)
      have hown2 := Lib.hid hown1; clear hown1
      go_wp2_with fail
      go_roundw
      case rel => exact ⟨k + 1, by go_num, by omega, ⟨z5, rfl⟩, by rw [Hs.out, ← List.append_assoc]; exact hown2.out⟩
      case measure => simp [intOf]; omega
    · obtain rfl : k = u.length := by omega
      rw [List.take_length] at hown
      have hle : (D ++ u.map (mkV by_)).length ≤ 2100000 := by simp; omega
      have hvi : ∀ x ∈ D ++ u.map (mkV by_), verIn x = true := fun x hx => by
        rcases List.mem_append.1 hx with h | h
        · exact hin.out x h
        · exact hin2.out x h
      have Hvi := Lib.hid hvi; clear hvi
      generalize D ++ u.map (mkV by_) = L at *
      clear hcu
      by_cases hn0 : L = []
      · subst hn0
        have hR : [] = R := hq.out [] (List.Perm.refl _) List.Pairwise.nil
        subst hR
        obtain ⟨p4, c4, rfl, _, _⟩ := (hown.sl Ver.enc_length).openc
        have HO := Lib.hid hown; clear hown
        go_wp2_with fail
        refine (AnyF.slices_SortFunc_none { Try.sortVer with } p4 c4 _ _).mono ?_; rintro e w' ⟨rfl, rfl⟩
        go_wp2_with fail
        go_ret
        exact ⟨_, rfl, (.of (by repeat (first | (with_reducible exact Ext.refl _) | (with_reducible refine Ext.up ?_ _) | (with_reducible refine Ext.alloc ?_ _) | (with_reducible refine Ext.drew ?_) | (with_reducible refine Ext.setRow ?_ (by first | exact LeS.le | exact LeS.add _ | (simp; done) | (simp; omega)) _) | (with_reducible refine Ext.setCell ?_ (by first | exact LeS.le | exact LeS.add _ | (simp; done) | (simp; omega)) _)))), HO.out.up (by repeat (first | (with_reducible exact Ext.refl _) | (with_reducible refine Ext.up ?_ _) | (with_reducible refine Ext.alloc ?_ _) | (with_reducible refine Ext.drew ?_) | (with_reducible refine Ext.setRow ?_ (by first | exact LeS.le | exact LeS.add _ | (simp; done) | (simp; omega)) _) | (with_reducible refine Ext.setCell ?_ (by first | exact LeS.le | exact LeS.add _ | (simp; done) | (simp; omega)) _)))⟩
      · obtain ⟨g, c4, rfl⟩ := Own.ne' hown hn0
        have HO := Lib.hid hown
        have hg := (World.ownsRow.lt hown g rfl).1
        clear hown
        go_wp2_with fail
        refine (sortVer_any L Hvi.out (by omega) g c4 _ _ HO.out).mono ?_; rintro e w' ⟨rfl, hgr, m, hmp, hms, hmo⟩
        have hm := hq.out m hmp hms
        subst hm
        have E : Ext w w' := Ext.grown (b := z.val) (by repeat (first | (with_reducible exact Ext.refl _) | (with_reducible refine Ext.up ?_ _) | (with_reducible refine Ext.alloc ?_ _) | (with_reducible refine Ext.drew ?_) | (with_reducible refine Ext.setRow ?_ (by first | exact LeS.le | exact LeS.add _ | (simp; done) | (simp; omega)) _) | (with_reducible refine Ext.setCell ?_ (by first | exact LeS.le | exact LeS.add _ | (simp; done) | (simp; omega)) _))) hgr (fun k hk => by cases hk; exact hg)
        have hml : m.length = L.length := hmp.length_eq
        have HM := Lib.hid hmo
        clear hgr hmo hmp hms
        go_wp2_with fail
        go_ret
        exact ⟨_, rfl, .of E, HM.out⟩
end Go.Proofs.Ytnknamddonjnjaa
namespace Go.Proofs.Ytnknamddonjnjaa
open Go Go.RowKit Go.Proofs

theorem ckAt_two {e : Eng} {k : Nat} {t : Slt} (ht : e.sl[k]? = some t) (h2 : t.st = 2) : ckAt e k = ((decide (k = 0) || match e.sl[k - 1]? with | some p => p.st == 2 | none => true) && curOk e.base e.vers k t) := by
  simp only [ckAt, ht, h2, if_true]
  rfl
theorem ckAt_other {e : Eng} {k : Nat} {t : Slt} (ht : e.sl[k]? = some t) (h2 : t.st ≠ 2) : ckAt e k = true := by
  simp [ckAt, ht, h2]
theorem sltTry_parts {x : Actn} {n : Int} {t : Slt} (h : sltOk x n t = true) (h0 : t.st ≠ 0) : t.e.r.length = x.rk.length ∧ t.f.length = x.rk.length ∧ ∀ (i : Nat) y k, t.e.r[i]? = some y → x.rk[i]? = some k → y.k = k := by
  unfold sltOk at h
  rw [if_neg h0] at h
  simp only [sltTry, Bool.and_eq_true, decide_eq_true_eq] at h
  obtain ⟨_, _, h1, h2, h3, _⟩ := h
  refine ⟨h1, h2, fun i y k hy hk => ?_⟩
  have hil := (List.getElem?_eq_some_iff.1 hy).1
  obtain ⟨q, hq⟩ := getElem?_some_of_lt (l := t.f) (k := i) (by omega)
  have := upTo_iff.1 h3 i hil
  rw [rdAt_eq hy hk hq] at this
  simp only [Bool.and_eq_true, beq_iff_eq] at this
  exact this.1
/-- The versions of the slots up to k. -/
theorem slots_vers {e : Eng} (ha : actsOk e.acts = true) (hl : e.sl.length = e.acts.length) {k : Nat} (hk : k ≤ e.sl.length) (h : upTo (slAt e) k = true) :
    versOk (versE (e.sl.map (·.e)) k) = true ∧ (versE (e.sl.map (·.e)) k).length ≤ 32 * k := by
  have h10 := actsOk_len ha
  have hw := slots_w ha hl hk h
  rw [← versE_take (e.sl.map (·.e)) k k (Nat.le_refl _)]
  exact ⟨versE_ok hw k (by omega), versE_len hw k⟩
theorem versE_slot {e : Eng} {k : Nat} {t : Slt} (ht : e.sl[k]? = some t) : versE (e.sl.map (·.e)) (k + 1) = putV (versE (e.sl.map (·.e)) k) k t.e.w := by
  rw [versE_next (e := t.e) (by rw [List.getElem?_map, ht]; rfl)]
theorem st_prev {a b : Nat} (ha : 0 < a) : decide (a = 0) = false := by simp; omega
set_option maxRecDepth 100000 in
set_option maxHeartbeats 4000000 in
theorem iEngineValid_any (e : Eng) (v0 v1 v2 v3 : Value) (w : World) (h : SG w v0 v1 v2 v3 e) (hvl : e.vers.length ≤ 1048576) :
    Calls Try.prog 6 #[.agg #[v0, v1, v2, v3]] w fun ed w' => ed = .returned (.bool e.ok) ∧ Up w w' := by
  have HG := Lib.hid h
  obtain ⟨p0, c0, rfl, _, _⟩ := h.base.openc
  obtain ⟨p1, c1, rfl, _, _⟩ := h.acts.openc
  obtain ⟨p2, c2, rfl, _, _⟩ := h.vers.openc
  obtain ⟨p3, c3, rfl, _, hcs⟩ := h.sl.open
  have HCS := Lib.hid hcs
  have kst := fun w h => iStoreValid_any e.base (.slice p0 e.base.length c0) w h
  have kac := fun w h => iActionsValid_any e.acts (.slice p1 e.acts.length c1) w h
  have hE := Lib.hid (show e.ok = (entsOk 1 e.base && (actsOk e.acts && (decide (e.sl.length = e.acts.length) && (upTo (slAt e) e.sl.length && (sameL sameV1 (versE (e.sl.map (·.e)) e.sl.length) e.vers && upTo (ckAt e) e.sl.length))))) from rfl)
  generalize e.ok = B at *
  clear h hcs
  rcases guards3 (entsOk 1 e.base) (actsOk e.acts) (decide (e.sl.length = e.acts.length)) with g1 | ⟨g1, g2⟩ | ⟨g1, g2, g3⟩ | ⟨g1, g2, g3⟩
  · rw [g1] at kst hE
    obtain rfl : B = false := hE.out
    clear g1
    go_enter Try.func6, Try.ntmps6
    go_wp2_with fail
    refine (kst _ (HG.out.base.up (by repeat (first | (with_reducible exact Ext.refl _) | (with_reducible refine Ext.up ?_ _) | (with_reducible refine Ext.alloc ?_ _) | (with_reducible refine Ext.drew ?_) | (with_reducible refine Ext.setRow ?_ (by first | exact LeS.le | exact LeS.add _ | (simp; done) | (simp; omega)) _) | (with_reducible refine Ext.setCell ?_ (by first | exact LeS.le | exact LeS.add _ | (simp; done) | (simp; omega)) _))))).mono ?_; rintro ed w' ⟨rfl, ⟨z1, rfl⟩⟩
    go_wp2_with fail
    go_ret
    exact ⟨rfl, (.of (by repeat (first | (with_reducible exact Ext.refl _) | (with_reducible refine Ext.up ?_ _) | (with_reducible refine Ext.alloc ?_ _) | (with_reducible refine Ext.drew ?_) | (with_reducible refine Ext.setRow ?_ (by first | exact LeS.le | exact LeS.add _ | (simp; done) | (simp; omega)) _) | (with_reducible refine Ext.setCell ?_ (by first | exact LeS.le | exact LeS.add _ | (simp; done) | (simp; omega)) _))))⟩
  · rw [g1] at kst hE; rw [g2] at kac hE
    obtain rfl : B = false := hE.out
    clear g1 g2
    go_enter Try.func6, Try.ntmps6
    go_wp2_with fail
    refine (kst _ (HG.out.base.up (by repeat (first | (with_reducible exact Ext.refl _) | (with_reducible refine Ext.up ?_ _) | (with_reducible refine Ext.alloc ?_ _) | (with_reducible refine Ext.drew ?_) | (with_reducible refine Ext.setRow ?_ (by first | exact LeS.le | exact LeS.add _ | (simp; done) | (simp; omega)) _) | (with_reducible refine Ext.setCell ?_ (by first | exact LeS.le | exact LeS.add _ | (simp; done) | (simp; omega)) _))))).mono ?_; rintro ed w' ⟨rfl, ⟨z1, rfl⟩⟩
    go_wp2_with fail
    refine (kac _ (HG.out.acts.up (by repeat (first | (with_reducible exact Ext.refl _) | (with_reducible refine Ext.up ?_ _) | (with_reducible refine Ext.alloc ?_ _) | (with_reducible refine Ext.drew ?_) | (with_reducible refine Ext.setRow ?_ (by first | exact LeS.le | exact LeS.add _ | (simp; done) | (simp; omega)) _) | (with_reducible refine Ext.setCell ?_ (by first | exact LeS.le | exact LeS.add _ | (simp; done) | (simp; omega)) _))))).mono ?_; rintro ed w' ⟨rfl, ⟨z2, rfl⟩⟩
    go_wp2_with fail
    go_ret
    exact ⟨rfl, (.of (by repeat (first | (with_reducible exact Ext.refl _) | (with_reducible refine Ext.up ?_ _) | (with_reducible refine Ext.alloc ?_ _) | (with_reducible refine Ext.drew ?_) | (with_reducible refine Ext.setRow ?_ (by first | exact LeS.le | exact LeS.add _ | (simp; done) | (simp; omega)) _) | (with_reducible refine Ext.setCell ?_ (by first | exact LeS.le | exact LeS.add _ | (simp; done) | (simp; omega)) _))))⟩
  · rw [g1] at kst hE; rw [g2] at kac hE; rw [g3] at hE
    obtain rfl : B = false := hE.out
    have g3' : ((e.sl.length : Int) != (e.acts.length : Int)) = true := by rw [bne_iff_ne]; have := of_decide_eq_false g3; omega
    clear g1 g2 g3
    go_enter Try.func6, Try.ntmps6
    go_wp2_with fail
    refine (kst _ (HG.out.base.up (by repeat (first | (with_reducible exact Ext.refl _) | (with_reducible refine Ext.up ?_ _) | (with_reducible refine Ext.alloc ?_ _) | (with_reducible refine Ext.drew ?_) | (with_reducible refine Ext.setRow ?_ (by first | exact LeS.le | exact LeS.add _ | (simp; done) | (simp; omega)) _) | (with_reducible refine Ext.setCell ?_ (by first | exact LeS.le | exact LeS.add _ | (simp; done) | (simp; omega)) _))))).mono ?_; rintro ed w' ⟨rfl, ⟨z1, rfl⟩⟩
    go_wp2_with fail
    refine (kac _ (HG.out.acts.up (by repeat (first | (with_reducible exact Ext.refl _) | (with_reducible refine Ext.up ?_ _) | (with_reducible refine Ext.alloc ?_ _) | (with_reducible refine Ext.drew ?_) | (with_reducible refine Ext.setRow ?_ (by first | exact LeS.le | exact LeS.add _ | (simp; done) | (simp; omega)) _) | (with_reducible refine Ext.setCell ?_ (by first | exact LeS.le | exact LeS.add _ | (simp; done) | (simp; omega)) _))))).mono ?_; rintro ed w' ⟨rfl, ⟨z2, rfl⟩⟩
    go_wp2_with fail
    go_ret
    exact ⟨rfl, (.of (by repeat (first | (with_reducible exact Ext.refl _) | (with_reducible refine Ext.up ?_ _) | (with_reducible refine Ext.alloc ?_ _) | (with_reducible refine Ext.drew ?_) | (with_reducible refine Ext.setRow ?_ (by first | exact LeS.le | exact LeS.add _ | (simp; done) | (simp; omega)) _) | (with_reducible refine Ext.setCell ?_ (by first | exact LeS.le | exact LeS.add _ | (simp; done) | (simp; omega)) _))))⟩
  rw [g3, g1, g2] at hE
  have hl := Lib.hid (of_decide_eq_true g3)
  have hl10 := actsOk_len g2
  have hsl10 : e.sl.length ≤ 10 := by rw [hl.out]; exact hl10
  have g3' : ((e.sl.length : Int) != (e.acts.length : Int)) = false := by rw [bne_eq_false_iff_eq]; have := of_decide_eq_true g3; omega
  have G1 := Lib.hid g1; have G2 := Lib.hid g2
  rw [g1] at kst; rw [g2] at kac
  obtain rfl : B = (upTo (slAt e) e.sl.length && (sameL sameV1 (versE (e.sl.map (·.e)) e.sl.length) e.vers && upTo (ckAt e) e.sl.length)) := hE.out
  clear g1 g2 g3 hE
  go_enter Try.func6, Try.ntmps6
  go_wp2_with fail
  refine (kst _ (HG.out.base.up (by repeat (first | (with_reducible exact Ext.refl _) | (with_reducible refine Ext.up ?_ _) | (with_reducible refine Ext.alloc ?_ _) | (with_reducible refine Ext.drew ?_) | (with_reducible refine Ext.setRow ?_ (by first | exact LeS.le | exact LeS.add _ | (simp; done) | (simp; omega)) _) | (with_reducible refine Ext.setCell ?_ (by first | exact LeS.le | exact LeS.add _ | (simp; done) | (simp; omega)) _))))).mono ?_; rintro ed w' ⟨rfl, ⟨z1, rfl⟩⟩
  go_wp2_with fail
  refine (kac _ (HG.out.acts.up (by repeat (first | (with_reducible exact Ext.refl _) | (with_reducible refine Ext.up ?_ _) | (with_reducible refine Ext.alloc ?_ _) | (with_reducible refine Ext.drew ?_) | (with_reducible refine Ext.setRow ?_ (by first | exact LeS.le | exact LeS.add _ | (simp; done) | (simp; omega)) _) | (with_reducible refine Ext.setCell ?_ (by first | exact LeS.le | exact LeS.add _ | (simp; done) | (simp; omega)) _))))).mono ?_; rintro ed w' ⟨rfl, ⟨z2, rfl⟩⟩
  clear kst kac
  go_wp2_with fail
  go_loopw [3, 4, 5, 30] (fun s3 _ _ s30 wr => ∃ (k : Nat), s30 = .int .i64 k ∧ k ≤ e.sl.length ∧ Up z2.val wr ∧ upTo (slAt e) k = true ∧ Own Ver.enc 32 3 z2.val.heap.size wr s3 (versE (e.sl.map (·.e)) k)) (fun _ _ _ s30 _ => e.sl.length - (intOf s30).toNat)
  case atStart => exact ⟨0, rfl, Nat.zero_le _, (.of (by repeat (first | (with_reducible exact Ext.refl _) | (with_reducible refine Ext.up ?_ _) | (with_reducible refine Ext.alloc ?_ _) | (with_reducible refine Ext.drew ?_) | (with_reducible refine Ext.setRow ?_ (by first | exact LeS.le | exact LeS.add _ | (simp; done) | (simp; omega)) _) | (with_reducible refine Ext.setCell ?_ (by first | exact LeS.le | exact LeS.add _ | (simp; done) | (simp; omega)) _)))), rfl, Own.nil _ _ _ _ _⟩
  case round =>
    obtain ⟨k, rfl, hk, ⟨z, rfl⟩, hall, hown⟩ := hrel
    have HALL := Lib.hid hall; have HO := Lib.hid hown
    clear hown
    obtain ⟨hvo, hvle⟩ := slots_vers G2.out hl.out hk hall
    by_cases hlt : k < e.sl.length
    · obtain ⟨t, ht⟩ := getElem?_some_of_lt hlt
      obtain ⟨x, hx⟩ := getElem?_some_of_lt (l := e.acts) (k := k) (by rw [← hl.out]; exact hlt)
      have hxo := actsOk_at G2.out hx
      obtain ⟨b, off, q0, d0, q1, d1, q2, d2, rfl, hb, ⟨e0, e1, e2, e3, e4, e5⟩, sf, sr, sw⟩ := HCS.out k t ht
      have ksl := fun w h => slotRight_any e (.slice p0 e.base.length c0) (.slice p1 e.acts.length c1) (.slice p2 e.vers.length c2) (.slice (some ⟨b, off, none⟩) e.sl.length c3) k x t w h hx hxo ht (by omega)
      have Hat := Lib.hid (slAt_eq ht hx)
      have Hnx := Lib.hid (versE_slot ht)
      have k0 : (0 : Int) ≤ (k : Int) := by omega
      have k1 : (k : Int) < e.sl.length := by omega
      have hwo := Lib.hid (fun h => sltOk_w (n := (k : Int)) (s := t) hxo h fun _ => trivial)
      have SW := Lib.hid sw
      have hsm : versOk (versE (e.sl.map (·.e)) k) = true := hvo
      have Hvo := Lib.hid hvo
      have hb9 : inR (k : Int) 0 9 = true := by rw [inR_iff]; omega
      have Hb9 := Lib.hid hb9
      clear hall ht hx hxo sf sr sw hvo hsm hb9
      rcases hsb : sltOk x k t with _ | _
      · rw [hsb] at ksl
        have Hf := Lib.hid (upTo_false (f := slAt e) hlt (by rw [Hat.out, hsb]))
        clear hsb hwo
        go_wp2_with fail
        refine (ksl _ (HG.out.up (by repeat (first | (with_reducible exact Ext.refl _) | (with_reducible refine Ext.up ?_ _) | (with_reducible refine Ext.alloc ?_ _) | (with_reducible refine Ext.drew ?_) | (with_reducible refine Ext.setRow ?_ (by first | exact LeS.le | exact LeS.add _ | (simp; done) | (simp; omega)) _) | (with_reducible refine Ext.setCell ?_ (by first | exact LeS.le | exact LeS.add _ | (simp; done) | (simp; omega)) _))))).mono ?_; rintro ed w' ⟨rfl, ⟨z3, rfl⟩⟩
        go_wp2_with fail
        go_ret
        exact ⟨by rw [Hf.out]; rfl, (.of (by repeat (first | (with_reducible exact Ext.refl _) | (with_reducible refine Ext.up ?_ _) | (with_reducible refine Ext.alloc ?_ _) | (with_reducible refine Ext.drew ?_) | (with_reducible refine Ext.setRow ?_ (by first | exact LeS.le | exact LeS.add _ | (simp; done) | (simp; omega)) _) | (with_reducible refine Ext.setCell ?_ (by first | exact LeS.le | exact LeS.add _ | (simp; done) | (simp; omega)) _))))⟩
      · rw [hsb] at ksl
        have Ht := Lib.hid (upTo_succ (f := slAt e) HALL.out (by rw [Hat.out, hsb]))
        have hw := hwo.out hsb
        have hwl := entsOk_len hw
        have Hw := Lib.hid hw
        clear hsb hwo hw
        go_wp2_with fail
        refine (ksl _ (HG.out.up (by repeat (first | (with_reducible exact Ext.refl _) | (with_reducible refine Ext.up ?_ _) | (with_reducible refine Ext.alloc ?_ _) | (with_reducible refine Ext.drew ?_) | (with_reducible refine Ext.setRow ?_ (by first | exact LeS.le | exact LeS.add _ | (simp; done) | (simp; omega)) _) | (with_reducible refine Ext.setCell ?_ (by first | exact LeS.le | exact LeS.add _ | (simp; done) | (simp; omega)) _))))).mono ?_; rintro ed w' ⟨rfl, ⟨z3, rfl⟩⟩
        clear ksl
        go_wp2_with fail
        refine (withWrites_any (versE (e.sl.map (·.e)) k) t.e.w _ (.slice q2 t.e.w.length d2) (k : Int) _ ((HO.out.sl Ver.enc_length).up (by repeat (first | (with_reducible exact Ext.refl _) | (with_reducible refine Ext.up ?_ _) | (with_reducible refine Ext.alloc ?_ _) | (with_reducible refine Ext.drew ?_) | (with_reducible refine Ext.setRow ?_ (by first | exact LeS.le | exact LeS.add _ | (simp; done) | (simp; omega)) _) | (with_reducible refine Ext.setCell ?_ (by first | exact LeS.le | exact LeS.add _ | (simp; done) | (simp; omega)) _)))) (SW.out.up (by repeat (first | (with_reducible exact Ext.refl _) | (with_reducible refine Ext.up ?_ _) | (with_reducible refine Ext.alloc ?_ _) | (with_reducible refine Ext.drew ?_) | (with_reducible refine Ext.setRow ?_ (by first | exact LeS.le | exact LeS.add _ | (simp; done) | (simp; omega)) _) | (with_reducible refine Ext.setCell ?_ (by first | exact LeS.le | exact LeS.add _ | (simp; done) | (simp; omega)) _)))) (by omega) (by omega) Hvo.out Hb9.out Hw.out).mono ?_; rintro ed w' ⟨v4, rfl, ⟨z4, rfl⟩, o4⟩
        have O4 := Lib.hid o4; clear o4
        have hz := z.ext.size
        have hz3 := z3.ext.size
        simp at hz3
        go_wp2_with fail
        go_roundw
        case rel => exact ⟨k + 1, by go_num, by omega, (.of (by repeat (first | (with_reducible exact Ext.refl _) | (with_reducible refine Ext.up ?_ _) | (with_reducible refine Ext.alloc ?_ _) | (with_reducible refine Ext.drew ?_) | (with_reducible refine Ext.setRow ?_ (by first | exact LeS.le | exact LeS.add _ | (simp; done) | (simp; omega)) _) | (with_reducible refine Ext.setCell ?_ (by first | exact LeS.le | exact LeS.add _ | (simp; done) | (simp; omega)) _)))), Ht.out, by rw [Hnx.out]; exact O4.out.lo (by omega)⟩
        case measure => simp [intOf] <;> omega
    · obtain rfl : k = e.sl.length := by omega
      obtain ⟨pv, cv, rfl, _, _⟩ := (HO.out.sl Ver.enc_length).openc
      have HV := Lib.hid (HO.out.sl Ver.enc_length)
      have keq := fun w h h' => eqVers_any (versE (e.sl.map (·.e)) e.sl.length) e.vers (.slice pv (versE (e.sl.map (·.e)) e.sl.length).length cv) (.slice p2 e.vers.length c2) w h h'
      have Hall := Lib.hid hall
      clear HO hvo hall HALL
      rcases hq : sameL sameV1 (versE (e.sl.map (·.e)) e.sl.length) e.vers with _ | _
      · rw [hq] at keq
        have Hq := Lib.hid hq; clear hq
        generalize versE (e.sl.map (·.e)) e.sl.length = V at keq HV hvle ⊢
        go_wp2_with fail
        refine (keq _ (HV.out.up (by repeat (first | (with_reducible exact Ext.refl _) | (with_reducible refine Ext.up ?_ _) | (with_reducible refine Ext.alloc ?_ _) | (with_reducible refine Ext.drew ?_) | (with_reducible refine Ext.setRow ?_ (by first | exact LeS.le | exact LeS.add _ | (simp; done) | (simp; omega)) _) | (with_reducible refine Ext.setCell ?_ (by first | exact LeS.le | exact LeS.add _ | (simp; done) | (simp; omega)) _)))) (HG.out.vers.up (by repeat (first | (with_reducible exact Ext.refl _) | (with_reducible refine Ext.up ?_ _) | (with_reducible refine Ext.alloc ?_ _) | (with_reducible refine Ext.drew ?_) | (with_reducible refine Ext.setRow ?_ (by first | exact LeS.le | exact LeS.add _ | (simp; done) | (simp; omega)) _) | (with_reducible refine Ext.setCell ?_ (by first | exact LeS.le | exact LeS.add _ | (simp; done) | (simp; omega)) _))))).mono ?_; rintro ed w' ⟨rfl, ⟨z5, rfl⟩⟩
        go_wp2_with fail
        go_ret
        exact ⟨by rw [Hall.out, Hq.out]; rfl, (.of (by repeat (first | (with_reducible exact Ext.refl _) | (with_reducible refine Ext.up ?_ _) | (with_reducible refine Ext.alloc ?_ _) | (with_reducible refine Ext.drew ?_) | (with_reducible refine Ext.setRow ?_ (by first | exact LeS.le | exact LeS.add _ | (simp; done) | (simp; omega)) _) | (with_reducible refine Ext.setCell ?_ (by first | exact LeS.le | exact LeS.add _ | (simp; done) | (simp; omega)) _))))⟩
      rw [hq] at keq
      have Hq := Lib.hid hq; clear hq
      generalize versE (e.sl.map (·.e)) e.sl.length = V at keq HV hvle ⊢
      go_wp2_with fail
      refine (keq _ (HV.out.up (by repeat (first | (with_reducible exact Ext.refl _) | (with_reducible refine Ext.up ?_ _) | (with_reducible refine Ext.alloc ?_ _) | (with_reducible refine Ext.drew ?_) | (with_reducible refine Ext.setRow ?_ (by first | exact LeS.le | exact LeS.add _ | (simp; done) | (simp; omega)) _) | (with_reducible refine Ext.setCell ?_ (by first | exact LeS.le | exact LeS.add _ | (simp; done) | (simp; omega)) _)))) (HG.out.vers.up (by repeat (first | (with_reducible exact Ext.refl _) | (with_reducible refine Ext.up ?_ _) | (with_reducible refine Ext.alloc ?_ _) | (with_reducible refine Ext.drew ?_) | (with_reducible refine Ext.setRow ?_ (by first | exact LeS.le | exact LeS.add _ | (simp; done) | (simp; omega)) _) | (with_reducible refine Ext.setCell ?_ (by first | exact LeS.le | exact LeS.add _ | (simp; done) | (simp; omega)) _))))).mono ?_; rintro ed w' ⟨rfl, ⟨z5, rfl⟩⟩
      clear keq
      go_wp2_with fail
      go_loopw [6, 7, 54] (fun _ _ s54 wr => ∃ (k : Nat), s54 = .int .i64 k ∧ k ≤ e.sl.length ∧ Up z5.val wr ∧ upTo (ckAt e) k = true) (fun _ _ s54 _ => e.sl.length - (intOf s54).toNat)
      case atStart => exact ⟨0, rfl, Nat.zero_le _, (.of (by repeat (first | (with_reducible exact Ext.refl _) | (with_reducible refine Ext.up ?_ _) | (with_reducible refine Ext.alloc ?_ _) | (with_reducible refine Ext.drew ?_) | (with_reducible refine Ext.setRow ?_ (by first | exact LeS.le | exact LeS.add _ | (simp; done) | (simp; omega)) _) | (with_reducible refine Ext.setCell ?_ (by first | exact LeS.le | exact LeS.add _ | (simp; done) | (simp; omega)) _)))), rfl⟩
      case round =>
        obtain ⟨k, rfl, hk, ⟨z6, rfl⟩, hck⟩ := hrel
        have HCK := Lib.hid hck; clear hck
        by_cases hlt : k < e.sl.length
        · obtain ⟨t, ht⟩ := getElem?_some_of_lt hlt
          obtain ⟨x, hx⟩ := getElem?_some_of_lt (l := e.acts) (k := k) (by rw [← hl.out]; exact hlt)
          have hxo := actsOk_at G2.out hx
          obtain ⟨b, off, q0, d0, q1, d1, q2, d2, rfl, hb, ⟨e0, e1, e2, e3, e4, e5⟩, -, -, -⟩ := HCS.out k t ht
          have k0 : (0 : Int) ≤ (k : Int) := by omega
          have k1 : (k : Int) < e.sl.length := by omega
          have hslk := upTo_iff.1 Hall.out k hlt
          rw [slAt_eq ht hx] at hslk
          by_cases h2 : t.st = 2
          rotate_left
          · have h2' : (t.st == 2) = false := by simpa using h2
            have Ht := Lib.hid (upTo_succ (f := ckAt e) HCK.out (ckAt_other ht h2))
            clear ht hx hxo hslk h2
            go_wp2_with fail
            go_roundw
            case rel => exact ⟨k + 1, by go_num, by omega, (.of (by repeat (first | (with_reducible exact Ext.refl _) | (with_reducible refine Ext.up ?_ _) | (with_reducible refine Ext.alloc ?_ _) | (with_reducible refine Ext.drew ?_) | (with_reducible refine Ext.setRow ?_ (by first | exact LeS.le | exact LeS.add _ | (simp; done) | (simp; omega)) _) | (with_reducible refine Ext.setCell ?_ (by first | exact LeS.le | exact LeS.add _ | (simp; done) | (simp; omega)) _)))), Ht.out⟩
            case measure => simp [intOf] <;> omega
          obtain ⟨m1, m2, m3⟩ := sltTry_parts hslk (by omega)
          have h2' : (t.st == 2) = true := by simpa using h2
          have Hc := Lib.hid (ckAt_two ht h2)
          have kcu := fun w h => current_any e (.slice p0 e.base.length c0) (.slice p1 e.acts.length c1) (.slice p2 e.vers.length c2) (.slice (some ⟨b, off, none⟩) e.sl.length c3) k x t w h G1.out hx hxo ht m1 m2 m3
          generalize curOk e.base e.vers k t = bc at *
          clear ht hx hxo hslk h2 m1 m2 m3
          by_cases hk0 : k = 0
          · have hkp : decide ((0 : Int) < (k : Int)) = false := by simp; omega
            have hkp' : decide (0 < k) = false := by simp; omega
            have Hk0 := Lib.hid (show decide (k = 0) = true from decide_eq_true hk0)
            clear hk0
            rcases bc with _ | _
            · have Hf := Lib.hid (upTo_false (f := ckAt e) hlt (by rw [Hc.out]; simp))
              go_wp2_with fail
              refine (kcu _ (HG.out.up (by repeat (first | (with_reducible exact Ext.refl _) | (with_reducible refine Ext.up ?_ _) | (with_reducible refine Ext.alloc ?_ _) | (with_reducible refine Ext.drew ?_) | (with_reducible refine Ext.setRow ?_ (by first | exact LeS.le | exact LeS.add _ | (simp; done) | (simp; omega)) _) | (with_reducible refine Ext.setCell ?_ (by first | exact LeS.le | exact LeS.add _ | (simp; done) | (simp; omega)) _))))).mono ?_; rintro ed w' ⟨rfl, ⟨z7, rfl⟩⟩
              go_wp2_with fail
              go_ret
              exact ⟨by rw [Hall.out, Hq.out, Hf.out]; rfl, (.of (by repeat (first | (with_reducible exact Ext.refl _) | (with_reducible refine Ext.up ?_ _) | (with_reducible refine Ext.alloc ?_ _) | (with_reducible refine Ext.drew ?_) | (with_reducible refine Ext.setRow ?_ (by first | exact LeS.le | exact LeS.add _ | (simp; done) | (simp; omega)) _) | (with_reducible refine Ext.setCell ?_ (by first | exact LeS.le | exact LeS.add _ | (simp; done) | (simp; omega)) _))))⟩
            · have Ht := Lib.hid (upTo_succ (f := ckAt e) HCK.out (by rw [Hc.out, Hk0.out]; rfl))
              go_wp2_with fail
              refine (kcu _ (HG.out.up (by repeat (first | (with_reducible exact Ext.refl _) | (with_reducible refine Ext.up ?_ _) | (with_reducible refine Ext.alloc ?_ _) | (with_reducible refine Ext.drew ?_) | (with_reducible refine Ext.setRow ?_ (by first | exact LeS.le | exact LeS.add _ | (simp; done) | (simp; omega)) _) | (with_reducible refine Ext.setCell ?_ (by first | exact LeS.le | exact LeS.add _ | (simp; done) | (simp; omega)) _))))).mono ?_; rintro ed w' ⟨rfl, ⟨z7, rfl⟩⟩
              go_wp2_with fail
              go_roundw
              case rel => exact ⟨k + 1, by go_num, by omega, (.of (by repeat (first | (with_reducible exact Ext.refl _) | (with_reducible refine Ext.up ?_ _) | (with_reducible refine Ext.alloc ?_ _) | (with_reducible refine Ext.drew ?_) | (with_reducible refine Ext.setRow ?_ (by first | exact LeS.le | exact LeS.add _ | (simp; done) | (simp; omega)) _) | (with_reducible refine Ext.setCell ?_ (by first | exact LeS.le | exact LeS.add _ | (simp; done) | (simp; omega)) _)))), Ht.out⟩
              case measure => simp [intOf] <;> omega
          have hkp : decide ((0 : Int) < (k : Int)) = true := by simp; omega
          have hkp' : decide (0 < k) = true := by simp; omega
          obtain ⟨pr, hpr⟩ := getElem?_some_of_lt (l := e.sl) (k := k - 1) (by omega)
          obtain ⟨b', off', _, _, _, _, _, _, ee, _, ⟨f0, -⟩, -⟩ := HCS.out (k - 1) pr hpr
          simp only [Option.some.injEq, Addr.mk.injEq, and_true] at ee
          obtain ⟨rfl, rfl⟩ := ee
          have km : ((k : Int) - 1).toNat = k - 1 := by omega
          have km0 : (0 : Int) ≤ (k : Int) - 1 := by omega
          have km1 : (k : Int) - 1 < e.sl.length := by omega
          have kw : IntKind.i64.wrap ((k : Int) - 1) = (k : Int) - 1 := IntWalk.i64_in _ ⟨by omega, by omega⟩
          have Hk0 := Lib.hid (show decide (k = 0) = false from decide_eq_false hk0)
          rw [hpr] at Hc
          clear hpr hk0
          rcases hp2 : (pr.st == 2) with _ | _
          · have hp2' : (pr.st != 2) = true := by rw [bne, hp2]; rfl
            have Hf := Lib.hid (upTo_false (f := ckAt e) hlt (by rw [Hc.out, Hk0.out]; simp [hp2]))
            clear hp2 kcu
            go_wp2_with fail
            go_ret
            exact ⟨by rw [Hall.out, Hq.out, Hf.out]; rfl, (.of (by repeat (first | (with_reducible exact Ext.refl _) | (with_reducible refine Ext.up ?_ _) | (with_reducible refine Ext.alloc ?_ _) | (with_reducible refine Ext.drew ?_) | (with_reducible refine Ext.setRow ?_ (by first | exact LeS.le | exact LeS.add _ | (simp; done) | (simp; omega)) _) | (with_reducible refine Ext.setCell ?_ (by first | exact LeS.le | exact LeS.add _ | (simp; done) | (simp; omega)) _))))⟩
          have hp2' : (pr.st != 2) = false := by rw [bne, hp2]; rfl
          rcases bc with _ | _
          · have Hf := Lib.hid (upTo_false (f := ckAt e) hlt (by rw [Hc.out]; simp))
            clear hp2
            go_wp2_with fail
            refine (kcu _ (HG.out.up (by repeat (first | (with_reducible exact Ext.refl _) | (with_reducible refine Ext.up ?_ _) | (with_reducible refine Ext.alloc ?_ _) | (with_reducible refine Ext.drew ?_) | (with_reducible refine Ext.setRow ?_ (by first | exact LeS.le | exact LeS.add _ | (simp; done) | (simp; omega)) _) | (with_reducible refine Ext.setCell ?_ (by first | exact LeS.le | exact LeS.add _ | (simp; done) | (simp; omega)) _))))).mono ?_; rintro ed w' ⟨rfl, ⟨z7, rfl⟩⟩
            go_wp2_with fail
            go_ret
            exact ⟨by rw [Hall.out, Hq.out, Hf.out]; rfl, (.of (by repeat (first | (with_reducible exact Ext.refl _) | (with_reducible refine Ext.up ?_ _) | (with_reducible refine Ext.alloc ?_ _) | (with_reducible refine Ext.drew ?_) | (with_reducible refine Ext.setRow ?_ (by first | exact LeS.le | exact LeS.add _ | (simp; done) | (simp; omega)) _) | (with_reducible refine Ext.setCell ?_ (by first | exact LeS.le | exact LeS.add _ | (simp; done) | (simp; omega)) _))))⟩
          · have Ht := Lib.hid (upTo_succ (f := ckAt e) HCK.out (by rw [Hc.out, Hk0.out]; simp [hp2]))
            clear hp2
            go_wp2_with fail
            refine (kcu _ (HG.out.up (by repeat (first | (with_reducible exact Ext.refl _) | (with_reducible refine Ext.up ?_ _) | (with_reducible refine Ext.alloc ?_ _) | (with_reducible refine Ext.drew ?_) | (with_reducible refine Ext.setRow ?_ (by first | exact LeS.le | exact LeS.add _ | (simp; done) | (simp; omega)) _) | (with_reducible refine Ext.setCell ?_ (by first | exact LeS.le | exact LeS.add _ | (simp; done) | (simp; omega)) _))))).mono ?_; rintro ed w' ⟨rfl, ⟨z7, rfl⟩⟩
            go_wp2_with fail
            go_roundw
            case rel => exact ⟨k + 1, by go_num, by omega, (.of (by repeat (first | (with_reducible exact Ext.refl _) | (with_reducible refine Ext.up ?_ _) | (with_reducible refine Ext.alloc ?_ _) | (with_reducible refine Ext.drew ?_) | (with_reducible refine Ext.setRow ?_ (by first | exact LeS.le | exact LeS.add _ | (simp; done) | (simp; omega)) _) | (with_reducible refine Ext.setCell ?_ (by first | exact LeS.le | exact LeS.add _ | (simp; done) | (simp; omega)) _)))), Ht.out⟩
            case measure => simp [intOf] <;> omega
        · obtain rfl : k = e.sl.length := by omega
          go_wp2_with fail
          go_ret
          exact ⟨by rw [Hall.out, Hq.out, HCK.out]; rfl, (.of (by repeat (first | (with_reducible exact Ext.refl _) | (with_reducible refine Ext.up ?_ _) | (with_reducible refine Ext.alloc ?_ _) | (with_reducible refine Ext.drew ?_) | (with_reducible refine Ext.setRow ?_ (by first | exact LeS.le | exact LeS.add _ | (simp; done) | (simp; omega)) _) | (with_reducible refine Ext.setCell ?_ (by first | exact LeS.le | exact LeS.add _ | (simp; done) | (simp; omega)) _))))⟩
end Go.Proofs.Ytnknamddonjnjaa
