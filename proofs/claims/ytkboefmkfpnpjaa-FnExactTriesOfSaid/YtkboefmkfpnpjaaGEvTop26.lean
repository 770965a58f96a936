/- Walks: versions with those of an action: the program's side, with slices.SortFunc by its contract of the kit's shelf. -/
import Derived.Test.YtkboefmkfpnpjaaGEvTop24
import Derived.Test.YtkboefmkfpnpjaaGEvTop04
import Derived.Test.YtkboefmkfpnpjaaGEvTop25
import Derived.Test.YtkboefmkfpnpjaaGEvTop02
set_option linter.unusedSimpArgs false
set_option linter.unusedVariables false
namespace Go.Proofs.Ytkboefmkfpnpjaa
open Go Go.RowKit Go.Proofs Go.Sort

theorem flatK_list {α : Type} [Inhabited α] (enc : α → List Value) {k : Nat} (hk : ∀ x, (enc x).length = k) (d : Array α) : (flatK enc k d).toList = d.toList.flatMap enc := by
  apply List.ext_getElem?
  intro t
  by_cases ht : t < d.size * k
  · have k0 : 0 < k := by
      rcases Nat.eq_zero_or_pos k with h | h
      · subst h; simp at ht
      · exact h
    have hq : t / k < d.size := Nat.div_lt_of_lt_mul (by rwa [Nat.mul_comm])
    have hm : t % k < k := Nat.mod_lt _ k0
    have hx : d.toList[t / k]? = some d[t / k] := by simp [hq]
    obtain ⟨u, hu⟩ := getElem?_some_of_lt (l := enc d[t / k]) (k := t % k) (by rw [hk]; exact hm)
    have := flatMap_get hk hx hu
    rw [Nat.div_add_mod'] at this
    rw [this, Array.getElem?_toList, Array.getElem?_eq_getElem (by simpa using ht)]
    have h2 := get_flatK enc k d t ht
    rw [getElem!_pos _ t (by simpa using ht)] at h2
    rw [h2, getElem!_pos d _ hq]
    obtain ⟨h3, h4⟩ := List.getElem?_eq_some_iff.1 hu
    rw [getElem!_pos (enc d[t / k]) (t % k) h3, h4]
  · rw [List.getElem?_eq_none (by simpa using Nat.le_of_not_lt ht), List.getElem?_eq_none (by rw [flatMap_length hk]; simpa using Nat.le_of_not_lt ht)]
theorem verOrd_lt (x y : Ver) : verOrd x y < 0 ↔ (x.k < y.k ∨ x.k = y.k ∧ x.b < y.b) := by
  unfold verOrd or2
  split <;> omega
/-- Versions in range. -/
abbrev VerI := {x : Ver // verIn x = true}
theorem VerI.of (l : List Ver) (h : ∀ x ∈ l, verIn x = true) : ∃ d : Array VerI, d.toList.map (·.1) = l :=
  ⟨(l.attachWith _ h).toArray, by simp⟩
instance VerI.inh : Inhabited VerI := ⟨⟨⟨0, 0, 0⟩, by decide⟩⟩
def VerI.enc (x : VerI) : List Value := x.1.enc
theorem VerI.flat (d : Array VerI) : (flatK VerI.enc 3 d).toList = (d.toList.map (·.1)).flatMap Ver.enc := by
  rw [flatK_list VerI.enc (fun _ => rfl), List.flatMap_map]; rfl
theorem swoV : SWO (Go.Proofs.ltOf fun x y : VerI => verOrd x.1 y.1) where
  irrefl x := by
    have : ¬ verOrd x.1 x.1 < 0 := by rw [verOrd_lt]; omega
    simpa [Go.Proofs.ltOf] using this
  trans x y z h1 h2 := by
    simp only [Go.Proofs.ltOf, decide_eq_true_eq] at *
    rw [verOrd_lt] at *; omega
  ntrans x y z h1 h2 := by
    simp only [Go.Proofs.ltOf, decide_eq_false_iff_not] at *
    rw [verOrd_lt] at *; omega
theorem versionOrder_gr (x y : Ver) (w : World) (h1 : inR x.k 0 31 = true) (h2 : inR y.k 0 31 = true) (h3 : inR x.b 0 9 = true) (h4 : inR y.b 0 9 = true) :
    Calls Try.prog 99 #[.agg #[.int .i64 x.k, .int .i64 x.b, .int .i64 x.v], .agg #[.int .i64 y.k, .int .i64 y.b, .int .i64 y.v]] w
      fun e w' => e = .returned (.int .i64 (verOrd x y)) ∧ GR w w' := by
  obtain ⟨h1, h1'⟩ := inR_iff.1 h1; obtain ⟨h2, h2'⟩ := inR_iff.1 h2; obtain ⟨h3, h3'⟩ := inR_iff.1 h3; obtain ⟨h4, h4'⟩ := inR_iff.1 h4
  go_enter Try.func99, Try.ntmps99
  go_wp2_with (go_at_call 105; refine (cmpOr2 (x.k - y.k) (x.b - y.b) _ _ (by go_simp) (by go_simp)).mono ?_; rintro e w' ⟨rfl, rfl⟩)
  go_ret
  exact ⟨rfl, (((GR.refl _).alloc _).alloc _).alloc _⟩
theorem holdsV {e lo g c : Nat} {w : World} {d : Array VerI} {l : List Ver} (hl : d.toList.map (·.1) = l) (h : Own Ver.enc e 3 lo w (.slice (some ⟨g, 0, none⟩) l.length c) l) : HoldsK VerI.enc 3 w g 0 d := by
  intro j hj
  have hsz : d.size = l.length := by rw [← hl]; simp
  have hj' : j < l.length * 3 := by rw [size_flatK, hsz] at hj; exact hj
  have h' : w.ownsRow lo e 3 (.slice (some ⟨g, 0, none⟩) l.length c) l.length (l.flatMap Ver.enc) := h
  have hc := h'.cellAt j (by omega)
  refine ⟨?_, h'.frozenAt (0 + j)⟩
  rw [Nat.zero_add, hc, ← hl, ← VerI.flat, Array.getElem?_toList, getElem!_pos _ j hj, Array.getElem?_eq_getElem hj]
  rfl
set_option maxRecDepth 100000 in
set_option maxHeartbeats 1000000 in
theorem sortVer_any (l : List Ver) (hl : ∀ x ∈ l, verIn x = true) (hlen : l.length ≤ 100000000) (g c lo : Nat) (W : World) (ho : Own Ver.enc 88 3 lo W (.slice (some ⟨g, 0, none⟩) l.length c) l) :
    Calls Try.prog 144 #[.slice (some ⟨g, 0, none⟩) l.length c, .func (.func 99) #[] #[]] W fun e w' => e = .returned (.tuple #[]) ∧ W.grownBy w' (some g) ∧
      ∃ m : List Ver, m.Perm l ∧ m.Pairwise (fun a b => verLt b a = false) ∧ Own Ver.enc 88 3 lo w' (.slice (some ⟨g, 0, none⟩) l.length c) m := by
  obtain ⟨d, hd⟩ := VerI.of l hl
  have hsz : d.size = l.length := by rw [← hd]; simp
  have eg : ∀ args w, (callFunc 99 args).run Try.prog w = .ok (.enter 99 args) w := enters_of Try.func99 (by kernel_rfl) rfl
  have ho' : W.ownsRow lo 88 3 (.slice (some ⟨g, 0, none⟩) l.length c) l.length (l.flatMap Ver.enc) := ho
  have hblk : g < W.heap.size := (World.ownsRow.lt ho' g rfl).2
  have hcmp : CmpLays Try.prog 99 #[] VerI.enc 3 (fun x y : VerI => verOrd x.1 y.1) g 0 d.size W := by
    intro m os dk _ x y
    have hx := x.2; have hy := y.2
    simp only [verIn, Bool.and_eq_true] at hx hy
    exact versionOrder_gr x.1 y.1 _ hx.1 hy.1 hx.2.1 hy.2.1
  have hcon := AnyQ.slices_SortFunc Try.sortVer 3 (fun _ => by kernel_rfl) (fun _ => by kernel_rfl) VerI.enc (fun _ => rfl) (fun x => oneV x.1) (fun x y : VerI => verOrd x.1 y.1) swoV 99 #[] g 0 c d W eg hcmp (holdsV hd ho) hblk (by omega)
  rw [hsz] at hcon
  refine hcon.mono ?_
  rintro e w' ⟨he, d', q, os, hp, hs, rfl⟩
  have hdl : d'.size = l.length := by rw [hp.1]; omega
  have hr := ownsRow_putL id (n := q) os (flatK VerI.enc 3 d') ho' (by rw [size_flatK, hdl])
  rw [List.map_id, VerI.flat] at hr
  have hgb := grownBy_putL id (w := W) (g := g) (n := q) (os := os) (flatK VerI.enc 3 d')
  have e1 := extract_all d' hdl
  have e2 := extract_all d hsz
  have hperm := hp.2.2
  rw [e1, e2] at hperm
  refine ⟨he, hgb, d'.toList.map (·.1), ?_, ?_, ?_⟩
  · have := List.Perm.map (fun x : VerI => x.1) hperm
    rw [hd] at this
    exact this
  · rw [List.pairwise_map, List.pairwise_iff_getElem]
    intro i j hi hj hij
    have hi' : i < d'.size := by simpa using hi
    have hj' : j < d'.size := by simpa using hj
    have h1 := hs i j (Nat.zero_le _) hij (by omega)
    rw [getElem!_pos d' j hj', getElem!_pos d' i hi'] at h1
    simp only [Go.Proofs.ltOf, decide_eq_false_iff_not] at h1
    simp only [Array.getElem_toList, verLt, decide_eq_false_iff_not]
    exact h1
  · show World.ownsRow _ _ _ _ _ _ _
    rw [show (d'.toList.map (fun x : VerI => x.1)).length = l.length from by simp [hdl]]
    exact hr
theorem mkV_snoc (by_ : Int) {u : List Ent} {k : Nat} {e : Ent} (h : u[k]? = some e) : (u.take (k + 1)).map (mkV by_) = (u.take k).map (mkV by_) ++ [mkV by_ e] := by
  rw [List.take_add_one, h]; simp
theorem mkV_in {by_ : Int} {u : List Ent} (hb : inR by_ 0 9 = true) (hu : entsOk 0 u = true) : ∀ x ∈ u.map (mkV by_), verIn x = true := by
  intro x hx
  obtain ⟨e, he, rfl⟩ := List.mem_map.1 hx
  have := entsOk_mem hu he
  simp only [verIn, mkV, Bool.and_eq_true, inR_iff]
  exact ⟨⟨by omega, by omega⟩, inR_iff.1 hb, by omega, by omega⟩
set_option maxRecDepth 100000 in
set_option maxHeartbeats 1000000 in
theorem withWrites_any (l : List Ver) (u : List Ent) (v vu : Value) (by_ : Int) (w : World) (h : SL (RF Ver.enc) 3 w v l) (hu : SL (RF Ent.enc) 2 w vu u) (hn : l.length ≤ 1048576) (hun : u.length ≤ 1048576) (hok : versOk l = true) (hb : inR by_ 0 9 = true) (huo : entsOk 0 u = true) :
    Calls Try.prog 90 #[v, .int .i64 by_, vu] w fun e w' => ∃ v', e = .returned v' ∧ Up w w' ∧ Own Ver.enc 88 3 w.heap.size w' v' (putV l by_ u) := by
  have H := Lib.hid h
  obtain ⟨p, c, rfl, _, _⟩ := h.openc
  obtain ⟨pu, cu, rfl, _, hcu⟩ := hu.open
  have kw := fun w h => without_any l (.slice p l.length c) by_ w h (by omega)
  have hdl := dropV_le l by_
  have hq := Lib.hid (fun m hp hs => putV_unique (by_ := by_) (m := m) (vers_sorted hok) (asc_of huo) hp hs)
  have hin := Lib.hid (fun x (hx : x ∈ dropV l by_) => versOk_mem hok (dropV_ne hx).1)
  have hin2 := Lib.hid (mkV_in hb huo)
  clear h hu hok hb huo
  generalize dropV l by_ = D at *
  generalize putV l by_ u = R at *
  go_enter Try.func90, Try.ntmps90
  go_wp2_with fail
  refine (kw _ (H.out.up (by repeat (first | (with_reducible exact Ext.refl _) | (with_reducible refine Ext.up ?_ _) | (with_reducible refine Ext.alloc ?_ _) | (with_reducible refine Ext.drew ?_) | (with_reducible refine Ext.setRow ?_ (by first | exact LeS.le | exact LeS.add _ | (simp; done) | (simp; omega)) _) | (with_reducible refine Ext.setCell ?_ (by first | exact LeS.le | exact LeS.add _ | (simp; done) | (simp; omega)) _))))).mono ?_; rintro e w' ⟨y, rfl, ⟨z1, rfl⟩, oy⟩
  obtain ⟨p1, c1, rfl, _, _⟩ := (oy.sl Ver.enc_length).openc
  have OY := Lib.hid (oy.lo (lo' := w.heap.size) LeS.le); clear oy
  go_wp2_with fail
  go_loopw [7, 9, 15] (fun s7 _ s15 wr => ∃ (k : Nat), s15 = .int .i64 k ∧ k ≤ u.length ∧ Up w wr ∧ Own Ver.enc 88 3 w.heap.size wr s7 (D ++ (u.take k).map (mkV by_))) (fun _ _ s15 _ => u.length - (intOf s15).toNat)
  case atStart => exact ⟨0, rfl, Nat.zero_le _, ⟨⟨_, (by repeat (first | (with_reducible exact Ext.refl _) | (with_reducible refine Ext.up ?_ _) | (with_reducible refine Ext.alloc ?_ _) | (with_reducible refine Ext.drew ?_) | (with_reducible refine Ext.setRow ?_ (by first | exact LeS.le | exact LeS.add _ | (simp; done) | (simp; omega)) _) | (with_reducible refine Ext.setCell ?_ (by first | exact LeS.le | exact LeS.add _ | (simp; done) | (simp; omega)) _)))⟩, rfl⟩, by rw [List.take_zero, List.map_nil, List.append_nil]; exact OY.out⟩
  case round =>
    obtain ⟨k, rfl, hk, ⟨z, rfl⟩, hown⟩ := hrel
    by_cases hlt : k < u.length
    · obtain ⟨x, hxk⟩ := getElem?_some_of_lt hlt
      obtain ⟨b, off, rfl, hb, hcc⟩ := hcu k x hxk
      have c0 : w.cell? ⟨b, off + k * 2, none⟩ = some (.int .i64 x.k) := hcc 0 _ rfl
      have c1 : w.cell? ⟨b, off + k * 2 + 1, none⟩ = some (.int .i64 x.v) := hcc 1 _ rfl
      have hle : (D ++ (u.take k).map (mkV by_)).length ≤ 2100000 := by simp; omega
      have Hs := Lib.hid (mkV_snoc by_ hxk)
      have Hown := Lib.hid hown
      generalize (u.take k).map (mkV by_) = M at *
      clear hcc hcu hxk hown
      go_wp2_with (at_builtin; refine wpList_push1 fVer rfl (.tmp 19) (.tmp 26) rfl Ver.enc w (mkV by_ x) (D ++ M) rfl (Hown.out.up (by repeat (first | (with_reducible exact Ext.refl _) | (with_reducible refine Ext.up ?_ _) | (with_reducible refine Ext.alloc ?_ _) | (with_reducible refine Ext.drew ?_) | (with_reducible refine Ext.setRow ?_ (by first | exact LeS.le | exact LeS.add _ | (simp; done) | (simp; omega)) _) | (with_reducible refine Ext.setCell ?_ (by first | exact LeS.le | exact LeS.add _ | (simp; done) | (simp; omega)) _)))) (by repeat (first | (with_reducible exact Ext.refl _) | (with_reducible refine Ext.up ?_ _) | (with_reducible refine Ext.alloc ?_ _) | (with_reducible refine Ext.drew ?_) | (with_reducible refine Ext.setRow ?_ (by first | exact LeS.le | exact LeS.add _ | (simp; done) | (simp; omega)) _) | (with_reducible refine Ext.setCell ?_ (by first | exact LeS.le | exact LeS.add _ | (simp; done) | (simp; omega)) _))) rfl (by go_simp) rfl rfl (oneV _) (by omega) (by omega) ?_; intro v1 z5 hown1)
      have hown2 := Lib.hid hown1; clear hown1
      go_wp2_with fail
      go_roundw
      case rel => exact ⟨k + 1, by go_num, by omega, ⟨z5, rfl⟩, by rw [Hs.out, ← List.append_assoc]; exact hown2.out⟩
      case measure => simp [intOf]; omega
    · obtain rfl : k = u.length := by omega
      rw [List.take_length] at hown
      have hle : (D ++ u.map (mkV by_)).length ≤ 2100000 := by simp; omega
      have hvi : ∀ x ∈ D ++ u.map (mkV by_), verIn x = true := fun x hx => by
        rcases List.mem_append.1 hx with h | h
        · exact hin.out x h
        · exact hin2.out x h
      have Hvi := Lib.hid hvi; clear hvi
      generalize D ++ u.map (mkV by_) = L at *
      clear hcu
      by_cases hn0 : L = []
      · subst hn0
        have hR : [] = R := hq.out [] (List.Perm.refl _) List.Pairwise.nil
        subst hR
        obtain ⟨p4, c4, rfl, _, _⟩ := (hown.sl Ver.enc_length).openc
        have HO := Lib.hid hown; clear hown
        go_wp2_with fail
        refine (AnyF.slices_SortFunc_none { Try.sortVer with } p4 c4 _ _).mono ?_; rintro e w' ⟨rfl, rfl⟩
        go_wp2_with fail
        go_ret
        exact ⟨_, rfl, (.of (by repeat (first | (with_reducible exact Ext.refl _) | (with_reducible refine Ext.up ?_ _) | (with_reducible refine Ext.alloc ?_ _) | (with_reducible refine Ext.drew ?_) | (with_reducible refine Ext.setRow ?_ (by first | exact LeS.le | exact LeS.add _ | (simp; done) | (simp; omega)) _) | (with_reducible refine Ext.setCell ?_ (by first | exact LeS.le | exact LeS.add _ | (simp; done) | (simp; omega)) _)))), HO.out.up (by repeat (first | (with_reducible exact Ext.refl _) | (with_reducible refine Ext.up ?_ _) | (with_reducible refine Ext.alloc ?_ _) | (with_reducible refine Ext.drew ?_) | (with_reducible refine Ext.setRow ?_ (by first | exact LeS.le | exact LeS.add _ | (simp; done) | (simp; omega)) _) | (with_reducible refine Ext.setCell ?_ (by first | exact LeS.le | exact LeS.add _ | (simp; done) | (simp; omega)) _)))⟩
      · obtain ⟨g, c4, rfl⟩ := Own.ne' hown hn0
        have HO := Lib.hid hown
        have hg := (World.ownsRow.lt hown g rfl).1
        clear hown
        go_wp2_with fail
        refine (sortVer_any L Hvi.out (by omega) g c4 _ _ HO.out).mono ?_; rintro e w' ⟨rfl, hgr, m, hmp, hms, hmo⟩
        have hm := hq.out m hmp hms
        subst hm
        have E : Ext w w' := Ext.grown (b := z.val) (by repeat (first | (with_reducible exact Ext.refl _) | (with_reducible refine Ext.up ?_ _) | (with_reducible refine Ext.alloc ?_ _) | (with_reducible refine Ext.drew ?_) | (with_reducible refine Ext.setRow ?_ (by first | exact LeS.le | exact LeS.add _ | (simp; done) | (simp; omega)) _) | (with_reducible refine Ext.setCell ?_ (by first | exact LeS.le | exact LeS.add _ | (simp; done) | (simp; omega)) _))) hgr (fun k hk => by cases hk; exact hg)
        have hml : m.length = L.length := hmp.length_eq
        have HM := Lib.hid hmo
        clear hgr hmo hmp hms
        go_wp2_with fail
        go_ret
        exact ⟨_, rfl, .of E, HM.out⟩
set_option maxRecDepth 100000 in
set_option maxHeartbeats 1000000 in
theorem iPutVersions_any (l : List Ver) (u : List Ent) (v vu : Value) (by_ : Int) (w : World) (h : SL (RF Ver.enc) 3 w v l) (hu : SL (RF Ent.enc) 2 w vu u) (hn : l.length ≤ 1048576) (hun : u.length ≤ 1048576) :
    Calls Try.prog 37 #[v, .int .i64 by_, vu] w fun e w' => ∃ v', e = .returned (.tuple #[v', .bool (putOk l by_ u)]) ∧ Up w w' ∧ Own Ver.enc 88 3 w.heap.size w' v' (putR l by_ u) := by
  have H := Lib.hid h; have HU := Lib.hid hu
  obtain ⟨p, c, rfl, _, _⟩ := h.openc
  obtain ⟨pu, cu, rfl, _, _⟩ := hu.openc
  have kv := fun w (h : SL (RF Ver.enc) 3 w (.slice p l.length c) l) => iVersionsValid_any l _ w h
  have ki := fun w => in_any by_ 0 9 w
  have kw := fun w (h : SL (RF Ent.enc) 2 w (.slice pu u.length cu) u) => entriesValid_any u _ 0 w h
  clear h hu
  rcases guards3 (versOk l) (inR by_ 0 9) (entsOk 0 u) with h1 | ⟨h1, h2⟩ | ⟨h1, h2, h3⟩ | ⟨h1, h2, h3⟩
  case inr.inr.inr =>
    have hp : putOk l by_ u = true := by simp [putOk, h1, h2, h3]
    rw [putR_yes hp, hp]
    clear hp
    have kq := fun w h h' => withWrites_any l u (.slice p l.length c) (.slice pu u.length cu) by_ w h h' hn hun h1 h2 h3
    simp only [h1] at kv; simp only [h2] at ki; simp only [h3] at kw
    clear h1 h2 h3
    go_enter Try.func37, Try.ntmps37
    go_wp2_with (first | (go_at_call 43; refine (kv _ (H.out.up (by repeat (first | (with_reducible exact Ext.refl _) | (with_reducible refine Ext.up ?_ _) | (with_reducible refine Ext.alloc ?_ _) | (with_reducible refine Ext.drew ?_) | (with_reducible refine Ext.setRow ?_ (by first | exact LeS.le | exact LeS.add _ | (simp; done) | (simp; omega)) _) | (with_reducible refine Ext.setCell ?_ (by first | exact LeS.le | exact LeS.add _ | (simp; done) | (simp; omega)) _))))).mono ?_; rintro e w' ⟨rfl, z1, rfl⟩) | (go_at_call 88; refine (ki _).mono ?_; rintro e w' ⟨rfl, rfl⟩) | (go_at_call 89; refine (kw _ (HU.out.up (by repeat (first | (with_reducible exact Ext.refl _) | (with_reducible refine Ext.up ?_ _) | (with_reducible refine Ext.alloc ?_ _) | (with_reducible refine Ext.drew ?_) | (with_reducible refine Ext.setRow ?_ (by first | exact LeS.le | exact LeS.add _ | (simp; done) | (simp; omega)) _) | (with_reducible refine Ext.setCell ?_ (by first | exact LeS.le | exact LeS.add _ | (simp; done) | (simp; omega)) _))))).mono ?_; rintro e w' ⟨rfl, z2, rfl⟩) | (go_at_call 90; refine (kq _ (H.out.up (by repeat (first | (with_reducible exact Ext.refl _) | (with_reducible refine Ext.up ?_ _) | (with_reducible refine Ext.alloc ?_ _) | (with_reducible refine Ext.drew ?_) | (with_reducible refine Ext.setRow ?_ (by first | exact LeS.le | exact LeS.add _ | (simp; done) | (simp; omega)) _) | (with_reducible refine Ext.setCell ?_ (by first | exact LeS.le | exact LeS.add _ | (simp; done) | (simp; omega)) _)))) (HU.out.up (by repeat (first | (with_reducible exact Ext.refl _) | (with_reducible refine Ext.up ?_ _) | (with_reducible refine Ext.alloc ?_ _) | (with_reducible refine Ext.drew ?_) | (with_reducible refine Ext.setRow ?_ (by first | exact LeS.le | exact LeS.add _ | (simp; done) | (simp; omega)) _) | (with_reducible refine Ext.setCell ?_ (by first | exact LeS.le | exact LeS.add _ | (simp; done) | (simp; omega)) _))))).mono ?_; rintro e w' ⟨v3, rfl, ⟨z3, rfl⟩, o3⟩))
    refine bodyPost_ret (v := .tuple #[v3, .bool true]) (by simp [results, Try.results37, go_sem]) rfl ?_
    exact ⟨_, rfl, (.of (by repeat (first | (with_reducible exact Ext.refl _) | (with_reducible refine Ext.up ?_ _) | (with_reducible refine Ext.alloc ?_ _) | (with_reducible refine Ext.drew ?_) | (with_reducible refine Ext.setRow ?_ (by first | exact LeS.le | exact LeS.add _ | (simp; done) | (simp; omega)) _) | (with_reducible refine Ext.setCell ?_ (by first | exact LeS.le | exact LeS.add _ | (simp; done) | (simp; omega)) _)))), o3.lo LeS.le⟩
  · have hp : putOk l by_ u = false := by simp [putOk, *]
    rw [putR_no hp, hp]
    clear hp
    simp only [h1] at kv
    clear h1
    go_enter Try.func37, Try.ntmps37
    go_wp2_with (first | (go_at_call 43; refine (kv _ (H.out.up (by repeat (first | (with_reducible exact Ext.refl _) | (with_reducible refine Ext.up ?_ _) | (with_reducible refine Ext.alloc ?_ _) | (with_reducible refine Ext.drew ?_) | (with_reducible refine Ext.setRow ?_ (by first | exact LeS.le | exact LeS.add _ | (simp; done) | (simp; omega)) _) | (with_reducible refine Ext.setCell ?_ (by first | exact LeS.le | exact LeS.add _ | (simp; done) | (simp; omega)) _))))).mono ?_; rintro e w' ⟨rfl, z1, rfl⟩) | (go_at_call 88; refine (ki _).mono ?_; rintro e w' ⟨rfl, rfl⟩) | (go_at_call 89; refine (kw _ (HU.out.up (by repeat (first | (with_reducible exact Ext.refl _) | (with_reducible refine Ext.up ?_ _) | (with_reducible refine Ext.alloc ?_ _) | (with_reducible refine Ext.drew ?_) | (with_reducible refine Ext.setRow ?_ (by first | exact LeS.le | exact LeS.add _ | (simp; done) | (simp; omega)) _) | (with_reducible refine Ext.setCell ?_ (by first | exact LeS.le | exact LeS.add _ | (simp; done) | (simp; omega)) _))))).mono ?_; rintro e w' ⟨rfl, z2, rfl⟩))
    refine bodyPost_ret (v := .tuple #[.slice none 0 0, .bool false]) (by simp [results, Try.results37, go_sem]) rfl ?_
    exact ⟨_, rfl, (.of (by repeat (first | (with_reducible exact Ext.refl _) | (with_reducible refine Ext.up ?_ _) | (with_reducible refine Ext.alloc ?_ _) | (with_reducible refine Ext.drew ?_) | (with_reducible refine Ext.setRow ?_ (by first | exact LeS.le | exact LeS.add _ | (simp; done) | (simp; omega)) _) | (with_reducible refine Ext.setCell ?_ (by first | exact LeS.le | exact LeS.add _ | (simp; done) | (simp; omega)) _)))), Own.nil _ _ _ _ _⟩
  · have hp : putOk l by_ u = false := by simp [putOk, *]
    rw [putR_no hp, hp]
    clear hp
    simp only [h1] at kv
    simp only [h2] at ki
    clear h1 h2
    go_enter Try.func37, Try.ntmps37
    go_wp2_with (first | (go_at_call 43; refine (kv _ (H.out.up (by repeat (first | (with_reducible exact Ext.refl _) | (with_reducible refine Ext.up ?_ _) | (with_reducible refine Ext.alloc ?_ _) | (with_reducible refine Ext.drew ?_) | (with_reducible refine Ext.setRow ?_ (by first | exact LeS.le | exact LeS.add _ | (simp; done) | (simp; omega)) _) | (with_reducible refine Ext.setCell ?_ (by first | exact LeS.le | exact LeS.add _ | (simp; done) | (simp; omega)) _))))).mono ?_; rintro e w' ⟨rfl, z1, rfl⟩) | (go_at_call 88; refine (ki _).mono ?_; rintro e w' ⟨rfl, rfl⟩) | (go_at_call 89; refine (kw _ (HU.out.up (by repeat (first | (with_reducible exact Ext.refl _) | (with_reducible refine Ext.up ?_ _) | (with_reducible refine Ext.alloc ?_ _) | (with_reducible refine Ext.drew ?_) | (with_reducible refine Ext.setRow ?_ (by first | exact LeS.le | exact LeS.add _ | (simp; done) | (simp; omega)) _) | (with_reducible refine Ext.setCell ?_ (by first | exact LeS.le | exact LeS.add _ | (simp; done) | (simp; omega)) _))))).mono ?_; rintro e w' ⟨rfl, z2, rfl⟩))
    refine bodyPost_ret (v := .tuple #[.slice none 0 0, .bool false]) (by simp [results, Try.results37, go_sem]) rfl ?_
    exact ⟨_, rfl, (.of (by repeat (first | (with_reducible exact Ext.refl _) | (with_reducible refine Ext.up ?_ _) | (with_reducible refine Ext.alloc ?_ _) | (with_reducible refine Ext.drew ?_) | (with_reducible refine Ext.setRow ?_ (by first | exact LeS.le | exact LeS.add _ | (simp; done) | (simp; omega)) _) | (with_reducible refine Ext.setCell ?_ (by first | exact LeS.le | exact LeS.add _ | (simp; done) | (simp; omega)) _)))), Own.nil _ _ _ _ _⟩
  · have hp : putOk l by_ u = false := by simp [putOk, *]
    rw [putR_no hp, hp]
    clear hp
    simp only [h1] at kv
    simp only [h2] at ki
    simp only [h3] at kw
    clear h1 h2 h3
    go_enter Try.func37, Try.ntmps37
    go_wp2_with (first | (go_at_call 43; refine (kv _ (H.out.up (by repeat (first | (with_reducible exact Ext.refl _) | (with_reducible refine Ext.up ?_ _) | (with_reducible refine Ext.alloc ?_ _) | (with_reducible refine Ext.drew ?_) | (with_reducible refine Ext.setRow ?_ (by first | exact LeS.le | exact LeS.add _ | (simp; done) | (simp; omega)) _) | (with_reducible refine Ext.setCell ?_ (by first | exact LeS.le | exact LeS.add _ | (simp; done) | (simp; omega)) _))))).mono ?_; rintro e w' ⟨rfl, z1, rfl⟩) | (go_at_call 88; refine (ki _).mono ?_; rintro e w' ⟨rfl, rfl⟩) | (go_at_call 89; refine (kw _ (HU.out.up (by repeat (first | (with_reducible exact Ext.refl _) | (with_reducible refine Ext.up ?_ _) | (with_reducible refine Ext.alloc ?_ _) | (with_reducible refine Ext.drew ?_) | (with_reducible refine Ext.setRow ?_ (by first | exact LeS.le | exact LeS.add _ | (simp; done) | (simp; omega)) _) | (with_reducible refine Ext.setCell ?_ (by first | exact LeS.le | exact LeS.add _ | (simp; done) | (simp; omega)) _))))).mono ?_; rintro e w' ⟨rfl, z2, rfl⟩))
    refine bodyPost_ret (v := .tuple #[.slice none 0 0, .bool false]) (by simp [results, Try.results37, go_sem]) rfl ?_
    exact ⟨_, rfl, (.of (by repeat (first | (with_reducible exact Ext.refl _) | (with_reducible refine Ext.up ?_ _) | (with_reducible refine Ext.alloc ?_ _) | (with_reducible refine Ext.drew ?_) | (with_reducible refine Ext.setRow ?_ (by first | exact LeS.le | exact LeS.add _ | (simp; done) | (simp; omega)) _) | (with_reducible refine Ext.setCell ?_ (by first | exact LeS.le | exact LeS.add _ | (simp; done) | (simp; omega)) _)))), Own.nil _ _ _ _ _⟩
end Go.Proofs.Ytkboefmkfpnpjaa
