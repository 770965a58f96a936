/- Walks: what an action does, on the program's side: the map of what it writes (printed by wip/mkmap.py). -/
import Derived.Test.YtnknamddonjnjaaGEoVTop09
import Derived.Maps.OwnOps
set_option linter.unusedSimpArgs false
set_option linter.unusedVariables false
namespace Go.Proofs.Ytnknamddonjnjaa
open Go Go.RowKit Go.Proofs Go.Maps

/-- Block b is a map from numbers to numbers, of at most n entries, that reads as D. -/
def OwnM (P : Program) (k : TypeId) (w : World) (b n : Nat) (D : DataW Unit) : Prop := w.ownsMap P k (plainElem P k) b n D ∧ IsMap D
theorem OwnM.up {P : Program} {k : TypeId} {w w' : World} {b n : Nat} {D : DataW Unit} (h : OwnM P k w b n D) (hE : Ext w w') : OwnM P k w' b n D := ⟨h.1.kept (row := none) (grownBy_ext hE) (by simp), h.2⟩
theorem OwnM.mono {P : Program} {k : TypeId} {w : World} {b n m : Nat} {D : DataW Unit} (h : OwnM P k w b n D) (hn : n ≤ m) : OwnM P k w b m D := ⟨h.1.mono hn, h.2⟩
theorem made_own {P : Program} {k : TypeId} {w : World} : OwnM P k (w.alloc (.map #[] 0)) w.heap.size 0 (.map []) := ⟨World.ownsMap_made _ _ _ _, ⟨[], rfl⟩⟩
theorem wfI {a : Int} (h : -1000000000 ≤ a ∧ a ≤ 1000000000) : (Lit.int .i64 a).wf = true := WalkArith.wf_i64 (by omega)
theorem isMap_put {D : DataW Unit} (h : IsMap D) (k : Lit) (d : DataW Unit) : IsMap (D.put k d) := by
  obtain ⟨es, rfl⟩ := h
  exact ⟨_, rfl⟩
theorem wp_insert_own {P : Program} {w : World} {o : Oper} {a : Act} {K' : Act → World → Prop} {Q : Exit → Act → World → Prop} (m x v : Operand) (t : TypeId) (hop : o.op = Op.insert t m x v)
    {k : TypeId} (ht : P.underlying t = some (.map k k)) (hk : P.underlying k = some (.int .i64)) {b n : Nat} {D : DataW Unit} (hown : OwnM P k w b n D) (hn : n < 10) (key val : Int) (hm : a.eval m = .map (some b)) (hx : a.eval x = .int .i64 key) (hv : a.eval v = .int .i64 val)
    (hkw : (Lit.int .i64 key).wf = true) (hvw : (Lit.int .i64 val).wf = true)
    (h : ∀ w', OwnM P k w' b (n + 1) (D.put (.int .i64 key) (.lit (.int .i64 val))) → w.grownBy w' (some b) → K' (a.put o.dst undef) w') : o.wp P a w K' Q := by
  obtain ⟨w', hrun, r1, r2⟩ := hown.1.update (int_keyed hk) ht (by unfold maxLen; omega) (keyOf_int_mk hk hkw) (plainElem_int hk hvw)
  unfold Oper.wp
  simp [execOp, hop, hm, hx, hv, hrun, Result.andThen]
  exact h _ ⟨r1, isMap_put hown.2 _ _⟩ r2
theorem wpList_insert_own {P : Program} {w : World} {ops : Array Oper} {rest : List Oper} {o : Oper} {a : Act} {Q : Exit → Act → World → Prop} (hg : o.guard = none) (m x v : Operand) (t : TypeId) (hop : o.op = Op.insert t m x v)
    {k : TypeId} (ht : P.underlying t = some (.map k k)) (hk : P.underlying k = some (.int .i64)) {b n : Nat} {D : DataW Unit} (hown : OwnM P k w b n D) (hn : n < 10) (key val : Int) (hm : a.eval m = .map (some b)) (hx : a.eval x = .int .i64 key) (hv : a.eval v = .int .i64 val)
    (hkw : (Lit.int .i64 key).wf = true) (hvw : (Lit.int .i64 val).wf = true)
    (h : ∀ w', OwnM P k w' b (n + 1) (D.put (.int .i64 key) (.lit (.int .i64 val))) → w.grownBy w' (some b) → wpList P ops Q rest (a.put o.dst undef) w') : wpList P ops Q (o :: rest) a w :=
  wpList_plain hg fun _ hK => wp_insert_own m x v t hop ht hk hown hn key val hm hx hv hkw hvw fun w' h1 h2 => hK _ _ (h w' h1 h2)
theorem at1 {D : DataW Unit} (hD : IsMap D) (k v : Int) (z : DataW Unit) : (D.put (.int .i64 k) (.lit (.int .i64 v))).atKey (.int .i64 k) z = .lit (.int .i64 v) := atKey_put_same hD (by simp [WideAt.IsKeyLit]) _ z
theorem at2 {D : DataW Unit} (hD : IsMap D) {k1 v1 k2 v2 : Int} (h : k1 = k2 → v1 = v2) (z : DataW Unit) : ((D.put (.int .i64 k1) (.lit (.int .i64 v1))).put (.int .i64 k2) (.lit (.int .i64 v2))).atKey (.int .i64 k1) z = .lit (.int .i64 v1) ∧
    ((D.put (.int .i64 k1) (.lit (.int .i64 v1))).put (.int .i64 k2) (.lit (.int .i64 v2))).atKey (.int .i64 k2) z = .lit (.int .i64 v2) := by
  refine ⟨?_, at1 (isMap_put hD _ _) _ _ _⟩
  by_cases hk : k1 = k2
  · have := h hk
    subst hk; subst this
    exact at1 (isMap_put hD _ _) _ _ _
  · rw [atKey_put_other (by intro e; cases e; exact hk rfl)]
    exact at1 hD _ _ _
theorem mem_sort2 {a b y : Ent} (h : y ∈ sort2 a b) : y = a ∨ y = b := by
  unfold sort2 at h
  split at h <;> simp at h <;> first | exact h | exact h.symm
/-- What a map has at the keys of a list. -/
def HasAll (D : DataW Unit) (l : List Ent) : Prop := ∀ y ∈ l, D.atKey (.int .i64 y.k) (.lit (.int .i64 0)) = .lit (.int .i64 y.v)
theorem HasAll.one {D : DataW Unit} (hD : IsMap D) (k v : Int) : HasAll (D.put (.int .i64 k) (.lit (.int .i64 v))) [⟨k, v⟩] := by
  intro y hy
  simp only [List.mem_singleton] at hy
  subst hy
  exact at1 hD _ _ _
theorem HasAll.one' {D : DataW Unit} (hD : IsMap D) {k v v' : Int} (h : v = v') : HasAll (D.put (.int .i64 k) (.lit (.int .i64 v))) [⟨k, v'⟩] := by subst h; exact HasAll.one hD _ _
theorem HasAll.two {D : DataW Unit} (hD : IsMap D) {a b : Ent} (h : a.k = b.k → a.v = b.v) : HasAll ((D.put (.int .i64 a.k) (.lit (.int .i64 a.v))).put (.int .i64 b.k) (.lit (.int .i64 b.v))) (sort2 a b) := by
  intro y hy
  rcases mem_sort2 hy with rfl | rfl
  · exact (at2 hD h _).1
  · exact (at2 hD h _).2
theorem HasAll.two' {D : DataW Unit} (hD : IsMap D) {a b : Ent} (h : a.k = b.k → a.v = b.v) : HasAll ((D.put (.int .i64 b.k) (.lit (.int .i64 b.v))).put (.int .i64 a.k) (.lit (.int .i64 a.v))) (sort2 a b) := by
  intro y hy
  rcases mem_sort2 hy with rfl | rfl
  · exact (at2 hD (fun e => (h e.symm).symm) _).2
  · exact (at2 hD (fun e => (h e.symm).symm) _).1
theorem HasAll.sub {D : DataW Unit} {l l' : List Ent} (h : HasAll D l') (hs : ∀ y ∈ l, y ∈ l') : HasAll D l := fun y hy => h y (hs y hy)
theorem isMap0 : IsMap (.map [] : DataW Unit) := ⟨[], rfl⟩
set_option maxRecDepth 100000 in
set_option maxHeartbeats 4000000 in
theorem result_any (x : Actn) (v : List Int) (w : World) (hv : v.length = 32) (hvi : valsIn v) (hx : x.ok = true) :
    Calls Try.prog 71 #[.agg #[.int .i64 x.kind, .int .i64 x.src, .int .i64 x.dst, .int .i64 x.amt], .agg (vA v)] w fun e w' => ∃ b D, e = .returned (.tuple #[.map (some b), .bool (runV v x).d]) ∧ Up w w' ∧ OwnM Try.prog 3 w' b 2 D ∧ HasAll D (x.wrs (v.getD x.src.toNat 0) (v.getD x.dst.toNat 0)) := by
  obtain ⟨kd, src, dst, amt⟩ := x
  simp only [Actn.ok, Bool.and_eq_true, inR_iff] at hx
  obtain ⟨⟨s0, s1⟩, ⟨d0, d1⟩, ⟨m0, m1⟩, hko⟩ := hx
  obtain ⟨f, hf⟩ := getElem?_some_of_lt (l := v) (k := src.toNat) (by omega)
  obtain ⟨t, ht⟩ := getElem?_some_of_lt (l := v) (k := dst.toNat) (by omega)
  have gf : v.getD src.toNat 0 = f := by simp [List.getD, hf]
  have gt : v.getD dst.toNat 0 = t := by simp [List.getD, ht]
  obtain ⟨f0, f1⟩ := valsIn_get hvi src.toNat
  obtain ⟨t0, t1⟩ := valsIn_get hvi dst.toNat
  rw [gf] at f0 f1; rw [gt] at t0 t1
  have hft : src = dst → f = t := fun e => by rw [← gf, ← gt, e]
  have hsd := Lib.hid hft
  have hR : runV v ⟨kd, src, dst, amt⟩ = runE ⟨kd, src, dst, amt⟩ f t := by unfold runV; dsimp only; rw [gf, gt]
  simp only [hR, gf, gt]
  generalize hbd : (runE ⟨kd, src, dst, amt⟩ f t).d = bd
  generalize hwl : Actn.wrs ⟨kd, src, dst, amt⟩ f t = wl
  have Hbd := Lib.hid hbd; have Hwl := Lib.hid hwl
  have Hf := Lib.hid hf; have Ht := Lib.hid ht; have Hko := Lib.hid hko; have Hv := Lib.hid hv
  have s2 : src < 32 := by omega
  have d2 : dst < 32 := by omega
  clear gf gt hft hR hbd hwl hf ht hko hvi hv
  have hmm := @run_makeMap Try.prog
  go_enter Try.func71, Try.ntmps71
  go_wp2_with fail
  refine wp_named ?_; intro W2 hW2
  have hE : Ext w W2 := by rw [hW2]; exact (by repeat (first | (with_reducible exact Ext.refl _) | (with_reducible refine Ext.up ?_ _) | (with_reducible refine Ext.alloc ?_ _) | (with_reducible refine Ext.drew ?_) | (with_reducible refine Ext.setRow ?_ (by first | exact LeS.le | exact LeS.add _ | (simp; done) | (simp; omega)) _) | (with_reducible refine Ext.setCell ?_ (by first | exact LeS.le | exact LeS.add _ | (simp; done) | (simp; omega)) _)))
  have c0 : W2.cell? ⟨w.heap.size, 0, none⟩ = some (.int .i64 kd) := by rw [hW2]; go_simp
  have c1 : W2.cell? ⟨w.heap.size, 1, none⟩ = some (.int .i64 src) := by rw [hW2]; go_simp
  have c2 : W2.cell? ⟨w.heap.size, 2, none⟩ = some (.int .i64 dst) := by rw [hW2]; go_simp
  have c3 : W2.cell? ⟨w.heap.size, 3, none⟩ = some (.int .i64 amt) := by rw [hW2]; go_simp
  have r1 : Row 71 W2 (w.heap.size + 1) v := by rw [hW2]; exact heap_alloc2_new _ _ _
  have e0 := r1.cell Hf.out
  have e1 := r1.cell Ht.out
  have hL0 : LtS w.heap.size W2 := .of_some c0
  have hL1 : LtS (w.heap.size + 1) W2 := r1.lts
  have hLe : LeS w W2 := ⟨hE.size⟩
  have HE := Lib.hid hE
  clear hW2 r1 hE Hf Ht
  (refine wp_region_up (by kernel_rfl) (by kernel_rfl) ?_; (repeat (go_big_quiet_step (fail))); refine wpQuiet_nil ?_; intro _ hw'; obtain ⟨zq, hw''⟩ := hw'; subst hw'')
  obtain ⟨z2, rfl⟩ := Up.of (HE.out)
  rcases kinds kd with rfl | rfl | rfl | rfl | rfl | rfl | ⟨n1, n2, n3, n4, n5, n6⟩
  · have h1 : bd = true := by rw [← Hbd.out]; simp [runE, Actn.don]
    have h2 : wl = [⟨src, amt⟩] := by rw [← Hwl.out]; simp [Actn.wrs]
    subst h1; subst h2
    go_wp2_with ((refine wpList_insert_own (by rfl) (.tmp 20) (.tmp 22) (.tmp 24) 96 (by rfl) Try.underlying96 Try.underlying3 made_own (by decide) _ _ rfl rfl rfl (wfI (by omega)) (wfI (by omega)) ?_; intro w8 o8 g8; obtain ⟨z8, rfl⟩ := Up.of (show Ext w w8 from Ext.grown (b := zq.val.alloc (.map #[] 0)) (by repeat (first | (with_reducible exact Ext.refl _) | (with_reducible refine Ext.up ?_ _) | (with_reducible refine Ext.alloc ?_ _) | (with_reducible refine Ext.drew ?_) | (with_reducible refine Ext.setRow ?_ (by first | exact LeS.le | exact LeS.add _ | (simp; done) | (simp; omega)) _) | (with_reducible refine Ext.setCell ?_ (by first | exact LeS.le | exact LeS.add _ | (simp; done) | (simp; omega)) _))) g8 (fun k hk => by cases hk; exact LeS.le)); have O8 := Lib.hid o8; clear o8 g8))
    refine bodyPost_ret (v := .tuple #[.map (some zq.val.heap.size), .bool true]) (by simp [results, Try.results71, go_sem]) rfl ?_
    first | exact ⟨_, _, rfl, ⟨z8, rfl⟩, O8.out.mono (by decide), HasAll.one isMap0 _ _⟩ | exact ⟨_, rfl, ⟨z8, rfl⟩, _, O8.out.mono (by decide), HasAll.one isMap0 _ _⟩
  · by_cases hsd0 : src = dst
    · have hs' : (src == dst) = true := by simp [hsd0]
      have h1 : bd = decide (amt ≤ f) := by rw [← Hbd.out]; simp [runE, Actn.don, hsd0]
      have h2 : wl = [⟨src, f⟩] := by rw [← Hwl.out]; simp [Actn.wrs, hsd0]
      subst h1; subst h2
      have Hs0 := Lib.hid hsd0; clear hsd0
      go_wp2_with fail
      refine wp_region_held_drew (S := (fun w' => (∀ n i, ∀ [LtS n zq.val], w'.cell? ⟨n, i, none⟩ = World.cell? zq.val ⟨n, i, none⟩) ∧ Ext zq.val w')) (by kernel_rfl) ?_ (fun hHeld => ?_)
      · (try dsimp only)
        refine S_of_ext ?_
        repeat (first | exact Ext.refl _ | refine Ext.up ?_ _ | refine Ext.alloc ?_ _ | refine Ext.drew ?_ | refine Ext.setRow ?_ (by first | (dsimp only; omega) | exact LeS.le | exact LeS.add _ | (simp; done) | (simp; omega)) _ | refine Ext.setCell ?_ (by first | (dsimp only; omega) | exact LeS.le | exact LeS.add _ | (simp; done) | (simp; omega)) _)
      refine wpAnyH_take (i := 1) (v := ?_) (opAt rfl) (by kernel_rfl) (by kernel_rfl) (by kernel_rfl) (fun _ _ _ h => h) (Or.inl ⟨by rfl, ?_⟩) (by assumption) ?_
      rotate_left
      · (intro w hSw; (try dsimp only at hSw); go_simp) <;> with_reducible rfl
      try simp only [Act.put, List.setIfInBounds_toArray, List.set_cons_zero, List.set_cons_succ]
      refine wpAnyH_take (i := 2) (v := ?_) (opAt rfl) (by kernel_rfl) (by kernel_rfl) (by kernel_rfl) (fun _ _ _ h => h) (Or.inl ⟨by rfl, ?_⟩) (by assumption) ?_
      rotate_left
      · (intro w hSw; (try dsimp only at hSw); go_simp) <;> with_reducible rfl
      try simp only [Act.put, List.setIfInBounds_toArray, List.set_cons_zero, List.set_cons_succ]
      refine wpAnyH_take (i := 3) (v := ?_) (opAt rfl) (by kernel_rfl) (by kernel_rfl) (by kernel_rfl) (fun _ _ _ h => h) (Or.inl ⟨by rfl, ?_⟩) (by assumption) ?_
      rotate_left
      · (intro w hSw; (try dsimp only at hSw); go_simp) <;> with_reducible rfl
      try simp only [Act.put, List.setIfInBounds_toArray, List.set_cons_zero, List.set_cons_succ]
      refine wpAnyH_take (i := 6) (v := ?_) (opAt rfl) (by kernel_rfl) (by kernel_rfl) (by kernel_rfl) (fun _ _ _ h => h) (Or.inl ⟨by rfl, ?_⟩) (by assumption) ?_
      rotate_left
      · (intro w hSw; (try dsimp only at hSw); go_simp) <;> with_reducible rfl
      try simp only [Act.put, List.setIfInBounds_toArray, List.set_cons_zero, List.set_cons_succ]
      refine wpAnyH_take (i := 7) (v := ?_) (opAt rfl) (by kernel_rfl) (by kernel_rfl) (by kernel_rfl) (fun _ _ _ h => h) (Or.inl ⟨by rfl, ?_⟩) (by assumption) ?_
      rotate_left
      · (intro w hSw; (try dsimp only at hSw); go_simp) <;> with_reducible rfl
      try simp only [Act.put, List.setIfInBounds_toArray, List.set_cons_zero, List.set_cons_succ]
      refine wpAnyH_take (i := 8) (v := ?_) (opAt rfl) (by kernel_rfl) (by kernel_rfl) (by kernel_rfl) (fun _ _ _ h => h) (Or.inl ⟨by rfl, ?_⟩) (by assumption) ?_
      rotate_left
      · (intro w hSw; (try dsimp only at hSw); go_simp) <;> with_reducible rfl
      try simp only [Act.put, List.setIfInBounds_toArray, List.set_cons_zero, List.set_cons_succ]
      refine wpAnyH_take (i := 9) (v := ?_) (opAt rfl) (by kernel_rfl) (by kernel_rfl) (by kernel_rfl) (fun _ _ _ h => h) (Or.inl ⟨by rfl, ?_⟩) (by assumption) ?_
      rotate_left
      · (intro w hSw; (try dsimp only at hSw); go_simp) <;> with_reducible rfl
      try simp only [Act.put, List.setIfInBounds_toArray, List.set_cons_zero, List.set_cons_succ]
      refine wpAnyH_ready (rs := [0]) (by kernel_rfl) (by simp) ?_
      refine AllReadyH.cons (opAt rfl) (fun K hK => ?_) ?_
      · go_simp
        refine hK.out _ _ ?_ (fun hHeld1 => ?_)
        · (try dsimp only)
          refine S_of_ext ?_
          repeat (first | exact Ext.refl _ | refine Ext.up ?_ _ | refine Ext.alloc ?_ _ | refine Ext.drew ?_ | refine Ext.setRow ?_ (by first | (dsimp only; omega) | exact LeS.le | exact LeS.add _ | (simp; done) | (simp; omega)) _ | refine Ext.setCell ?_ (by first | (dsimp only; omega) | exact LeS.le | exact LeS.add _ | (simp; done) | (simp; omega)) _)
        clear hK K hHeld
        have hHeld := hHeld1; clear hHeld1
        try simp only [Act.put, List.setIfInBounds_toArray, List.set_cons_zero, List.set_cons_succ]
        refine wpAnyH_ready (rs := [4]) (by kernel_rfl) (by simp) ?_
        refine AllReadyH.cons (opAt rfl) (fun K hK => ?_) ?_
        · rw [if_pos (by rfl)]
          refine wp_insert_own (.tmp 72) (.tmp 74) (.tmp 75) 96 rfl Try.underlying96 Try.underlying3 (made_own (w := zq.val.drew)) (by decide) src f rfl rfl rfl ?_ ?_ ?_
          · exact wfI (by first | omega | (go_simp; omega))
          · exact wfI (by first | omega | (go_simp; omega))
          intro w8 o8 g8
          obtain ⟨z8, rfl⟩ := Up.of (show Ext zq.val w8 from Ext.grown (b := zq.val.drew.alloc (.map #[] 0)) (by repeat (first | exact Ext.refl _ | refine Ext.up ?_ _ | refine Ext.alloc ?_ _ | refine Ext.drew ?_ | refine Ext.setRow ?_ (by first | (dsimp only; omega) | exact LeS.le | exact LeS.add _ | (simp; done) | (simp; omega)) _ | refine Ext.setCell ?_ (by first | (dsimp only; omega) | exact LeS.le | exact LeS.add _ | (simp; done) | (simp; omega)) _)) g8 (fun k hk => by cases hk; exact LeS.le))
          have O8 := Lib.hid o8; clear o8 g8
          refine hK.out _ _ ?_ (fun hHeld1 => ?_)
          · (try dsimp only)
            refine S_of_ext ?_
            repeat (first | exact Ext.refl _ | refine Ext.up ?_ _ | refine Ext.alloc ?_ _ | refine Ext.drew ?_ | refine Ext.setRow ?_ (by first | (dsimp only; omega) | exact LeS.le | exact LeS.add _ | (simp; done) | (simp; omega)) _ | refine Ext.setCell ?_ (by first | (dsimp only; omega) | exact LeS.le | exact LeS.add _ | (simp; done) | (simp; omega)) _)
          clear hK K hHeld
          have hHeld := hHeld1; clear hHeld1
          try simp only [Act.put, List.setIfInBounds_toArray, List.set_cons_zero, List.set_cons_succ]
          refine wpAnyH_take (i := 5) (v := ?_) (opAt rfl) (by kernel_rfl) (by kernel_rfl) (by kernel_rfl) (fun _ _ _ h => h) (Or.inl ⟨by rfl, ?_⟩) (by assumption) ?_
          rotate_left
          · (intro w hSw; (try dsimp only at hSw); go_simp) <;> with_reducible rfl
          try simp only [Act.put, List.setIfInBounds_toArray, List.set_cons_zero, List.set_cons_succ]
          refine wpAnyH_take (i := 10) (v := ?_) (opAt rfl) (by kernel_rfl) (by kernel_rfl) (by kernel_rfl) (fun _ _ _ h => h) (Or.inl ⟨by rfl, ?_⟩) (by assumption) ?_
          rotate_left
          · (intro w hSw; (try dsimp only at hSw); go_simp) <;> with_reducible rfl
          try simp only [Act.put, List.setIfInBounds_toArray, List.set_cons_zero, List.set_cons_succ]
          refine wpAnyH_take (i := 11) (v := ?_) (opAt rfl) (by kernel_rfl) (by kernel_rfl) (by kernel_rfl) (fun _ _ _ h => h) (Or.inl ⟨by rfl, ?_⟩) (by assumption) ?_
          rotate_left
          · (intro w hSw; (try dsimp only at hSw); go_simp) <;> with_reducible rfl
          try simp only [Act.put, List.setIfInBounds_toArray, List.set_cons_zero, List.set_cons_succ]
          refine wpAnyH_done (by kernel_rfl) ?_ _
          go_wp2_with fail
          refine bodyPost_ret (v := .tuple #[.map (some zq.val.heap.size), .bool (decide (amt ≤ f))]) (by simp [results, Try.results71, go_sem]) rfl ?_
          exact ⟨_, _, rfl, (.of (by repeat (first | (with_reducible exact Ext.refl _) | (with_reducible refine Ext.up ?_ _) | (with_reducible refine Ext.alloc ?_ _) | (with_reducible refine Ext.drew ?_) | (with_reducible refine Ext.setRow ?_ (by first | exact LeS.le | exact LeS.add _ | (simp; done) | (simp; omega)) _) | (with_reducible refine Ext.setCell ?_ (by first | exact LeS.le | exact LeS.add _ | (simp; done) | (simp; omega)) _)))), O8.out.mono (by decide), HasAll.one isMap0 _ _⟩
        exact AllReadyH.nil
      exact AllReadyH.nil
    · have hs' : (src == dst) = false := by simp [hsd0]
      have h2 : wl = sort2 ⟨src, f - amt⟩ ⟨dst, t + amt⟩ := by rw [← Hwl.out]; simp [Actn.wrs, hsd0]
      subst h2
      have Hs0 := Lib.hid hsd0; clear hsd0
      have hw1 : IntKind.i64.wrap (f - amt) = f - amt := IntWalk.i64_in _ ⟨by omega, by omega⟩
      have hw2 : IntKind.i64.wrap (t + amt) = t + amt := IntWalk.i64_in _ ⟨by omega, by omega⟩
      by_cases hfa : amt ≤ f
      · have h1 : bd = decide (t + amt ≤ 1000000) := by rw [← Hbd.out]; have := Hs0.out; simp [runE, Actn.don, hfa, this]
        subst h1
        have hfa' : decide (amt ≤ f) = true := by simp [hfa]
        go_wp2_with fail
        refine wp_region_held_drew (S := (fun w' => (∀ n i, ∀ [LtS n zq.val], w'.cell? ⟨n, i, none⟩ = World.cell? zq.val ⟨n, i, none⟩) ∧ Ext zq.val w')) (by kernel_rfl) ?_ (fun hHeld => ?_)
        · (try dsimp only)
          refine S_of_ext ?_
          repeat (first | exact Ext.refl _ | refine Ext.up ?_ _ | refine Ext.alloc ?_ _ | refine Ext.drew ?_ | refine Ext.setRow ?_ (by first | (dsimp only; omega) | exact LeS.le | exact LeS.add _ | (simp; done) | (simp; omega)) _ | refine Ext.setCell ?_ (by first | (dsimp only; omega) | exact LeS.le | exact LeS.add _ | (simp; done) | (simp; omega)) _)
        refine wpAnyH_take (i := 1) (v := ?_) (opAt rfl) (by kernel_rfl) (by kernel_rfl) (by kernel_rfl) (fun _ _ _ h => h) (Or.inl ⟨by rfl, ?_⟩) (by assumption) ?_
        rotate_left
        · (intro w hSw; (try dsimp only at hSw); go_simp) <;> with_reducible rfl
        try simp only [Act.put, List.setIfInBounds_toArray, List.set_cons_zero, List.set_cons_succ]
        refine wpAnyH_take (i := 2) (v := ?_) (opAt rfl) (by kernel_rfl) (by kernel_rfl) (by kernel_rfl) (fun _ _ _ h => h) (Or.inl ⟨by rfl, ?_⟩) (by assumption) ?_
        rotate_left
        · (intro w hSw; (try dsimp only at hSw); go_simp) <;> with_reducible rfl
        try simp only [Act.put, List.setIfInBounds_toArray, List.set_cons_zero, List.set_cons_succ]
        refine wpAnyH_take (i := 3) (v := ?_) (opAt rfl) (by kernel_rfl) (by kernel_rfl) (by kernel_rfl) (fun _ _ _ h => h) (Or.inl ⟨by rfl, ?_⟩) (by assumption) ?_
        rotate_left
        · (intro w hSw; (try dsimp only at hSw); go_simp) <;> with_reducible rfl
        try simp only [Act.put, List.setIfInBounds_toArray, List.set_cons_zero, List.set_cons_succ]
        refine wpAnyH_take (i := 4) (v := ?_) (opAt rfl) (by kernel_rfl) (by kernel_rfl) (by kernel_rfl) (fun _ _ _ h => h) (Or.inl ⟨by rfl, ?_⟩) (by assumption) ?_
        rotate_left
        · (intro w hSw; (try dsimp only at hSw); go_simp) <;> with_reducible rfl
        try simp only [Act.put, List.setIfInBounds_toArray, List.set_cons_zero, List.set_cons_succ]
        refine wpAnyH_take (i := 5) (v := ?_) (opAt rfl) (by kernel_rfl) (by kernel_rfl) (by kernel_rfl) (fun _ _ _ h => h) (Or.inl ⟨by rfl, ?_⟩) (by assumption) ?_
        rotate_left
        · (intro w hSw; (try dsimp only at hSw); go_simp) <;> with_reducible rfl
        try simp only [Act.put, List.setIfInBounds_toArray, List.set_cons_zero, List.set_cons_succ]
        refine wpAnyH_take (i := 6) (v := ?_) (opAt rfl) (by kernel_rfl) (by kernel_rfl) (by kernel_rfl) (fun _ _ _ h => h) (Or.inl ⟨by rfl, ?_⟩) (by assumption) ?_
        rotate_left
        · (intro w hSw; (try dsimp only at hSw); go_simp) <;> with_reducible rfl
        try simp only [Act.put, List.setIfInBounds_toArray, List.set_cons_zero, List.set_cons_succ]
        refine wpAnyH_take (i := 8) (v := ?_) (opAt rfl) (by kernel_rfl) (by kernel_rfl) (by kernel_rfl) (fun _ _ _ h => h) (Or.inl ⟨by rfl, ?_⟩) (by assumption) ?_
        rotate_left
        · (intro w hSw; (try dsimp only at hSw); go_simp) <;> with_reducible rfl
        try simp only [Act.put, List.setIfInBounds_toArray, List.set_cons_zero, List.set_cons_succ]
        refine wpAnyH_take (i := 9) (v := ?_) (opAt rfl) (by kernel_rfl) (by kernel_rfl) (by kernel_rfl) (fun _ _ _ h => h) (Or.inl ⟨by rfl, ?_⟩) (by assumption) ?_
        rotate_left
        · (intro w hSw; (try dsimp only at hSw); go_simp) <;> with_reducible rfl
        try simp only [Act.put, List.setIfInBounds_toArray, List.set_cons_zero, List.set_cons_succ]
        refine wpAnyH_take (i := 10) (v := ?_) (opAt rfl) (by kernel_rfl) (by kernel_rfl) (by kernel_rfl) (fun _ _ _ h => h) (Or.inl ⟨by rfl, ?_⟩) (by assumption) ?_
        rotate_left
        · (intro w hSw; (try dsimp only at hSw); go_simp) <;> with_reducible rfl
        try simp only [Act.put, List.setIfInBounds_toArray, List.set_cons_zero, List.set_cons_succ]
        refine wpAnyH_take (i := 11) (v := ?_) (opAt rfl) (by kernel_rfl) (by kernel_rfl) (by kernel_rfl) (fun _ _ _ h => h) (Or.inl ⟨by rfl, ?_⟩) (by assumption) ?_
        rotate_left
        · (intro w hSw; (try dsimp only at hSw); go_simp) <;> with_reducible rfl
        try simp only [Act.put, List.setIfInBounds_toArray, List.set_cons_zero, List.set_cons_succ]
        refine wpAnyH_take (i := 12) (v := ?_) (opAt rfl) (by kernel_rfl) (by kernel_rfl) (by kernel_rfl) (fun _ _ _ h => h) (Or.inl ⟨by rfl, ?_⟩) (by assumption) ?_
        rotate_left
        · (intro w hSw; (try dsimp only at hSw); go_simp) <;> with_reducible rfl
        try simp only [Act.put, List.setIfInBounds_toArray, List.set_cons_zero, List.set_cons_succ]
        refine wpAnyH_take (i := 13) (v := ?_) (opAt rfl) (by kernel_rfl) (by kernel_rfl) (by kernel_rfl) (fun _ _ _ h => h) (Or.inl ⟨by rfl, ?_⟩) (by assumption) ?_
        rotate_left
        · (intro w hSw; (try dsimp only at hSw); go_simp) <;> with_reducible rfl
        try simp only [Act.put, List.setIfInBounds_toArray, List.set_cons_zero, List.set_cons_succ]
        refine wpAnyH_take (i := 16) (v := ?_) (opAt rfl) (by kernel_rfl) (by kernel_rfl) (by kernel_rfl) (fun _ _ _ h => h) (Or.inl ⟨by rfl, ?_⟩) (by assumption) ?_
        rotate_left
        · (intro w hSw; (try dsimp only at hSw); go_simp) <;> with_reducible rfl
        try simp only [Act.put, List.setIfInBounds_toArray, List.set_cons_zero, List.set_cons_succ]
        refine wpAnyH_take (i := 17) (v := ?_) (opAt rfl) (by kernel_rfl) (by kernel_rfl) (by kernel_rfl) (fun _ _ _ h => h) (Or.inl ⟨by rfl, ?_⟩) (by assumption) ?_
        rotate_left
        · (intro w hSw; (try dsimp only at hSw); go_simp) <;> with_reducible rfl
        try simp only [Act.put, List.setIfInBounds_toArray, List.set_cons_zero, List.set_cons_succ]
        refine wpAnyH_take (i := 18) (v := ?_) (opAt rfl) (by kernel_rfl) (by kernel_rfl) (by kernel_rfl) (fun _ _ _ h => h) (Or.inl ⟨by rfl, ?_⟩) (by assumption) ?_
        rotate_left
        · (intro w hSw; (try dsimp only at hSw); go_simp) <;> with_reducible rfl
        try simp only [Act.put, List.setIfInBounds_toArray, List.set_cons_zero, List.set_cons_succ]
        refine wpAnyH_take (i := 19) (v := ?_) (opAt rfl) (by kernel_rfl) (by kernel_rfl) (by kernel_rfl) (fun _ _ _ h => h) (Or.inl ⟨by rfl, ?_⟩) (by assumption) ?_
        rotate_left
        · (intro w hSw; (try dsimp only at hSw); go_simp) <;> with_reducible rfl
        try simp only [Act.put, List.setIfInBounds_toArray, List.set_cons_zero, List.set_cons_succ]
        refine wpAnyH_take (i := 20) (v := ?_) (opAt rfl) (by kernel_rfl) (by kernel_rfl) (by kernel_rfl) (fun _ _ _ h => h) (Or.inl ⟨by rfl, ?_⟩) (by assumption) ?_
        rotate_left
        · (intro w hSw; (try dsimp only at hSw); go_simp) <;> with_reducible rfl
        try simp only [Act.put, List.setIfInBounds_toArray, List.set_cons_zero, List.set_cons_succ]
        refine wpAnyH_take (i := 21) (v := ?_) (opAt rfl) (by kernel_rfl) (by kernel_rfl) (by kernel_rfl) (fun _ _ _ h => h) (Or.inl ⟨by rfl, ?_⟩) (by assumption) ?_
        rotate_left
        · (intro w hSw; (try dsimp only at hSw); go_simp) <;> with_reducible rfl
        try simp only [Act.put, List.setIfInBounds_toArray, List.set_cons_zero, List.set_cons_succ]
        refine wpAnyH_take (i := 22) (v := ?_) (opAt rfl) (by kernel_rfl) (by kernel_rfl) (by kernel_rfl) (fun _ _ _ h => h) (Or.inl ⟨by rfl, ?_⟩) (by assumption) ?_
        rotate_left
        · (intro w hSw; (try dsimp only at hSw); go_simp) <;> with_reducible rfl
        try simp only [Act.put, List.setIfInBounds_toArray, List.set_cons_zero, List.set_cons_succ]
        refine wpAnyH_take (i := 23) (v := ?_) (opAt rfl) (by kernel_rfl) (by kernel_rfl) (by kernel_rfl) (fun _ _ _ h => h) (Or.inl ⟨by rfl, ?_⟩) (by assumption) ?_
        rotate_left
        · (intro w hSw; (try dsimp only at hSw); go_simp) <;> with_reducible rfl
        try simp only [Act.put, List.setIfInBounds_toArray, List.set_cons_zero, List.set_cons_succ]
        refine wpAnyH_take (i := 24) (v := ?_) (opAt rfl) (by kernel_rfl) (by kernel_rfl) (by kernel_rfl) (fun _ _ _ h => h) (Or.inl ⟨by rfl, ?_⟩) (by assumption) ?_
        rotate_left
        · (intro w hSw; (try dsimp only at hSw); go_simp) <;> with_reducible rfl
        try simp only [Act.put, List.setIfInBounds_toArray, List.set_cons_zero, List.set_cons_succ]
        refine wpAnyH_take (i := 25) (v := ?_) (opAt rfl) (by kernel_rfl) (by kernel_rfl) (by kernel_rfl) (fun _ _ _ h => h) (Or.inl ⟨by rfl, ?_⟩) (by assumption) ?_
        rotate_left
        · (intro w hSw; (try dsimp only at hSw); go_simp) <;> with_reducible rfl
        try simp only [Act.put, List.setIfInBounds_toArray, List.set_cons_zero, List.set_cons_succ]
        refine wpAnyH_take (i := 26) (v := ?_) (opAt rfl) (by kernel_rfl) (by kernel_rfl) (by kernel_rfl) (fun _ _ _ h => h) (Or.inl ⟨by rfl, ?_⟩) (by assumption) ?_
        rotate_left
        · (intro w hSw; (try dsimp only at hSw); go_simp) <;> with_reducible rfl
        try simp only [Act.put, List.setIfInBounds_toArray, List.set_cons_zero, List.set_cons_succ]
        refine wpAnyH_ready (rs := [0]) (by kernel_rfl) (by simp) ?_
        refine AllReadyH.cons (opAt rfl) (fun K hK => ?_) ?_
        · go_simp
          refine hK.out _ _ ?_ (fun hHeld1 => ?_)
          · (try dsimp only)
            refine S_of_ext ?_
            repeat (first | exact Ext.refl _ | refine Ext.up ?_ _ | refine Ext.alloc ?_ _ | refine Ext.drew ?_ | refine Ext.setRow ?_ (by first | (dsimp only; omega) | exact LeS.le | exact LeS.add _ | (simp; done) | (simp; omega)) _ | refine Ext.setCell ?_ (by first | (dsimp only; omega) | exact LeS.le | exact LeS.add _ | (simp; done) | (simp; omega)) _)
          clear hK K hHeld
          have hHeld := hHeld1; clear hHeld1
          try simp only [Act.put, List.setIfInBounds_toArray, List.set_cons_zero, List.set_cons_succ]
          refine wpAnyH_ready (rs := [7, 14]) (by kernel_rfl) (by simp) ?_
          refine AllReadyH.cons (opAt rfl) (fun K hK => ?_) ?_
          · rw [if_pos (by rfl)]
            refine wp_insert_own (.tmp 81) (.tmp 83) (.tmp 87) 96 rfl Try.underlying96 Try.underlying3 (made_own (w := zq.val.drew)) (by decide) src (f - amt) rfl rfl rfl ?_ ?_ ?_
            · exact wfI (by first | omega | (go_simp; omega))
            · exact wfI (by first | omega | (go_simp; omega))
            intro w8 o8 g8
            obtain ⟨z8, rfl⟩ := Up.of (show Ext zq.val w8 from Ext.grown (b := zq.val.drew.alloc (.map #[] 0)) (by repeat (first | exact Ext.refl _ | refine Ext.up ?_ _ | refine Ext.alloc ?_ _ | refine Ext.drew ?_ | refine Ext.setRow ?_ (by first | (dsimp only; omega) | exact LeS.le | exact LeS.add _ | (simp; done) | (simp; omega)) _ | refine Ext.setCell ?_ (by first | (dsimp only; omega) | exact LeS.le | exact LeS.add _ | (simp; done) | (simp; omega)) _)) g8 (fun k hk => by cases hk; exact LeS.le))
            have O8 := Lib.hid o8; clear o8 g8
            refine hK.out _ _ ?_ (fun hHeld1 => ?_)
            · (try dsimp only)
              refine S_of_ext ?_
              repeat (first | exact Ext.refl _ | refine Ext.up ?_ _ | refine Ext.alloc ?_ _ | refine Ext.drew ?_ | refine Ext.setRow ?_ (by first | (dsimp only; omega) | exact LeS.le | exact LeS.add _ | (simp; done) | (simp; omega)) _ | refine Ext.setCell ?_ (by first | (dsimp only; omega) | exact LeS.le | exact LeS.add _ | (simp; done) | (simp; omega)) _)
            clear hK K hHeld
            have hHeld := hHeld1; clear hHeld1
            try simp only [Act.put, List.setIfInBounds_toArray, List.set_cons_zero, List.set_cons_succ]
            refine wpAnyH_ready (rs := [14]) (by kernel_rfl) (by simp) ?_
            refine AllReadyH.cons (opAt rfl) (fun K hK => ?_) ?_
            · rw [if_pos (by rfl)]
              refine wp_insert_own (.tmp 81) (.tmp 89) (.tmp 93) 96 rfl Try.underlying96 Try.underlying3 O8.out (by decide) dst (t + amt) rfl rfl rfl ?_ ?_ ?_
              · exact wfI (by first | omega | (go_simp; omega))
              · exact wfI (by first | omega | (go_simp; omega))
              intro w8 o8 g8
              obtain ⟨z9, rfl⟩ := Up.of (show Ext zq.val w8 from Ext.grown (b := z8.val) (by repeat (first | exact Ext.refl _ | refine Ext.up ?_ _ | refine Ext.alloc ?_ _ | refine Ext.drew ?_ | refine Ext.setRow ?_ (by first | (dsimp only; omega) | exact LeS.le | exact LeS.add _ | (simp; done) | (simp; omega)) _ | refine Ext.setCell ?_ (by first | (dsimp only; omega) | exact LeS.le | exact LeS.add _ | (simp; done) | (simp; omega)) _)) g8 (fun k hk => by cases hk; exact LeS.le))
              have O9 := Lib.hid o8; clear o8 g8
              refine hK.out _ _ ?_ (fun hHeld1 => ?_)
              · (try dsimp only)
                refine S_of_ext ?_
                repeat (first | exact Ext.refl _ | refine Ext.up ?_ _ | refine Ext.alloc ?_ _ | refine Ext.drew ?_ | refine Ext.setRow ?_ (by first | (dsimp only; omega) | exact LeS.le | exact LeS.add _ | (simp; done) | (simp; omega)) _ | refine Ext.setCell ?_ (by first | (dsimp only; omega) | exact LeS.le | exact LeS.add _ | (simp; done) | (simp; omega)) _)
              clear hK K hHeld
              have hHeld := hHeld1; clear hHeld1
              try simp only [Act.put, List.setIfInBounds_toArray, List.set_cons_zero, List.set_cons_succ]
              refine wpAnyH_take (i := 15) (v := ?_) (opAt rfl) (by kernel_rfl) (by kernel_rfl) (by kernel_rfl) (fun _ _ _ h => h) (Or.inl ⟨by rfl, ?_⟩) (by assumption) ?_
              rotate_left
              · (intro w hSw; (try dsimp only at hSw); go_simp) <;> with_reducible rfl
              try simp only [Act.put, List.setIfInBounds_toArray, List.set_cons_zero, List.set_cons_succ]
              refine wpAnyH_take (i := 27) (v := ?_) (opAt rfl) (by kernel_rfl) (by kernel_rfl) (by kernel_rfl) (fun _ _ _ h => h) (Or.inl ⟨by rfl, ?_⟩) (by assumption) ?_
              rotate_left
              · (intro w hSw; (try dsimp only at hSw); go_simp) <;> with_reducible rfl
              try simp only [Act.put, List.setIfInBounds_toArray, List.set_cons_zero, List.set_cons_succ]
              refine wpAnyH_take (i := 28) (v := ?_) (opAt rfl) (by kernel_rfl) (by kernel_rfl) (by kernel_rfl) (fun _ _ _ h => h) (Or.inl ⟨by rfl, ?_⟩) (by assumption) ?_
              rotate_left
              · (intro w hSw; (try dsimp only at hSw); go_simp) <;> with_reducible rfl
              try simp only [Act.put, List.setIfInBounds_toArray, List.set_cons_zero, List.set_cons_succ]
              refine wpAnyH_done (by kernel_rfl) ?_ _
              go_wp2_with fail
              refine bodyPost_ret (v := .tuple #[.map (some zq.val.heap.size), .bool (decide (t + amt ≤ 1000000))]) (by simp [results, Try.results71, go_sem]) rfl ?_
              exact ⟨_, _, rfl, (.of (by repeat (first | (with_reducible exact Ext.refl _) | (with_reducible refine Ext.up ?_ _) | (with_reducible refine Ext.alloc ?_ _) | (with_reducible refine Ext.drew ?_) | (with_reducible refine Ext.setRow ?_ (by first | exact LeS.le | exact LeS.add _ | (simp; done) | (simp; omega)) _) | (with_reducible refine Ext.setCell ?_ (by first | exact LeS.le | exact LeS.add _ | (simp; done) | (simp; omega)) _)))), O9.out, HasAll.two (a := ⟨src, f - amt⟩) (b := ⟨dst, t + amt⟩) isMap0 (fun e => absurd e Hs0.out)⟩
            exact AllReadyH.nil
          refine AllReadyH.cons (opAt rfl) (fun K hK => ?_) ?_
          · rw [if_pos (by rfl)]
            refine wp_insert_own (.tmp 81) (.tmp 89) (.tmp 93) 96 rfl Try.underlying96 Try.underlying3 (made_own (w := zq.val.drew)) (by decide) dst (t + amt) rfl rfl rfl ?_ ?_ ?_
            · exact wfI (by first | omega | (go_simp; omega))
            · exact wfI (by first | omega | (go_simp; omega))
            intro w8 o8 g8
            obtain ⟨z8, rfl⟩ := Up.of (show Ext zq.val w8 from Ext.grown (b := zq.val.drew.alloc (.map #[] 0)) (by repeat (first | exact Ext.refl _ | refine Ext.up ?_ _ | refine Ext.alloc ?_ _ | refine Ext.drew ?_ | refine Ext.setRow ?_ (by first | (dsimp only; omega) | exact LeS.le | exact LeS.add _ | (simp; done) | (simp; omega)) _ | refine Ext.setCell ?_ (by first | (dsimp only; omega) | exact LeS.le | exact LeS.add _ | (simp; done) | (simp; omega)) _)) g8 (fun k hk => by cases hk; exact LeS.le))
            have O8 := Lib.hid o8; clear o8 g8
            refine hK.out _ _ ?_ (fun hHeld1 => ?_)
            · (try dsimp only)
              refine S_of_ext ?_
              repeat (first | exact Ext.refl _ | refine Ext.up ?_ _ | refine Ext.alloc ?_ _ | refine Ext.drew ?_ | refine Ext.setRow ?_ (by first | (dsimp only; omega) | exact LeS.le | exact LeS.add _ | (simp; done) | (simp; omega)) _ | refine Ext.setCell ?_ (by first | (dsimp only; omega) | exact LeS.le | exact LeS.add _ | (simp; done) | (simp; omega)) _)
            clear hK K hHeld
            have hHeld := hHeld1; clear hHeld1
            try simp only [Act.put, List.setIfInBounds_toArray, List.set_cons_zero, List.set_cons_succ]
            refine wpAnyH_ready (rs := [7]) (by kernel_rfl) (by simp) ?_
            refine AllReadyH.cons (opAt rfl) (fun K hK => ?_) ?_
            · rw [if_pos (by rfl)]
              refine wp_insert_own (.tmp 81) (.tmp 83) (.tmp 87) 96 rfl Try.underlying96 Try.underlying3 O8.out (by decide) src (f - amt) rfl rfl rfl ?_ ?_ ?_
              · exact wfI (by first | omega | (go_simp; omega))
              · exact wfI (by first | omega | (go_simp; omega))
              intro w8 o8 g8
              obtain ⟨z9, rfl⟩ := Up.of (show Ext zq.val w8 from Ext.grown (b := z8.val) (by repeat (first | exact Ext.refl _ | refine Ext.up ?_ _ | refine Ext.alloc ?_ _ | refine Ext.drew ?_ | refine Ext.setRow ?_ (by first | (dsimp only; omega) | exact LeS.le | exact LeS.add _ | (simp; done) | (simp; omega)) _ | refine Ext.setCell ?_ (by first | (dsimp only; omega) | exact LeS.le | exact LeS.add _ | (simp; done) | (simp; omega)) _)) g8 (fun k hk => by cases hk; exact LeS.le))
              have O9 := Lib.hid o8; clear o8 g8
              refine hK.out _ _ ?_ (fun hHeld1 => ?_)
              · (try dsimp only)
                refine S_of_ext ?_
                repeat (first | exact Ext.refl _ | refine Ext.up ?_ _ | refine Ext.alloc ?_ _ | refine Ext.drew ?_ | refine Ext.setRow ?_ (by first | (dsimp only; omega) | exact LeS.le | exact LeS.add _ | (simp; done) | (simp; omega)) _ | refine Ext.setCell ?_ (by first | (dsimp only; omega) | exact LeS.le | exact LeS.add _ | (simp; done) | (simp; omega)) _)
              clear hK K hHeld
              have hHeld := hHeld1; clear hHeld1
              try simp only [Act.put, List.setIfInBounds_toArray, List.set_cons_zero, List.set_cons_succ]
              refine wpAnyH_take (i := 15) (v := ?_) (opAt rfl) (by kernel_rfl) (by kernel_rfl) (by kernel_rfl) (fun _ _ _ h => h) (Or.inl ⟨by rfl, ?_⟩) (by assumption) ?_
              rotate_left
              · (intro w hSw; (try dsimp only at hSw); go_simp) <;> with_reducible rfl
              try simp only [Act.put, List.setIfInBounds_toArray, List.set_cons_zero, List.set_cons_succ]
              refine wpAnyH_take (i := 27) (v := ?_) (opAt rfl) (by kernel_rfl) (by kernel_rfl) (by kernel_rfl) (fun _ _ _ h => h) (Or.inl ⟨by rfl, ?_⟩) (by assumption) ?_
              rotate_left
              · (intro w hSw; (try dsimp only at hSw); go_simp) <;> with_reducible rfl
              try simp only [Act.put, List.setIfInBounds_toArray, List.set_cons_zero, List.set_cons_succ]
              refine wpAnyH_take (i := 28) (v := ?_) (opAt rfl) (by kernel_rfl) (by kernel_rfl) (by kernel_rfl) (fun _ _ _ h => h) (Or.inl ⟨by rfl, ?_⟩) (by assumption) ?_
              rotate_left
              · (intro w hSw; (try dsimp only at hSw); go_simp) <;> with_reducible rfl
              try simp only [Act.put, List.setIfInBounds_toArray, List.set_cons_zero, List.set_cons_succ]
              refine wpAnyH_done (by kernel_rfl) ?_ _
              go_wp2_with fail
              refine bodyPost_ret (v := .tuple #[.map (some zq.val.heap.size), .bool (decide (t + amt ≤ 1000000))]) (by simp [results, Try.results71, go_sem]) rfl ?_
              exact ⟨_, _, rfl, (.of (by repeat (first | (with_reducible exact Ext.refl _) | (with_reducible refine Ext.up ?_ _) | (with_reducible refine Ext.alloc ?_ _) | (with_reducible refine Ext.drew ?_) | (with_reducible refine Ext.setRow ?_ (by first | exact LeS.le | exact LeS.add _ | (simp; done) | (simp; omega)) _) | (with_reducible refine Ext.setCell ?_ (by first | exact LeS.le | exact LeS.add _ | (simp; done) | (simp; omega)) _)))), O9.out, HasAll.two' (a := ⟨src, f - amt⟩) (b := ⟨dst, t + amt⟩) isMap0 (fun e => absurd e Hs0.out)⟩
            exact AllReadyH.nil
          exact AllReadyH.nil
        exact AllReadyH.nil
      · have h1 : bd = false := by rw [← Hbd.out]; simp [runE, Actn.don, hfa]
        subst h1
        have hfa' : decide (amt ≤ f) = false := by simp [hfa]
        go_wp2_with fail
        refine wp_region_held_drew (S := (fun w' => (∀ n i, ∀ [LtS n zq.val], w'.cell? ⟨n, i, none⟩ = World.cell? zq.val ⟨n, i, none⟩) ∧ Ext zq.val w')) (by kernel_rfl) ?_ (fun hHeld => ?_)
        · (try dsimp only)
          refine S_of_ext ?_
          repeat (first | exact Ext.refl _ | refine Ext.up ?_ _ | refine Ext.alloc ?_ _ | refine Ext.drew ?_ | refine Ext.setRow ?_ (by first | (dsimp only; omega) | exact LeS.le | exact LeS.add _ | (simp; done) | (simp; omega)) _ | refine Ext.setCell ?_ (by first | (dsimp only; omega) | exact LeS.le | exact LeS.add _ | (simp; done) | (simp; omega)) _)
        refine wpAnyH_take (i := 1) (v := ?_) (opAt rfl) (by kernel_rfl) (by kernel_rfl) (by kernel_rfl) (fun _ _ _ h => h) (Or.inl ⟨by rfl, ?_⟩) (by assumption) ?_
        rotate_left
        · (intro w hSw; (try dsimp only at hSw); go_simp) <;> with_reducible rfl
        try simp only [Act.put, List.setIfInBounds_toArray, List.set_cons_zero, List.set_cons_succ]
        refine wpAnyH_take (i := 2) (v := ?_) (opAt rfl) (by kernel_rfl) (by kernel_rfl) (by kernel_rfl) (fun _ _ _ h => h) (Or.inl ⟨by rfl, ?_⟩) (by assumption) ?_
        rotate_left
        · (intro w hSw; (try dsimp only at hSw); go_simp) <;> with_reducible rfl
        try simp only [Act.put, List.setIfInBounds_toArray, List.set_cons_zero, List.set_cons_succ]
        refine wpAnyH_take (i := 3) (v := ?_) (opAt rfl) (by kernel_rfl) (by kernel_rfl) (by kernel_rfl) (fun _ _ _ h => h) (Or.inl ⟨by rfl, ?_⟩) (by assumption) ?_
        rotate_left
        · (intro w hSw; (try dsimp only at hSw); go_simp) <;> with_reducible rfl
        try simp only [Act.put, List.setIfInBounds_toArray, List.set_cons_zero, List.set_cons_succ]
        refine wpAnyH_take (i := 4) (v := ?_) (opAt rfl) (by kernel_rfl) (by kernel_rfl) (by kernel_rfl) (fun _ _ _ h => h) (Or.inl ⟨by rfl, ?_⟩) (by assumption) ?_
        rotate_left
        · (intro w hSw; (try dsimp only at hSw); go_simp) <;> with_reducible rfl
        try simp only [Act.put, List.setIfInBounds_toArray, List.set_cons_zero, List.set_cons_succ]
        refine wpAnyH_take (i := 5) (v := ?_) (opAt rfl) (by kernel_rfl) (by kernel_rfl) (by kernel_rfl) (fun _ _ _ h => h) (Or.inl ⟨by rfl, ?_⟩) (by assumption) ?_
        rotate_left
        · (intro w hSw; (try dsimp only at hSw); go_simp) <;> with_reducible rfl
        try simp only [Act.put, List.setIfInBounds_toArray, List.set_cons_zero, List.set_cons_succ]
        refine wpAnyH_take (i := 6) (v := ?_) (opAt rfl) (by kernel_rfl) (by kernel_rfl) (by kernel_rfl) (fun _ _ _ h => h) (Or.inl ⟨by rfl, ?_⟩) (by assumption) ?_
        rotate_left
        · (intro w hSw; (try dsimp only at hSw); go_simp) <;> with_reducible rfl
        try simp only [Act.put, List.setIfInBounds_toArray, List.set_cons_zero, List.set_cons_succ]
        refine wpAnyH_take (i := 8) (v := ?_) (opAt rfl) (by kernel_rfl) (by kernel_rfl) (by kernel_rfl) (fun _ _ _ h => h) (Or.inl ⟨by rfl, ?_⟩) (by assumption) ?_
        rotate_left
        · (intro w hSw; (try dsimp only at hSw); go_simp) <;> with_reducible rfl
        try simp only [Act.put, List.setIfInBounds_toArray, List.set_cons_zero, List.set_cons_succ]
        refine wpAnyH_take (i := 9) (v := ?_) (opAt rfl) (by kernel_rfl) (by kernel_rfl) (by kernel_rfl) (fun _ _ _ h => h) (Or.inl ⟨by rfl, ?_⟩) (by assumption) ?_
        rotate_left
        · (intro w hSw; (try dsimp only at hSw); go_simp) <;> with_reducible rfl
        try simp only [Act.put, List.setIfInBounds_toArray, List.set_cons_zero, List.set_cons_succ]
        refine wpAnyH_take (i := 10) (v := ?_) (opAt rfl) (by kernel_rfl) (by kernel_rfl) (by kernel_rfl) (fun _ _ _ h => h) (Or.inl ⟨by rfl, ?_⟩) (by assumption) ?_
        rotate_left
        · (intro w hSw; (try dsimp only at hSw); go_simp) <;> with_reducible rfl
        try simp only [Act.put, List.setIfInBounds_toArray, List.set_cons_zero, List.set_cons_succ]
        refine wpAnyH_take (i := 11) (v := ?_) (opAt rfl) (by kernel_rfl) (by kernel_rfl) (by kernel_rfl) (fun _ _ _ h => h) (Or.inl ⟨by rfl, ?_⟩) (by assumption) ?_
        rotate_left
        · (intro w hSw; (try dsimp only at hSw); go_simp) <;> with_reducible rfl
        try simp only [Act.put, List.setIfInBounds_toArray, List.set_cons_zero, List.set_cons_succ]
        refine wpAnyH_take (i := 12) (v := ?_) (opAt rfl) (by kernel_rfl) (by kernel_rfl) (by kernel_rfl) (fun _ _ _ h => h) (Or.inl ⟨by rfl, ?_⟩) (by assumption) ?_
        rotate_left
        · (intro w hSw; (try dsimp only at hSw); go_simp) <;> with_reducible rfl
        try simp only [Act.put, List.setIfInBounds_toArray, List.set_cons_zero, List.set_cons_succ]
        refine wpAnyH_take (i := 13) (v := ?_) (opAt rfl) (by kernel_rfl) (by kernel_rfl) (by kernel_rfl) (fun _ _ _ h => h) (Or.inl ⟨by rfl, ?_⟩) (by assumption) ?_
        rotate_left
        · (intro w hSw; (try dsimp only at hSw); go_simp) <;> with_reducible rfl
        try simp only [Act.put, List.setIfInBounds_toArray, List.set_cons_zero, List.set_cons_succ]
        refine wpAnyH_take (i := 16) (v := ?_) (opAt rfl) (by kernel_rfl) (by kernel_rfl) (by kernel_rfl) (fun _ _ _ h => h) (Or.inl ⟨by rfl, ?_⟩) (by assumption) ?_
        rotate_left
        · (intro w hSw; (try dsimp only at hSw); go_simp) <;> with_reducible rfl
        try simp only [Act.put, List.setIfInBounds_toArray, List.set_cons_zero, List.set_cons_succ]
        refine wpAnyH_take (i := 17) (v := ?_) (opAt rfl) (by kernel_rfl) (by kernel_rfl) (by kernel_rfl) (fun _ _ _ h => h) (Or.inl ⟨by rfl, ?_⟩) (by assumption) ?_
        rotate_left
        · (intro w hSw; (try dsimp only at hSw); go_simp) <;> with_reducible rfl
        try simp only [Act.put, List.setIfInBounds_toArray, List.set_cons_zero, List.set_cons_succ]
        refine wpAnyH_take (i := 18) (v := ?_) (opAt rfl) (by kernel_rfl) (by kernel_rfl) (by kernel_rfl) (fun _ _ _ h => h) (Or.inl ⟨by rfl, ?_⟩) (by assumption) ?_
        rotate_left
        · (intro w hSw; (try dsimp only at hSw); go_simp) <;> with_reducible rfl
        try simp only [Act.put, List.setIfInBounds_toArray, List.set_cons_zero, List.set_cons_succ]
        refine wpAnyH_take (i := 19) (v := ?_) (opAt rfl) (by kernel_rfl) (by kernel_rfl) (by kernel_rfl) (fun _ _ _ h => h) (Or.inl ⟨by rfl, ?_⟩) (by assumption) ?_
        rotate_left
        · (intro w hSw; (try dsimp only at hSw); go_simp) <;> with_reducible rfl
        try simp only [Act.put, List.setIfInBounds_toArray, List.set_cons_zero, List.set_cons_succ]
        refine wpAnyH_take (i := 20) (v := ?_) (opAt rfl) (by kernel_rfl) (by kernel_rfl) (by kernel_rfl) (fun _ _ _ h => h) (Or.inl ⟨by rfl, ?_⟩) (by assumption) ?_
        rotate_left
        · (intro w hSw; (try dsimp only at hSw); go_simp) <;> with_reducible rfl
        try simp only [Act.put, List.setIfInBounds_toArray, List.set_cons_zero, List.set_cons_succ]
        refine wpAnyH_take (i := 21) (v := undef) (opAt rfl) (by kernel_rfl) (by kernel_rfl) (by kernel_rfl) (fun _ _ _ h => h) (Or.inr ⟨by rfl, rfl⟩) (by assumption) ?_
        try simp only [Act.put, List.setIfInBounds_toArray, List.set_cons_zero, List.set_cons_succ]
        refine wpAnyH_take (i := 22) (v := undef) (opAt rfl) (by kernel_rfl) (by kernel_rfl) (by kernel_rfl) (fun _ _ _ h => h) (Or.inr ⟨by rfl, rfl⟩) (by assumption) ?_
        try simp only [Act.put, List.setIfInBounds_toArray, List.set_cons_zero, List.set_cons_succ]
        refine wpAnyH_take (i := 23) (v := undef) (opAt rfl) (by kernel_rfl) (by kernel_rfl) (by kernel_rfl) (fun _ _ _ h => h) (Or.inr ⟨by rfl, rfl⟩) (by assumption) ?_
        try simp only [Act.put, List.setIfInBounds_toArray, List.set_cons_zero, List.set_cons_succ]
        refine wpAnyH_take (i := 24) (v := undef) (opAt rfl) (by kernel_rfl) (by kernel_rfl) (by kernel_rfl) (fun _ _ _ h => h) (Or.inr ⟨by rfl, rfl⟩) (by assumption) ?_
        try simp only [Act.put, List.setIfInBounds_toArray, List.set_cons_zero, List.set_cons_succ]
        refine wpAnyH_take (i := 25) (v := undef) (opAt rfl) (by kernel_rfl) (by kernel_rfl) (by kernel_rfl) (fun _ _ _ h => h) (Or.inr ⟨by rfl, rfl⟩) (by assumption) ?_
        try simp only [Act.put, List.setIfInBounds_toArray, List.set_cons_zero, List.set_cons_succ]
        refine wpAnyH_take (i := 26) (v := ?_) (opAt rfl) (by kernel_rfl) (by kernel_rfl) (by kernel_rfl) (fun _ _ _ h => h) (Or.inl ⟨by rfl, ?_⟩) (by assumption) ?_
        rotate_left
        · (intro w hSw; (try dsimp only at hSw); go_simp) <;> with_reducible rfl
        try simp only [Act.put, List.setIfInBounds_toArray, List.set_cons_zero, List.set_cons_succ]
        refine wpAnyH_ready (rs := [0]) (by kernel_rfl) (by simp) ?_
        refine AllReadyH.cons (opAt rfl) (fun K hK => ?_) ?_
        · go_simp
          refine hK.out _ _ ?_ (fun hHeld1 => ?_)
          · (try dsimp only)
            refine S_of_ext ?_
            repeat (first | exact Ext.refl _ | refine Ext.up ?_ _ | refine Ext.alloc ?_ _ | refine Ext.drew ?_ | refine Ext.setRow ?_ (by first | (dsimp only; omega) | exact LeS.le | exact LeS.add _ | (simp; done) | (simp; omega)) _ | refine Ext.setCell ?_ (by first | (dsimp only; omega) | exact LeS.le | exact LeS.add _ | (simp; done) | (simp; omega)) _)
          clear hK K hHeld
          have hHeld := hHeld1; clear hHeld1
          try simp only [Act.put, List.setIfInBounds_toArray, List.set_cons_zero, List.set_cons_succ]
          refine wpAnyH_ready (rs := [7, 14]) (by kernel_rfl) (by simp) ?_
          refine AllReadyH.cons (opAt rfl) (fun K hK => ?_) ?_
          · rw [if_pos (by rfl)]
            refine wp_insert_own (.tmp 81) (.tmp 83) (.tmp 87) 96 rfl Try.underlying96 Try.underlying3 (made_own (w := zq.val.drew)) (by decide) src (f - amt) rfl rfl rfl ?_ ?_ ?_
            · exact wfI (by first | omega | (go_simp; omega))
            · exact wfI (by first | omega | (go_simp; omega))
            intro w8 o8 g8
            obtain ⟨z8, rfl⟩ := Up.of (show Ext zq.val w8 from Ext.grown (b := zq.val.drew.alloc (.map #[] 0)) (by repeat (first | exact Ext.refl _ | refine Ext.up ?_ _ | refine Ext.alloc ?_ _ | refine Ext.drew ?_ | refine Ext.setRow ?_ (by first | (dsimp only; omega) | exact LeS.le | exact LeS.add _ | (simp; done) | (simp; omega)) _ | refine Ext.setCell ?_ (by first | (dsimp only; omega) | exact LeS.le | exact LeS.add _ | (simp; done) | (simp; omega)) _)) g8 (fun k hk => by cases hk; exact LeS.le))
            have O8 := Lib.hid o8; clear o8 g8
            refine hK.out _ _ ?_ (fun hHeld1 => ?_)
            · (try dsimp only)
              refine S_of_ext ?_
              repeat (first | exact Ext.refl _ | refine Ext.up ?_ _ | refine Ext.alloc ?_ _ | refine Ext.drew ?_ | refine Ext.setRow ?_ (by first | (dsimp only; omega) | exact LeS.le | exact LeS.add _ | (simp; done) | (simp; omega)) _ | refine Ext.setCell ?_ (by first | (dsimp only; omega) | exact LeS.le | exact LeS.add _ | (simp; done) | (simp; omega)) _)
            clear hK K hHeld
            have hHeld := hHeld1; clear hHeld1
            try simp only [Act.put, List.setIfInBounds_toArray, List.set_cons_zero, List.set_cons_succ]
            refine wpAnyH_ready (rs := [14]) (by kernel_rfl) (by simp) ?_
            refine AllReadyH.cons (opAt rfl) (fun K hK => ?_) ?_
            · rw [if_pos (by rfl)]
              refine wp_insert_own (.tmp 81) (.tmp 89) (.tmp 93) 96 rfl Try.underlying96 Try.underlying3 O8.out (by decide) dst (t + amt) rfl rfl rfl ?_ ?_ ?_
              · exact wfI (by first | omega | (go_simp; omega))
              · exact wfI (by first | omega | (go_simp; omega))
              intro w8 o8 g8
              obtain ⟨z9, rfl⟩ := Up.of (show Ext zq.val w8 from Ext.grown (b := z8.val) (by repeat (first | exact Ext.refl _ | refine Ext.up ?_ _ | refine Ext.alloc ?_ _ | refine Ext.drew ?_ | refine Ext.setRow ?_ (by first | (dsimp only; omega) | exact LeS.le | exact LeS.add _ | (simp; done) | (simp; omega)) _ | refine Ext.setCell ?_ (by first | (dsimp only; omega) | exact LeS.le | exact LeS.add _ | (simp; done) | (simp; omega)) _)) g8 (fun k hk => by cases hk; exact LeS.le))
              have O9 := Lib.hid o8; clear o8 g8
              refine hK.out _ _ ?_ (fun hHeld1 => ?_)
              · (try dsimp only)
                refine S_of_ext ?_
                repeat (first | exact Ext.refl _ | refine Ext.up ?_ _ | refine Ext.alloc ?_ _ | refine Ext.drew ?_ | refine Ext.setRow ?_ (by first | (dsimp only; omega) | exact LeS.le | exact LeS.add _ | (simp; done) | (simp; omega)) _ | refine Ext.setCell ?_ (by first | (dsimp only; omega) | exact LeS.le | exact LeS.add _ | (simp; done) | (simp; omega)) _)
              clear hK K hHeld
              have hHeld := hHeld1; clear hHeld1
              try simp only [Act.put, List.setIfInBounds_toArray, List.set_cons_zero, List.set_cons_succ]
              refine wpAnyH_take (i := 15) (v := ?_) (opAt rfl) (by kernel_rfl) (by kernel_rfl) (by kernel_rfl) (fun _ _ _ h => h) (Or.inl ⟨by rfl, ?_⟩) (by assumption) ?_
              rotate_left
              · (intro w hSw; (try dsimp only at hSw); go_simp) <;> with_reducible rfl
              try simp only [Act.put, List.setIfInBounds_toArray, List.set_cons_zero, List.set_cons_succ]
              refine wpAnyH_take (i := 27) (v := ?_) (opAt rfl) (by kernel_rfl) (by kernel_rfl) (by kernel_rfl) (fun _ _ _ h => h) (Or.inl ⟨by rfl, ?_⟩) (by assumption) ?_
              rotate_left
              · (intro w hSw; (try dsimp only at hSw); go_simp) <;> with_reducible rfl
              try simp only [Act.put, List.setIfInBounds_toArray, List.set_cons_zero, List.set_cons_succ]
              refine wpAnyH_take (i := 28) (v := ?_) (opAt rfl) (by kernel_rfl) (by kernel_rfl) (by kernel_rfl) (fun _ _ _ h => h) (Or.inl ⟨by rfl, ?_⟩) (by assumption) ?_
              rotate_left
              · (intro w hSw; (try dsimp only at hSw); go_simp) <;> with_reducible rfl
              try simp only [Act.put, List.setIfInBounds_toArray, List.set_cons_zero, List.set_cons_succ]
              refine wpAnyH_done (by kernel_rfl) ?_ _
              go_wp2_with fail
              refine bodyPost_ret (v := .tuple #[.map (some zq.val.heap.size), .bool false]) (by simp [results, Try.results71, go_sem]) rfl ?_
              exact ⟨_, _, rfl, (.of (by repeat (first | (with_reducible exact Ext.refl _) | (with_reducible refine Ext.up ?_ _) | (with_reducible refine Ext.alloc ?_ _) | (with_reducible refine Ext.drew ?_) | (with_reducible refine Ext.setRow ?_ (by first | exact LeS.le | exact LeS.add _ | (simp; done) | (simp; omega)) _) | (with_reducible refine Ext.setCell ?_ (by first | exact LeS.le | exact LeS.add _ | (simp; done) | (simp; omega)) _)))), O9.out, HasAll.two (a := ⟨src, f - amt⟩) (b := ⟨dst, t + amt⟩) isMap0 (fun e => absurd e Hs0.out)⟩
            exact AllReadyH.nil
          refine AllReadyH.cons (opAt rfl) (fun K hK => ?_) ?_
          · rw [if_pos (by rfl)]
            refine wp_insert_own (.tmp 81) (.tmp 89) (.tmp 93) 96 rfl Try.underlying96 Try.underlying3 (made_own (w := zq.val.drew)) (by decide) dst (t + amt) rfl rfl rfl ?_ ?_ ?_
            · exact wfI (by first | omega | (go_simp; omega))
            · exact wfI (by first | omega | (go_simp; omega))
            intro w8 o8 g8
            obtain ⟨z8, rfl⟩ := Up.of (show Ext zq.val w8 from Ext.grown (b := zq.val.drew.alloc (.map #[] 0)) (by repeat (first | exact Ext.refl _ | refine Ext.up ?_ _ | refine Ext.alloc ?_ _ | refine Ext.drew ?_ | refine Ext.setRow ?_ (by first | (dsimp only; omega) | exact LeS.le | exact LeS.add _ | (simp; done) | (simp; omega)) _ | refine Ext.setCell ?_ (by first | (dsimp only; omega) | exact LeS.le | exact LeS.add _ | (simp; done) | (simp; omega)) _)) g8 (fun k hk => by cases hk; exact LeS.le))
            have O8 := Lib.hid o8; clear o8 g8
            refine hK.out _ _ ?_ (fun hHeld1 => ?_)
            · (try dsimp only)
              refine S_of_ext ?_
              repeat (first | exact Ext.refl _ | refine Ext.up ?_ _ | refine Ext.alloc ?_ _ | refine Ext.drew ?_ | refine Ext.setRow ?_ (by first | (dsimp only; omega) | exact LeS.le | exact LeS.add _ | (simp; done) | (simp; omega)) _ | refine Ext.setCell ?_ (by first | (dsimp only; omega) | exact LeS.le | exact LeS.add _ | (simp; done) | (simp; omega)) _)
            clear hK K hHeld
            have hHeld := hHeld1; clear hHeld1
            try simp only [Act.put, List.setIfInBounds_toArray, List.set_cons_zero, List.set_cons_succ]
            refine wpAnyH_ready (rs := [7]) (by kernel_rfl) (by simp) ?_
            refine AllReadyH.cons (opAt rfl) (fun K hK => ?_) ?_
            · rw [if_pos (by rfl)]
              refine wp_insert_own (.tmp 81) (.tmp 83) (.tmp 87) 96 rfl Try.underlying96 Try.underlying3 O8.out (by decide) src (f - amt) rfl rfl rfl ?_ ?_ ?_
              · exact wfI (by first | omega | (go_simp; omega))
              · exact wfI (by first | omega | (go_simp; omega))
              intro w8 o8 g8
              obtain ⟨z9, rfl⟩ := Up.of (show Ext zq.val w8 from Ext.grown (b := z8.val) (by repeat (first | exact Ext.refl _ | refine Ext.up ?_ _ | refine Ext.alloc ?_ _ | refine Ext.drew ?_ | refine Ext.setRow ?_ (by first | (dsimp only; omega) | exact LeS.le | exact LeS.add _ | (simp; done) | (simp; omega)) _ | refine Ext.setCell ?_ (by first | (dsimp only; omega) | exact LeS.le | exact LeS.add _ | (simp; done) | (simp; omega)) _)) g8 (fun k hk => by cases hk; exact LeS.le))
              have O9 := Lib.hid o8; clear o8 g8
              refine hK.out _ _ ?_ (fun hHeld1 => ?_)
              · (try dsimp only)
                refine S_of_ext ?_
                repeat (first | exact Ext.refl _ | refine Ext.up ?_ _ | refine Ext.alloc ?_ _ | refine Ext.drew ?_ | refine Ext.setRow ?_ (by first | (dsimp only; omega) | exact LeS.le | exact LeS.add _ | (simp; done) | (simp; omega)) _ | refine Ext.setCell ?_ (by first | (dsimp only; omega) | exact LeS.le | exact LeS.add _ | (simp; done) | (simp; omega)) _)
              clear hK K hHeld
              have hHeld := hHeld1; clear hHeld1
              try simp only [Act.put, List.setIfInBounds_toArray, List.set_cons_zero, List.set_cons_succ]
              refine wpAnyH_take (i := 15) (v := ?_) (opAt rfl) (by kernel_rfl) (by kernel_rfl) (by kernel_rfl) (fun _ _ _ h => h) (Or.inl ⟨by rfl, ?_⟩) (by assumption) ?_
              rotate_left
              · (intro w hSw; (try dsimp only at hSw); go_simp) <;> with_reducible rfl
              try simp only [Act.put, List.setIfInBounds_toArray, List.set_cons_zero, List.set_cons_succ]
              refine wpAnyH_take (i := 27) (v := ?_) (opAt rfl) (by kernel_rfl) (by kernel_rfl) (by kernel_rfl) (fun _ _ _ h => h) (Or.inl ⟨by rfl, ?_⟩) (by assumption) ?_
              rotate_left
              · (intro w hSw; (try dsimp only at hSw); go_simp) <;> with_reducible rfl
              try simp only [Act.put, List.setIfInBounds_toArray, List.set_cons_zero, List.set_cons_succ]
              refine wpAnyH_take (i := 28) (v := ?_) (opAt rfl) (by kernel_rfl) (by kernel_rfl) (by kernel_rfl) (fun _ _ _ h => h) (Or.inl ⟨by rfl, ?_⟩) (by assumption) ?_
              rotate_left
              · (intro w hSw; (try dsimp only at hSw); go_simp) <;> with_reducible rfl
              try simp only [Act.put, List.setIfInBounds_toArray, List.set_cons_zero, List.set_cons_succ]
              refine wpAnyH_done (by kernel_rfl) ?_ _
              go_wp2_with fail
              refine bodyPost_ret (v := .tuple #[.map (some zq.val.heap.size), .bool false]) (by simp [results, Try.results71, go_sem]) rfl ?_
              exact ⟨_, _, rfl, (.of (by repeat (first | (with_reducible exact Ext.refl _) | (with_reducible refine Ext.up ?_ _) | (with_reducible refine Ext.alloc ?_ _) | (with_reducible refine Ext.drew ?_) | (with_reducible refine Ext.setRow ?_ (by first | exact LeS.le | exact LeS.add _ | (simp; done) | (simp; omega)) _) | (with_reducible refine Ext.setCell ?_ (by first | exact LeS.le | exact LeS.add _ | (simp; done) | (simp; omega)) _)))), O9.out, HasAll.two' (a := ⟨src, f - amt⟩) (b := ⟨dst, t + amt⟩) isMap0 (fun e => absurd e Hs0.out)⟩
            exact AllReadyH.nil
          exact AllReadyH.nil
        exact AllReadyH.nil
  · have h1 : bd = true := by rw [← Hbd.out]; simp [runE, Actn.don]
    have h2 : wl = [⟨dst, f⟩] := by rw [← Hwl.out]; simp [Actn.wrs]
    subst h1; subst h2
    go_wp2_with ((refine wpList_insert_own (by rfl) (.tmp 39) (.tmp 41) (.tmp 42) 96 (by rfl) Try.underlying96 Try.underlying3 made_own (by decide) _ _ rfl rfl rfl (wfI (by omega)) (wfI (by omega)) ?_; intro w8 o8 g8; obtain ⟨z8, rfl⟩ := Up.of (show Ext w w8 from Ext.grown (b := zq.val.alloc (.map #[] 0)) (by repeat (first | (with_reducible exact Ext.refl _) | (with_reducible refine Ext.up ?_ _) | (with_reducible refine Ext.alloc ?_ _) | (with_reducible refine Ext.drew ?_) | (with_reducible refine Ext.setRow ?_ (by first | exact LeS.le | exact LeS.add _ | (simp; done) | (simp; omega)) _) | (with_reducible refine Ext.setCell ?_ (by first | exact LeS.le | exact LeS.add _ | (simp; done) | (simp; omega)) _))) g8 (fun k hk => by cases hk; exact LeS.le)); have O8 := Lib.hid o8; clear o8 g8))
    refine bodyPost_ret (v := .tuple #[.map (some zq.val.heap.size), .bool true]) (by simp [results, Try.results71, go_sem]) rfl ?_
    first | exact ⟨_, _, rfl, ⟨z8, rfl⟩, O8.out.mono (by decide), HasAll.one isMap0 _ _⟩ | exact ⟨_, rfl, ⟨z8, rfl⟩, _, O8.out.mono (by decide), HasAll.one isMap0 _ _⟩
  · have h1 : bd = true := by rw [← Hbd.out]; simp [runE, Actn.don]
    have h2 : ∀ y ∈ wl, y ∈ sort2 ⟨src, t⟩ ⟨dst, f⟩ := by
      rw [← Hwl.out]
      intro y hy
      by_cases e : src = dst
      · simp [Actn.wrs, e] at hy
        subst hy
        unfold sort2; split <;> simp
      · simpa [Actn.wrs, e] using hy
    subst h1
    have H2 := Lib.hid h2; clear h2
    go_wp2_with fail
    refine wp_region_held_drew (S := (fun w' => (∀ n i, ∀ [LtS n zq.val], w'.cell? ⟨n, i, none⟩ = World.cell? zq.val ⟨n, i, none⟩) ∧ Ext zq.val w')) (by kernel_rfl) ?_ (fun hHeld => ?_)
    · (try dsimp only)
      refine S_of_ext ?_
      repeat (first | exact Ext.refl _ | refine Ext.up ?_ _ | refine Ext.alloc ?_ _ | refine Ext.drew ?_ | refine Ext.setRow ?_ (by first | (dsimp only; omega) | exact LeS.le | exact LeS.add _ | (simp; done) | (simp; omega)) _ | refine Ext.setCell ?_ (by first | (dsimp only; omega) | exact LeS.le | exact LeS.add _ | (simp; done) | (simp; omega)) _)
    refine wpAnyH_take (i := 1) (v := ?_) (opAt rfl) (by kernel_rfl) (by kernel_rfl) (by kernel_rfl) (fun _ _ _ h => h) (Or.inl ⟨by rfl, ?_⟩) (by assumption) ?_
    rotate_left
    · (intro w hSw; (try dsimp only at hSw); go_simp) <;> with_reducible rfl
    try simp only [Act.put, List.setIfInBounds_toArray, List.set_cons_zero, List.set_cons_succ]
    refine wpAnyH_take (i := 2) (v := ?_) (opAt rfl) (by kernel_rfl) (by kernel_rfl) (by kernel_rfl) (fun _ _ _ h => h) (Or.inl ⟨by rfl, ?_⟩) (by assumption) ?_
    rotate_left
    · (intro w hSw; (try dsimp only at hSw); go_simp) <;> with_reducible rfl
    try simp only [Act.put, List.setIfInBounds_toArray, List.set_cons_zero, List.set_cons_succ]
    refine wpAnyH_take (i := 3) (v := ?_) (opAt rfl) (by kernel_rfl) (by kernel_rfl) (by kernel_rfl) (fun _ _ _ h => h) (Or.inl ⟨by rfl, ?_⟩) (by assumption) ?_
    rotate_left
    · (intro w hSw; (try dsimp only at hSw); go_simp) <;> with_reducible rfl
    try simp only [Act.put, List.setIfInBounds_toArray, List.set_cons_zero, List.set_cons_succ]
    refine wpAnyH_take (i := 5) (v := ?_) (opAt rfl) (by kernel_rfl) (by kernel_rfl) (by kernel_rfl) (fun _ _ _ h => h) (Or.inl ⟨by rfl, ?_⟩) (by assumption) ?_
    rotate_left
    · (intro w hSw; (try dsimp only at hSw); go_simp) <;> with_reducible rfl
    try simp only [Act.put, List.setIfInBounds_toArray, List.set_cons_zero, List.set_cons_succ]
    refine wpAnyH_take (i := 6) (v := ?_) (opAt rfl) (by kernel_rfl) (by kernel_rfl) (by kernel_rfl) (fun _ _ _ h => h) (Or.inl ⟨by rfl, ?_⟩) (by assumption) ?_
    rotate_left
    · (intro w hSw; (try dsimp only at hSw); go_simp) <;> with_reducible rfl
    try simp only [Act.put, List.setIfInBounds_toArray, List.set_cons_zero, List.set_cons_succ]
    refine wpAnyH_take (i := 7) (v := ?_) (opAt rfl) (by kernel_rfl) (by kernel_rfl) (by kernel_rfl) (fun _ _ _ h => h) (Or.inl ⟨by rfl, ?_⟩) (by assumption) ?_
    rotate_left
    · (intro w hSw; (try dsimp only at hSw); go_simp) <;> with_reducible rfl
    try simp only [Act.put, List.setIfInBounds_toArray, List.set_cons_zero, List.set_cons_succ]
    refine wpAnyH_ready (rs := [0]) (by kernel_rfl) (by simp) ?_
    refine AllReadyH.cons (opAt rfl) (fun K hK => ?_) ?_
    · go_simp
      refine hK.out _ _ ?_ (fun hHeld1 => ?_)
      · (try dsimp only)
        refine S_of_ext ?_
        repeat (first | exact Ext.refl _ | refine Ext.up ?_ _ | refine Ext.alloc ?_ _ | refine Ext.drew ?_ | refine Ext.setRow ?_ (by first | (dsimp only; omega) | exact LeS.le | exact LeS.add _ | (simp; done) | (simp; omega)) _ | refine Ext.setCell ?_ (by first | (dsimp only; omega) | exact LeS.le | exact LeS.add _ | (simp; done) | (simp; omega)) _)
      clear hK K hHeld
      have hHeld := hHeld1; clear hHeld1
      try simp only [Act.put, List.setIfInBounds_toArray, List.set_cons_zero, List.set_cons_succ]
      refine wpAnyH_ready (rs := [4, 8]) (by kernel_rfl) (by simp) ?_
      refine AllReadyH.cons (opAt rfl) (fun K hK => ?_) ?_
      · rw [if_pos (by rfl)]
        refine wp_insert_own (.tmp 46) (.tmp 48) (.tmp 49) 96 rfl Try.underlying96 Try.underlying3 (made_own (w := zq.val.drew)) (by decide) src t rfl rfl rfl ?_ ?_ ?_
        · exact wfI (by first | omega | (go_simp; omega))
        · exact wfI (by first | omega | (go_simp; omega))
        intro w8 o8 g8
        obtain ⟨z8, rfl⟩ := Up.of (show Ext zq.val w8 from Ext.grown (b := zq.val.drew.alloc (.map #[] 0)) (by repeat (first | exact Ext.refl _ | refine Ext.up ?_ _ | refine Ext.alloc ?_ _ | refine Ext.drew ?_ | refine Ext.setRow ?_ (by first | (dsimp only; omega) | exact LeS.le | exact LeS.add _ | (simp; done) | (simp; omega)) _ | refine Ext.setCell ?_ (by first | (dsimp only; omega) | exact LeS.le | exact LeS.add _ | (simp; done) | (simp; omega)) _)) g8 (fun k hk => by cases hk; exact LeS.le))
        have O8 := Lib.hid o8; clear o8 g8
        refine hK.out _ _ ?_ (fun hHeld1 => ?_)
        · (try dsimp only)
          refine S_of_ext ?_
          repeat (first | exact Ext.refl _ | refine Ext.up ?_ _ | refine Ext.alloc ?_ _ | refine Ext.drew ?_ | refine Ext.setRow ?_ (by first | (dsimp only; omega) | exact LeS.le | exact LeS.add _ | (simp; done) | (simp; omega)) _ | refine Ext.setCell ?_ (by first | (dsimp only; omega) | exact LeS.le | exact LeS.add _ | (simp; done) | (simp; omega)) _)
        clear hK K hHeld
        have hHeld := hHeld1; clear hHeld1
        try simp only [Act.put, List.setIfInBounds_toArray, List.set_cons_zero, List.set_cons_succ]
        refine wpAnyH_ready (rs := [8]) (by kernel_rfl) (by simp) ?_
        refine AllReadyH.cons (opAt rfl) (fun K hK => ?_) ?_
        · rw [if_pos (by rfl)]
          refine wp_insert_own (.tmp 46) (.tmp 51) (.tmp 52) 96 rfl Try.underlying96 Try.underlying3 O8.out (by decide) dst f rfl rfl rfl ?_ ?_ ?_
          · exact wfI (by first | omega | (go_simp; omega))
          · exact wfI (by first | omega | (go_simp; omega))
          intro w8 o8 g8
          obtain ⟨z9, rfl⟩ := Up.of (show Ext zq.val w8 from Ext.grown (b := z8.val) (by repeat (first | exact Ext.refl _ | refine Ext.up ?_ _ | refine Ext.alloc ?_ _ | refine Ext.drew ?_ | refine Ext.setRow ?_ (by first | (dsimp only; omega) | exact LeS.le | exact LeS.add _ | (simp; done) | (simp; omega)) _ | refine Ext.setCell ?_ (by first | (dsimp only; omega) | exact LeS.le | exact LeS.add _ | (simp; done) | (simp; omega)) _)) g8 (fun k hk => by cases hk; exact LeS.le))
          have O9 := Lib.hid o8; clear o8 g8
          refine hK.out _ _ ?_ (fun hHeld1 => ?_)
          · (try dsimp only)
            refine S_of_ext ?_
            repeat (first | exact Ext.refl _ | refine Ext.up ?_ _ | refine Ext.alloc ?_ _ | refine Ext.drew ?_ | refine Ext.setRow ?_ (by first | (dsimp only; omega) | exact LeS.le | exact LeS.add _ | (simp; done) | (simp; omega)) _ | refine Ext.setCell ?_ (by first | (dsimp only; omega) | exact LeS.le | exact LeS.add _ | (simp; done) | (simp; omega)) _)
          clear hK K hHeld
          have hHeld := hHeld1; clear hHeld1
          try simp only [Act.put, List.setIfInBounds_toArray, List.set_cons_zero, List.set_cons_succ]
          refine wpAnyH_take (i := 9) (v := ?_) (opAt rfl) (by kernel_rfl) (by kernel_rfl) (by kernel_rfl) (fun _ _ _ h => h) (Or.inl ⟨by rfl, ?_⟩) (by assumption) ?_
          rotate_left
          · (intro w hSw; (try dsimp only at hSw); go_simp) <;> with_reducible rfl
          try simp only [Act.put, List.setIfInBounds_toArray, List.set_cons_zero, List.set_cons_succ]
          refine wpAnyH_take (i := 10) (v := ?_) (opAt rfl) (by kernel_rfl) (by kernel_rfl) (by kernel_rfl) (fun _ _ _ h => h) (Or.inl ⟨by rfl, ?_⟩) (by assumption) ?_
          rotate_left
          · (intro w hSw; (try dsimp only at hSw); go_simp) <;> with_reducible rfl
          try simp only [Act.put, List.setIfInBounds_toArray, List.set_cons_zero, List.set_cons_succ]
          refine wpAnyH_take (i := 11) (v := ?_) (opAt rfl) (by kernel_rfl) (by kernel_rfl) (by kernel_rfl) (fun _ _ _ h => h) (Or.inl ⟨by rfl, ?_⟩) (by assumption) ?_
          rotate_left
          · (intro w hSw; (try dsimp only at hSw); go_simp) <;> with_reducible rfl
          try simp only [Act.put, List.setIfInBounds_toArray, List.set_cons_zero, List.set_cons_succ]
          refine wpAnyH_done (by kernel_rfl) ?_ _
          go_wp2_with fail
          refine bodyPost_ret (v := .tuple #[.map (some zq.val.heap.size), .bool true]) (by simp [results, Try.results71, go_sem]) rfl ?_
          exact ⟨_, _, rfl, (.of (by repeat (first | (with_reducible exact Ext.refl _) | (with_reducible refine Ext.up ?_ _) | (with_reducible refine Ext.alloc ?_ _) | (with_reducible refine Ext.drew ?_) | (with_reducible refine Ext.setRow ?_ (by first | exact LeS.le | exact LeS.add _ | (simp; done) | (simp; omega)) _) | (with_reducible refine Ext.setCell ?_ (by first | exact LeS.le | exact LeS.add _ | (simp; done) | (simp; omega)) _)))), O9.out, HasAll.sub (HasAll.two (a := ⟨src, t⟩) (b := ⟨dst, f⟩) isMap0 (fun e => (hsd.out e).symm)) H2.out⟩
        exact AllReadyH.nil
      refine AllReadyH.cons (opAt rfl) (fun K hK => ?_) ?_
      · rw [if_pos (by rfl)]
        refine wp_insert_own (.tmp 46) (.tmp 51) (.tmp 52) 96 rfl Try.underlying96 Try.underlying3 (made_own (w := zq.val.drew)) (by decide) dst f rfl rfl rfl ?_ ?_ ?_
        · exact wfI (by first | omega | (go_simp; omega))
        · exact wfI (by first | omega | (go_simp; omega))
        intro w8 o8 g8
        obtain ⟨z8, rfl⟩ := Up.of (show Ext zq.val w8 from Ext.grown (b := zq.val.drew.alloc (.map #[] 0)) (by repeat (first | exact Ext.refl _ | refine Ext.up ?_ _ | refine Ext.alloc ?_ _ | refine Ext.drew ?_ | refine Ext.setRow ?_ (by first | (dsimp only; omega) | exact LeS.le | exact LeS.add _ | (simp; done) | (simp; omega)) _ | refine Ext.setCell ?_ (by first | (dsimp only; omega) | exact LeS.le | exact LeS.add _ | (simp; done) | (simp; omega)) _)) g8 (fun k hk => by cases hk; exact LeS.le))
        have O8 := Lib.hid o8; clear o8 g8
        refine hK.out _ _ ?_ (fun hHeld1 => ?_)
        · (try dsimp only)
          refine S_of_ext ?_
          repeat (first | exact Ext.refl _ | refine Ext.up ?_ _ | refine Ext.alloc ?_ _ | refine Ext.drew ?_ | refine Ext.setRow ?_ (by first | (dsimp only; omega) | exact LeS.le | exact LeS.add _ | (simp; done) | (simp; omega)) _ | refine Ext.setCell ?_ (by first | (dsimp only; omega) | exact LeS.le | exact LeS.add _ | (simp; done) | (simp; omega)) _)
        clear hK K hHeld
        have hHeld := hHeld1; clear hHeld1
        try simp only [Act.put, List.setIfInBounds_toArray, List.set_cons_zero, List.set_cons_succ]
        refine wpAnyH_ready (rs := [4]) (by kernel_rfl) (by simp) ?_
        refine AllReadyH.cons (opAt rfl) (fun K hK => ?_) ?_
        · rw [if_pos (by rfl)]
          refine wp_insert_own (.tmp 46) (.tmp 48) (.tmp 49) 96 rfl Try.underlying96 Try.underlying3 O8.out (by decide) src t rfl rfl rfl ?_ ?_ ?_
          · exact wfI (by first | omega | (go_simp; omega))
          · exact wfI (by first | omega | (go_simp; omega))
          intro w8 o8 g8
          obtain ⟨z9, rfl⟩ := Up.of (show Ext zq.val w8 from Ext.grown (b := z8.val) (by repeat (first | exact Ext.refl _ | refine Ext.up ?_ _ | refine Ext.alloc ?_ _ | refine Ext.drew ?_ | refine Ext.setRow ?_ (by first | (dsimp only; omega) | exact LeS.le | exact LeS.add _ | (simp; done) | (simp; omega)) _ | refine Ext.setCell ?_ (by first | (dsimp only; omega) | exact LeS.le | exact LeS.add _ | (simp; done) | (simp; omega)) _)) g8 (fun k hk => by cases hk; exact LeS.le))
          have O9 := Lib.hid o8; clear o8 g8
          refine hK.out _ _ ?_ (fun hHeld1 => ?_)
          · (try dsimp only)
            refine S_of_ext ?_
            repeat (first | exact Ext.refl _ | refine Ext.up ?_ _ | refine Ext.alloc ?_ _ | refine Ext.drew ?_ | refine Ext.setRow ?_ (by first | (dsimp only; omega) | exact LeS.le | exact LeS.add _ | (simp; done) | (simp; omega)) _ | refine Ext.setCell ?_ (by first | (dsimp only; omega) | exact LeS.le | exact LeS.add _ | (simp; done) | (simp; omega)) _)
          clear hK K hHeld
          have hHeld := hHeld1; clear hHeld1
          try simp only [Act.put, List.setIfInBounds_toArray, List.set_cons_zero, List.set_cons_succ]
          refine wpAnyH_take (i := 9) (v := ?_) (opAt rfl) (by kernel_rfl) (by kernel_rfl) (by kernel_rfl) (fun _ _ _ h => h) (Or.inl ⟨by rfl, ?_⟩) (by assumption) ?_
          rotate_left
          · (intro w hSw; (try dsimp only at hSw); go_simp) <;> with_reducible rfl
          try simp only [Act.put, List.setIfInBounds_toArray, List.set_cons_zero, List.set_cons_succ]
          refine wpAnyH_take (i := 10) (v := ?_) (opAt rfl) (by kernel_rfl) (by kernel_rfl) (by kernel_rfl) (fun _ _ _ h => h) (Or.inl ⟨by rfl, ?_⟩) (by assumption) ?_
          rotate_left
          · (intro w hSw; (try dsimp only at hSw); go_simp) <;> with_reducible rfl
          try simp only [Act.put, List.setIfInBounds_toArray, List.set_cons_zero, List.set_cons_succ]
          refine wpAnyH_take (i := 11) (v := ?_) (opAt rfl) (by kernel_rfl) (by kernel_rfl) (by kernel_rfl) (fun _ _ _ h => h) (Or.inl ⟨by rfl, ?_⟩) (by assumption) ?_
          rotate_left
          · (intro w hSw; (try dsimp only at hSw); go_simp) <;> with_reducible rfl
          try simp only [Act.put, List.setIfInBounds_toArray, List.set_cons_zero, List.set_cons_succ]
          refine wpAnyH_done (by kernel_rfl) ?_ _
          go_wp2_with fail
          refine bodyPost_ret (v := .tuple #[.map (some zq.val.heap.size), .bool true]) (by simp [results, Try.results71, go_sem]) rfl ?_
          exact ⟨_, _, rfl, (.of (by repeat (first | (with_reducible exact Ext.refl _) | (with_reducible refine Ext.up ?_ _) | (with_reducible refine Ext.alloc ?_ _) | (with_reducible refine Ext.drew ?_) | (with_reducible refine Ext.setRow ?_ (by first | exact LeS.le | exact LeS.add _ | (simp; done) | (simp; omega)) _) | (with_reducible refine Ext.setCell ?_ (by first | exact LeS.le | exact LeS.add _ | (simp; done) | (simp; omega)) _)))), O9.out, HasAll.sub (HasAll.two' (a := ⟨src, t⟩) (b := ⟨dst, f⟩) isMap0 (fun e => (hsd.out e).symm)) H2.out⟩
        exact AllReadyH.nil
      exact AllReadyH.nil
    exact AllReadyH.nil
  · have h1 : bd = decide (f + t ≤ 1000000) := by rw [← Hbd.out]; simp [runE, Actn.don]
    have h2 : wl = [⟨dst, f + t⟩] := by rw [← Hwl.out]; simp [Actn.wrs]
    subst h1; subst h2
    go_wp2_with ((refine wpList_insert_own (by rfl) (.tmp 56) (.tmp 58) (.tmp 61) 96 (by rfl) Try.underlying96 Try.underlying3 made_own (by decide) _ _ rfl rfl rfl (wfI (by omega)) (wfI (by omega)) ?_; intro w8 o8 g8; obtain ⟨z8, rfl⟩ := Up.of (show Ext w w8 from Ext.grown (b := zq.val.alloc (.map #[] 0)) (by repeat (first | (with_reducible exact Ext.refl _) | (with_reducible refine Ext.up ?_ _) | (with_reducible refine Ext.alloc ?_ _) | (with_reducible refine Ext.drew ?_) | (with_reducible refine Ext.setRow ?_ (by first | exact LeS.le | exact LeS.add _ | (simp; done) | (simp; omega)) _) | (with_reducible refine Ext.setCell ?_ (by first | exact LeS.le | exact LeS.add _ | (simp; done) | (simp; omega)) _))) g8 (fun k hk => by cases hk; exact LeS.le)); have O8 := Lib.hid o8; clear o8 g8))
    refine bodyPost_ret (v := .tuple #[.map (some zq.val.heap.size), .bool (decide (f + t ≤ 1000000))]) (by simp [results, Try.results71, go_sem]) rfl ?_
    first | exact ⟨_, _, rfl, ⟨z8, rfl⟩, O8.out.mono (by decide), HasAll.one isMap0 _ _⟩ | exact ⟨_, rfl, ⟨z8, rfl⟩, _, O8.out.mono (by decide), HasAll.one isMap0 _ _⟩
  · have hw1 : IntKind.i64.wrap (f - amt) = f - amt := IntWalk.i64_in _ ⟨by omega, by omega⟩
    by_cases hfa : amt < f
    · have h1 : bd = true := by rw [← Hbd.out]; simp [runE, Actn.don]
      have h2 : wl = [⟨src, f - amt⟩] := by rw [← Hwl.out]; simp [Actn.wrs]; omega
      subst h1; subst h2
      go_wp2_with ((refine wpList_insert_own (by rfl) (.tmp 28) (.tmp 30) (.tmp 35) 96 (by rfl) Try.underlying96 Try.underlying3 made_own (by decide) _ _ rfl rfl rfl (wfI (by omega)) (wfI (by omega)) ?_; intro w8 o8 g8; obtain ⟨z8, rfl⟩ := Up.of (show Ext w w8 from Ext.grown (b := zq.val.alloc (.map #[] 0)) (by repeat (first | (with_reducible exact Ext.refl _) | (with_reducible refine Ext.up ?_ _) | (with_reducible refine Ext.alloc ?_ _) | (with_reducible refine Ext.drew ?_) | (with_reducible refine Ext.setRow ?_ (by first | exact LeS.le | exact LeS.add _ | (simp; done) | (simp; omega)) _) | (with_reducible refine Ext.setCell ?_ (by first | exact LeS.le | exact LeS.add _ | (simp; done) | (simp; omega)) _))) g8 (fun k hk => by cases hk; exact LeS.le)); have O8 := Lib.hid o8; clear o8 g8))
      refine bodyPost_ret (v := .tuple #[.map (some zq.val.heap.size), .bool true]) (by simp [results, Try.results71, go_sem]) rfl ?_
      first | (refine ⟨_, _, rfl, ⟨z8, rfl⟩, O8.out.mono (by decide), HasAll.one' isMap0 ?_⟩; first | rfl | omega) | (refine ⟨_, rfl, ⟨z8, rfl⟩, _, O8.out.mono (by decide), HasAll.one' isMap0 ?_⟩; first | rfl | omega)
    · have h1 : bd = true := by rw [← Hbd.out]; simp [runE, Actn.don]
      have h2 : wl = [⟨src, 0⟩] := by rw [← Hwl.out]; simp [Actn.wrs]; omega
      subst h1; subst h2
      go_wp2_with ((refine wpList_insert_own (by rfl) (.tmp 28) (.tmp 30) (.tmp 35) 96 (by rfl) Try.underlying96 Try.underlying3 made_own (by decide) _ _ rfl rfl rfl (wfI (by omega)) (wfI (by omega)) ?_; intro w8 o8 g8; obtain ⟨z8, rfl⟩ := Up.of (show Ext w w8 from Ext.grown (b := zq.val.alloc (.map #[] 0)) (by repeat (first | (with_reducible exact Ext.refl _) | (with_reducible refine Ext.up ?_ _) | (with_reducible refine Ext.alloc ?_ _) | (with_reducible refine Ext.drew ?_) | (with_reducible refine Ext.setRow ?_ (by first | exact LeS.le | exact LeS.add _ | (simp; done) | (simp; omega)) _) | (with_reducible refine Ext.setCell ?_ (by first | exact LeS.le | exact LeS.add _ | (simp; done) | (simp; omega)) _))) g8 (fun k hk => by cases hk; exact LeS.le)); have O8 := Lib.hid o8; clear o8 g8))
      refine bodyPost_ret (v := .tuple #[.map (some zq.val.heap.size), .bool true]) (by simp [results, Try.results71, go_sem]) rfl ?_
      first | (refine ⟨_, _, rfl, ⟨z8, rfl⟩, O8.out.mono (by decide), HasAll.one' isMap0 ?_⟩; first | rfl | omega) | (refine ⟨_, rfl, ⟨z8, rfl⟩, _, O8.out.mono (by decide), HasAll.one' isMap0 ?_⟩; first | rfl | omega)
  · exfalso; have := Hko.out; unfold kindOk at this; rw [if_neg (by omega), if_neg (by omega), decide_eq_true_eq] at this; omega
end Go.Proofs.Ytnknamddonjnjaa
