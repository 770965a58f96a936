/- Plain ground: a region that draws its order, walked once an operation: what each operation yields is a fact that stays. Walks: trees of blocks: copies, comparisons, marks. -/
import Derived.Test.YtnknamddonjnjaaGEoVTop09
import Derived.Test.YtnknamddonjnjaaGEoVTop21
set_option linter.unusedSimpArgs false
set_option linter.unusedVariables false
namespace Go.Proofs.Ytnknamddonjnjaa
open Go Go.RowKit Go.Proofs

/-- The slots ds hold the values X. -/
def putL (a0 : Act) (X : Nat → Value) : List Nat → Act
  | [] => a0
  | d :: ds => (putL a0 X ds).put (some d) (X d)
def updX (X : Nat → Value) (d : Nat) (v : Value) : Nat → Value := fun n => if n = d then v else X n
theorem putL_other (a0 : Act) (X : Nat → Value) (d : Nat) (v : Value) : ∀ ds : List Nat, ¬ d ∈ ds → putL a0 (updX X d v) ds = putL a0 X ds
  | [], _ => rfl
  | e :: ds, h => by
    simp only [List.mem_cons, not_or] at h
    rw [putL, putL, putL_other a0 X d v ds h.2]
    have : updX X d v e = X e := by unfold updX; rw [if_neg (fun h' => h.1 h'.symm)]
    rw [this]
theorem putL_put (a0 : Act) (X : Nat → Value) (d : Nat) (v : Value) : ∀ ds : List Nat, d ∈ ds → ds.Nodup → (putL a0 X ds).put (some d) v = putL a0 (updX X d v) ds
  | [], h, _ => by cases h
  | e :: ds, h, hn => by
    rw [List.nodup_cons] at hn
    by_cases he : d = e
    · subst he
      rw [putL, putL, putL_other a0 X d v ds hn.1]
      have : updX X d v d = v := by unfold updX; rw [if_pos rfl]
      rw [this]
      simp [Act.put]
    · have hd : d ∈ ds := by
        rcases List.mem_cons.1 h with h | h
        · exact absurd h he
        · exact h
      have : updX X d v e = X e := by unfold updX; rw [if_neg (fun h' => he h'.symm)]
      rw [putL, putL, ← putL_put a0 X d v ds hd hn.2, this]
      exact Act.put_comm _ _ _ (fun x hx => by cases hx; intro h'; cases h'; exact he rfl)
theorem putL_self (a0 : Act) : ∀ ds : List Nat, (∀ d ∈ ds, d < a0.tmps.size) → putL a0 (fun d => a0.tmps.getD d undef) ds = a0
  | [], _ => rfl
  | d :: ds, h => by
    rw [putL, putL_self a0 ds fun x hx => h x (by simp [hx])]
    have hd := h d (by simp)
    have hset : a0.tmps.setIfInBounds d (a0.tmps.getD d undef) = a0.tmps := by
      apply Array.ext
      · simp
      · intro i h1 h2
        by_cases he : d = i
        · subst he; simp [Array.getD, hd]
        · rw [Array.getElem_setIfInBounds_ne h2 he]
    show ({ a0 with tmps := a0.tmps.setIfInBounds d (a0.tmps.getD d undef) } : Act) = a0
    rw [hset]
def unl (n : Nat) (L : Array Bool) : Nat := (List.range n).countP fun i => !L.getD i true
theorem countP_lt {l : List Nat} {p q : Nat → Bool} (h : ∀ x ∈ l, q x = true → p x = true) {i : Nat} (hi : i ∈ l) (hp : p i = true) (hq : q i = false) : l.countP q + 1 ≤ l.countP p := by
  induction l with
  | nil => cases hi
  | cons a l ih =>
    have hle : l.countP q ≤ l.countP p := List.countP_mono_left fun x hx => h x (by simp [hx])
    rw [List.countP_cons, List.countP_cons]
    rcases List.mem_cons.1 hi with rfl | hi
    · rw [hp, hq]; simp; omega
    · have := ih (fun x hx => h x (by simp [hx])) hi
      have ha := h a (by simp)
      cases hqa : q a
      · simp; omega
      · rw [ha hqa]; simp; omega
theorem unl_set {n : Nat} {L : Array Bool} {i : Nat} (hi : L.getD i true = false) (hin : i < n) : unl n (L.setIfInBounds i true) + 1 ≤ unl n L := by
  have hs : i < L.size := by
    rcases Nat.lt_or_ge i L.size with h | h
    · exact h
    · simp [Array.getD, Nat.not_lt.2 h] at hi
  refine countP_lt (i := i) (fun x _ hx => ?_) (List.mem_range.2 hin) (by rw [hi]; rfl) ?_
  · by_cases he : i = x
    · subst he; simp [Array.getD, hs] at hx
    · rw [getD_set_ne true he] at hx; exact hx
  · simp [Array.getD, hs]
/-- The dependencies of an operation. -/
def depsOf (md : Region.Mode) (o : Oper) : List Nat := (o.after.toList.filter fun e => Region.binds md e).map (·.on)
section
variable {P : Program} {md : Region.Mode} {ops : Array Oper} {Q : Exit → Act → World → Prop}
/-- Operations 0 .. s - 1 in whatever order, the facts G of what they yield; then the tail. -/
theorem region_inv (s n : Nat) (Dl : List (Option Nat)) (Al : List (List Nat)) (ds : List Nat) (G : Nat → Value → World → Prop) (E : World → World → Prop) (WI : Nat → World → Prop) (w0 : World) (a0 : Act)
    (hn : ops.size = n) (hsn : s ≤ n) (hD : ops.toList.map (·.dst) = Dl) (hA : ops.toList.map (depsOf md) = Al)
    (hds : ∀ j : Nat, j < s → (∃ d, Dl[j]? = some (some d) ∧ d ∈ ds) ∨ Dl[j]? = some none) (hnd : ds.Nodup) (hinj : ∀ i, i < s → ∀ j, j < s → Dl[i]? = Dl[j]? → i = j)
    (hlt : ∀ j, j < s → ∀ k ∈ (Al[j]?).getD [], k < j) (htl : ∀ j, j < n → s ≤ j → ∀ i, i < s → i ∈ (Al[j]?).getD [] ∨ ∃ k, i < k ∧ k < s ∧ i ∈ (Al[k]?).getD [])
    (hsz : ∀ d ∈ ds, d < a0.tmps.size) (hEr : ∀ w, E w w) (hEt : ∀ a b c, E a b → E b c → E a c) (hG : ∀ j v w w', E w w' → G j v w → G j v w')
    (step : ∀ (i : Nat) (o : Oper) (d : Nat), ops[i]? = some o → i < s → Dl[i]? = some (some d) → ∀ X w, E w0 w → ∀ m, m < n → WI m w → (∀ k ∈ (Al[i]?).getD [], ∀ d', Dl[k]? = some (some d') → G k (X d') w) →
      ∀ K : Act → World → Prop, (∀ v w', E w w' → WI (m + 1) w' → G i v w' → K ((putL a0 X ds).put o.dst v) w') → if Region.wanted o (yielded ops (putL a0 X ds).tmps) = true then Oper.wp P o (putL a0 X ds) w K Q else K ((putL a0 X ds).put o.dst undef) w)
    (step0 : ∀ (i : Nat) (o : Oper), ops[i]? = some o → i < s → Dl[i]? = some none → ∀ X w, E w0 w → ∀ m, m < n → WI m w → (∀ k ∈ (Al[i]?).getD [], ∀ d', Dl[k]? = some (some d') → G k (X d') w) →
      ∀ K : Act → World → Prop, (∀ w', E w w' → WI (m + 1) w' → G i undef w' → K (putL a0 X ds) w') → if Region.wanted o (yielded ops (putL a0 X ds).tmps) = true then Oper.wp P o (putL a0 X ds) w K Q else K (putL a0 X ds) w)
    (hW0 : WI 0 w0)
    (tail : ∀ X w, E w0 w → WI s w → (∀ j d, j < s → Dl[j]? = some (some d) → G j (X d) w) → (∀ j, j < s → Dl[j]? = some none → G j undef w) → wpAnyH P md ops Q (fun _ => True) (n - s) (List.replicate s true ++ List.replicate (n - s) false).toArray (putL a0 X ds) w) :
    wpAnyH P md ops Q (fun _ => True) ops.size (Array.replicate ops.size false) a0 w0 := by
  have hAl : ∀ (j : Nat) (o : Oper), ops[j]? = some o → Al[j]? = some (depsOf md o) := fun j o ho => by
    rw [← hA, List.getElem?_map, Array.getElem?_toList, ho]; rfl
  have hDl : ∀ (j : Nat) (o : Oper), ops[j]? = some o → Dl[j]? = some o.dst := fun j o ho => by
    rw [← hD, List.getElem?_map, Array.getElem?_toList, ho]; rfl
  have hdeps : ∀ o k, k ∈ depsOf md o ↔ ∃ e ∈ o.after, Region.binds md e = true ∧ e.on = k := fun o k => by
    simp [depsOf, and_assoc]
  have hop : ∀ j, j < n → ∃ o, ops[j]? = some o := fun j hj => ⟨ops[j]'(by omega), Array.getElem?_eq_getElem (by omega)⟩
  have main : ∀ m L X w, L.size = n → unl n L = m → (∀ j, s ≤ j → j < n → L.getD j true = false) → E w0 w → WI (n - m) w → (∀ k, L.getD k false = true → ∀ d ∈ (Al[k]?).getD [], L.getD d false = true) → (∀ j d, j < s → Dl[j]? = some (some d) → L.getD j false = true → G j (X d) w) → (∀ j, j < s → Dl[j]? = some none → L.getD j false = true → G j undef w) →
      wpAnyH P md ops Q (fun _ => True) m L (putL a0 X ds) w := by
    intro m
    induction m using Nat.strongRecOn with
    | ind m ih =>
      intro L X w hL hm hhi hE hW hcl hF hF0
      by_cases hall : ∀ j, j < s → L.getD j false = true
      · have hLe : L = (List.replicate s true ++ List.replicate (n - s) false).toArray := by
          apply Array.ext
          · simp; omega
          · intro j h1 h2
            rcases Nat.lt_or_ge j s with hj | hj
            · have := hall j hj
              simp only [Array.getD, h1, dif_pos] at this
              rw [show L[j] = true from this]
              simp [List.getElem_append, hj]
            · have := hhi j hj (by omega)
              simp only [Array.getD, h1, dif_pos] at this
              rw [show L[j] = false from this]
              simp [List.getElem_append, Nat.not_lt.2 hj]
        have hmn : m = n - s := by
          rw [← hm, hLe]
          unfold unl
          have : ∀ k, k ≤ n → (List.range k).countP (fun i => !(List.replicate s true ++ List.replicate (n - s) false).toArray.getD i true) = k - s := by
            intro k
            induction k with
            | zero => intro _; simp
            | succ k ihk =>
              intro hk
              rw [List.range_succ, List.countP_append, ihk (by omega), List.countP_singleton]
              rcases Nat.lt_or_ge k s with hj | hj
              · have : (List.replicate s true ++ List.replicate (n - s) false).toArray.getD k true = true := by
                  simp [Array.getD, List.getElem_append, hj]
                rw [this]; simp; omega
              · have : (List.replicate s true ++ List.replicate (n - s) false).toArray.getD k true = false := by
                  simp [Array.getD, List.getElem_append, Nat.not_lt.2 hj]; omega
                rw [this]; simp; omega
          exact this n (Nat.le_refl _)
        rw [hmn, hLe]
        exact tail X w hE (by rw [hmn, Nat.sub_sub_self hsn] at hW; exact hW) (fun j d hj hd => hF j d hj hd (hall j hj)) (fun j hj hd => hF0 j hj hd (hall j hj))
      · -- some operation is left: one may come up
        have hex : ∃ j, j < s ∧ L.getD j true = false ∧ ∀ k, k < j → L.getD k false = true := by
          have : ∃ j, j < s ∧ ¬ L.getD j false = true := by
            refine Classical.byContradiction fun h => hall fun j hj => ?_
            exact Classical.byContradiction fun h' => h ⟨j, hj, h'⟩
          obtain ⟨j, hj⟩ := this
          induction j using Nat.strongRecOn with
          | ind j ihj =>
            by_cases hb : ∀ k, k < j → L.getD k false = true
            · refine ⟨j, hj.1, ?_, hb⟩
              have hjs : j < L.size := by omega
              have := hj.2
              simp only [Array.getD, hjs, dif_pos] at this ⊢
              simpa using this
            · obtain ⟨k, hk⟩ : ∃ k, k < j ∧ ¬ L.getD k false = true := by
                refine Classical.byContradiction fun h => hb fun k hk => ?_
                exact Classical.byContradiction fun h' => h ⟨k, hk, h'⟩
              exact ihj k hk.1 ⟨by omega, hk.2⟩
        obtain ⟨j0, hj0s, hj0, hj0b⟩ := hex
        have hready : j0 ∈ Region.ready md ops L := by
          obtain ⟨o, ho⟩ := hop j0 (by omega)
          refine mem_ready.2 ⟨hj0, o, ho, fun e he hb => hj0b _ ?_⟩
          have := hlt j0 hj0s e.on (by rw [hAl j0 o ho]; exact (hdeps o e.on).2 ⟨e, he, hb, rfl⟩)
          exact this
        have hpos := unl_set hj0 (show j0 < n by omega)
        have hle : unl n L ≤ n := by unfold unl; exact Nat.le_trans List.countP_le_length (by simp)
        obtain ⟨m', rfl⟩ : ∃ m', m = m' + 1 := ⟨m - 1, by omega⟩
        refine ⟨(fun h => by rw [h] at hready; cases hready), fun i hi => ?_⟩
        obtain ⟨h1, o, ho, h2⟩ := mem_ready.1 hi
        have hin : i < n := by have := (Array.getElem?_eq_some_iff.1 ho).1; omega
        have his : i < s := by
          rcases Nat.lt_or_ge i s with h | h
          · exact h
          · refine absurd ?_ hall
            have down : ∀ m j, j < s → s - j ≤ m → L.getD j false = true := by
              intro m
              induction m with
              | zero => intro j hj hm; omega
              | succ m ihm =>
                intro j hj hm
                rcases htl i hin h j hj with this | ⟨k, hk1, hk2, hk3⟩
                · rw [hAl i o ho] at this
                  obtain ⟨e, he, hb, rfl⟩ := (hdeps o j).1 this
                  exact h2 e he hb
                · exact hcl k (ihm k hk2 (by omega)) j hk3
            exact fun j hj => down (s - j) j hj (Nat.le_refl _)
        have hset := unl_set h1 hin
        have hone : unl n (L.setIfInBounds i true) = m' := by
          have h3 : unl n L ≤ unl n (L.setIfInBounds i true) + 1 := by
            unfold unl
            have : ∀ k, (List.range k).countP (fun x => !L.getD x true) ≤ (List.range k).countP (fun x => !(L.setIfInBounds i true).getD x true) + (if i < k then 1 else 0) := by
              intro k
              induction k with
              | zero => simp
              | succ k ihk =>
                rw [List.range_succ, List.countP_append, List.countP_append, List.countP_singleton, List.countP_singleton]
                by_cases hik : i = k
                · subst hik
                  simp only [Nat.lt_irrefl, if_false, Nat.lt_succ_self, if_true] at ihk ⊢
                  split <;> split <;> omega
                · rw [getD_set_ne true hik]
                  have h4 : (if i < k + 1 then 1 else 0) = (if i < k then 1 else 0) := by
                    by_cases h5 : i < k
                    · rw [if_pos h5, if_pos (by omega)]
                    · rw [if_neg h5, if_neg (by omega)]
                  rw [h4]; omega
            have := this n
            rw [if_pos hin] at this
            exact this
          omega
        have hdep : ∀ k ∈ (Al[i]?).getD [], ∀ d', Dl[k]? = some (some d') → G k (X d') w := fun k hk d' hd' => by
          have hk' := hlt i his k hk
          rw [hAl i o ho] at hk
          obtain ⟨e, he, hb, rfl⟩ := (hdeps o k).1 hk
          exact hF _ _ (by omega) hd' (h2 e he hb)
        have hhi' : ∀ j, s ≤ j → j < n → (L.setIfInBounds i true).getD j true = false := fun j hj hjn => by
          have : i ≠ j := by omega
          rw [getD_set_ne true this]; exact hhi j hj hjn
        have hcl' : ∀ k, (L.setIfInBounds i true).getD k false = true → ∀ d ∈ (Al[k]?).getD [], (L.setIfInBounds i true).getD d false = true := fun j hlj dj hdj => by
          refine getD_set_true ?_
          by_cases hij : i = j
          · subst hij
            rw [hAl i o ho] at hdj
            obtain ⟨e, he, hb, rfl⟩ := (hdeps o dj).1 hdj
            exact h2 e he hb
          · rw [getD_set_ne false hij] at hlj
            exact hcl j hlj dj hdj
        rcases hds i his with ⟨d, hd, hdm⟩ | hd
        · have hod : o.dst = some d := by rw [hDl i o ho] at hd; exact Option.some.inj hd
          refine wpOp_step ho fun K hK => step i o d ho his hd X w hE (n - (m' + 1)) (by omega) hW hdep K fun v w' hE' hW' hGv => hK _ _ ⟨trivial, ?_⟩
          rw [hod, putL_put a0 X d v ds hdm hnd]
          have := ih _ (by omega) (L.setIfInBounds i true) (updX X d v) w' (by simp [hL]) rfl hhi' (hEt _ _ _ hE hE') (by rw [hone]; rw [show n - (m' + 1) + 1 = n - m' by omega] at hW'; exact hW') hcl' (fun j dj hj hdj hlj => by
            by_cases hij : i = j
            · subst hij
              have : dj = d := by rw [hd] at hdj; exact (Option.some.inj (Option.some.inj hdj)).symm
              subst this
              unfold updX; rw [if_pos rfl]; exact hGv
            · rw [getD_set_ne false hij] at hlj
              have hne : dj ≠ d := fun h => hij (hinj i his j hj (by rw [hd, hdj, h]))
              unfold updX; rw [if_neg hne]
              exact hG _ _ _ _ hE' (hF j dj hj hdj hlj)) (fun j hj hdj hlj => by
            have hij : i ≠ j := fun h => by subst h; rw [hd] at hdj; cases hdj
            rw [getD_set_ne false hij] at hlj
            exact hG _ _ _ _ hE' (hF0 j hj hdj hlj))
          rwa [hone] at this
        · have hod : o.dst = none := by rw [hDl i o ho] at hd; exact Option.some.inj hd
          have hput : (putL a0 X ds).put o.dst undef = putL a0 X ds := by rw [hod]; rfl
          refine wpOp_step ho fun K hK => ?_
          rw [hput]
          refine step0 i o ho his hd X w hE (n - (m' + 1)) (by omega) hW hdep K fun w' hE' hW' hGv => hK _ _ ⟨trivial, ?_⟩
          have := ih _ (by omega) (L.setIfInBounds i true) X w' (by simp [hL]) rfl hhi' (hEt _ _ _ hE hE') (by rw [hone]; rw [show n - (m' + 1) + 1 = n - m' by omega] at hW'; exact hW') hcl' (fun j dj hj hdj hlj => by
            have hij : i ≠ j := fun h => by subst h; rw [hd] at hdj; cases hdj
            rw [getD_set_ne false hij] at hlj
            exact hG _ _ _ _ hE' (hF j dj hj hdj hlj)) (fun j hj hdj hlj => by
            by_cases hij : i = j
            · subst hij; exact hGv
            · rw [getD_set_ne false hij] at hlj
              exact hG _ _ _ _ hE' (hF0 j hj hdj hlj))
          rwa [hone] at this
  rw [hn]
  have h0 := putL_self a0 ds hsz
  rw [← h0]
  have hu : unl n (Array.replicate n false) = n := by
    unfold unl
    rw [List.countP_eq_length.2]
    · simp
    · intro x hx
      have := List.mem_range.1 hx
      simp [Array.getD, this]
  have := main n (Array.replicate n false) (fun d => a0.tmps.getD d undef) w0 (by simp) hu (fun j _ hj => by simp [Array.getD, hj]) (hEr _) (by rw [Nat.sub_self]; exact hW0) (fun j h => by
    exfalso
    simp only [Array.getD] at h
    split at h <;> simp at h) (fun j d _ _ h => by
    exfalso
    simp only [Array.getD] at h
    split at h <;> simp at h) (fun j _ _ h => by
    exfalso
    simp only [Array.getD] at h
    split at h <;> simp at h)
  exact this
/-- What is asked of a region, as one Bool. -/
def invChk (s n : Nat) (Dl : List (Option Nat)) (Al : List (List Nat)) (ds : List Nat) : Bool :=
  decide (s ≤ n) && (((List.range s).all fun j => match Dl[j]? with | some (some d) => ds.contains d | some none => true | none => false) && (decide ds.Nodup &&
    (((List.range s).all fun i => (List.range s).all fun j => decide (Dl[i]? = Dl[j]?) == decide (i = j) || i == j) && (((List.range s).all fun j => ((Al[j]?).getD []).all fun k => decide (k < j)) &&
      ((List.range n).all fun j => decide (j < s) || (List.range s).all fun i => ((Al[j]?).getD []).contains i || (List.range s).any fun k => decide (i < k) && ((Al[k]?).getD []).contains i)))))
theorem region_invW (s n : Nat) (Dl : List (Option Nat)) (Al : List (List Nat)) (ds : List Nat) (G : Nat → Value → World → Prop) (E : World → World → Prop) (WI : Nat → World → Prop) (w0 : World) (a0 : Act)
    (hn : ops.size = n) (hD : ops.toList.map (·.dst) = Dl) (hA : ops.toList.map (depsOf md) = Al) (hc : invChk s n Dl Al ds = true) (hsz : (ds.all fun d => decide (d < a0.tmps.size)) = true)
    (hEr : ∀ w, E w w) (hEt : ∀ a b c, E a b → E b c → E a c) (hG : ∀ j v w w', E w w' → G j v w → G j v w')
    (step : ∀ (i : Nat) (o : Oper) (d : Nat), ops[i]? = some o → i < s → Dl[i]? = some (some d) → ∀ X w, E w0 w → ∀ m, m < n → WI m w → (∀ k ∈ (Al[i]?).getD [], ∀ d', Dl[k]? = some (some d') → G k (X d') w) →
      ∀ K : Act → World → Prop, (∀ v w', E w w' → WI (m + 1) w' → G i v w' → K ((putL a0 X ds).put o.dst v) w') → if Region.wanted o (yielded ops (putL a0 X ds).tmps) = true then Oper.wp P o (putL a0 X ds) w K Q else K ((putL a0 X ds).put o.dst undef) w)
    (step0 : ∀ (i : Nat) (o : Oper), ops[i]? = some o → i < s → Dl[i]? = some none → ∀ X w, E w0 w → ∀ m, m < n → WI m w → (∀ k ∈ (Al[i]?).getD [], ∀ d', Dl[k]? = some (some d') → G k (X d') w) →
      ∀ K : Act → World → Prop, (∀ w', E w w' → WI (m + 1) w' → G i undef w' → K (putL a0 X ds) w') → if Region.wanted o (yielded ops (putL a0 X ds).tmps) = true then Oper.wp P o (putL a0 X ds) w K Q else K (putL a0 X ds) w)
    (hW0 : WI 0 w0)
    (tail : ∀ X w, E w0 w → WI s w → (∀ j d, j < s → Dl[j]? = some (some d) → G j (X d) w) → (∀ j, j < s → Dl[j]? = some none → G j undef w) → wpAnyH P md ops Q (fun _ => True) (n - s) (List.replicate s true ++ List.replicate (n - s) false).toArray (putL a0 X ds) w) :
    wpAnyH P md ops Q (fun _ => True) ops.size (Array.replicate ops.size false) a0 w0 := by
  unfold invChk at hc
  simp only [Bool.and_eq_true, decide_eq_true_eq, List.all_eq_true, List.mem_range, Bool.or_eq_true, beq_iff_eq, List.contains_iff_mem] at hc
  obtain ⟨h1, h2, h3, h4, h5, h6⟩ := hc
  refine region_inv s n Dl Al ds G E WI w0 a0 hn h1 hD hA (fun j hj => ?_) h3 (fun i hi j hj he => ?_) (fun j hj k hk => h5 j hj k hk) (fun j hj hs i hi => ?_) (fun d hd => by simpa using List.all_eq_true.1 hsz d hd) hEr hEt hG step step0 hW0 tail
  · have := h2 j hj
    split at this
    · rename_i d hd; exact .inl ⟨d, hd, by simpa using this⟩
    · exact .inr (by assumption)
    · cases this
  · rcases h4 i hi j hj with h | h
    · have : decide (Dl[i]? = Dl[j]?) = true := by simpa using he
      rw [this] at h
      simpa using h.symm
    · exact h
  · rcases h6 j hj with h | h
    · omega
    · rcases h i hi with h | h
      · exact .inl h
      · obtain ⟨k, hk, hk2⟩ := List.any_eq_true.1 h
        simp only [Bool.and_eq_true, decide_eq_true_eq, List.contains_iff_mem] at hk2
        exact .inr ⟨k, hk2.1, List.mem_range.1 hk, hk2.2⟩
theorem region_inv' (s n : Nat) (Dl : List (Option Nat)) (Al : List (List Nat)) (ds : List Nat) (G : Nat → Value → World → Prop) (E : World → World → Prop) (w0 : World) (a0 : Act)
    (hn : ops.size = n) (hD : ops.toList.map (·.dst) = Dl) (hA : ops.toList.map (depsOf md) = Al) (hc : invChk s n Dl Al ds = true) (h0 : ((List.range s).all fun j => !decide (Dl[j]? = some none)) = true) (hsz : (ds.all fun d => decide (d < a0.tmps.size)) = true)
    (hEr : ∀ w, E w w) (hEt : ∀ a b c, E a b → E b c → E a c) (hG : ∀ j v w w', E w w' → G j v w → G j v w')
    (step : ∀ (i : Nat) (o : Oper) (d : Nat), ops[i]? = some o → i < s → Dl[i]? = some (some d) → ∀ X w, E w0 w → (∀ k ∈ (Al[i]?).getD [], ∀ d', Dl[k]? = some (some d') → G k (X d') w) →
      ∀ K : Act → World → Prop, (∀ v w', E w w' → G i v w' → K ((putL a0 X ds).put o.dst v) w') → if Region.wanted o (yielded ops (putL a0 X ds).tmps) = true then Oper.wp P o (putL a0 X ds) w K Q else K ((putL a0 X ds).put o.dst undef) w)
    (tail : ∀ X w, E w0 w → (∀ j d, j < s → Dl[j]? = some (some d) → G j (X d) w) → wpAnyH P md ops Q (fun _ => True) (n - s) (List.replicate s true ++ List.replicate (n - s) false).toArray (putL a0 X ds) w) :
    wpAnyH P md ops Q (fun _ => True) ops.size (Array.replicate ops.size false) a0 w0 :=
  region_invW s n Dl Al ds G E (fun _ _ => True) w0 a0 hn hD hA hc hsz hEr hEt hG (fun i o d ho hi hd X w hE _ _ _ hF K hK => step i o d ho hi hd X w hE hF K fun v w' h1 h2 => hK v w' h1 trivial h2) (fun i o ho hi hd => absurd hd (by have := List.all_eq_true.1 h0 i (List.mem_range.2 hi); simpa using this)) trivial (fun X w hE _ hF _ => tail X w hE hF)
theorem wp_of_step {o : Oper} {a : Act} {w : World} {K : Act → World → Prop} (hw : Region.wanted o (yielded #[] a.tmps) = true) (h : if Region.wanted o (yielded #[] a.tmps) = true then Oper.wp P o a w K Q else True) : Oper.wp P o a w K Q := by rwa [if_pos hw] at h
theorem opAt_inv {l : List Oper} {i : Nat} {o : Oper} (h : l.toArray[i]? = some o) : l[i]? = some o := by rwa [List.getElem?_toArray] at h
end
end Go.Proofs.Ytnknamddonjnjaa
namespace Go.Proofs.Ytnknamddonjnjaa
open Go Go.RowKit Go.Proofs

theorem Own.setApart {α : Type} {enc : α → List Value} {e sz lo : Nat} {w : World} {v : Value} {l : List α} (h : Own enc e sz lo w v l) {g : Nat} (i : Nat) (u : Value) (hap : v.ownBlock = none ∨ v.ownBlock ≠ some g) : Own enc e sz lo (w.setCell ⟨g, i, none⟩ u) v l :=
  h.kept (grownBy_set w ⟨g, i, none⟩ u) hap
theorem Keep.setCell {hi : Nat} {w w' : World} (h : Keep hi w w') {g : Nat} (i : Nat) (u : Value) (hg : g < hi) : Keep hi w (w'.setCell ⟨g, i, none⟩ u) :=
  h.trans ⟨(grownBy_set w' ⟨g, i, none⟩ u).size, fun k hk hs => (grownBy_set w' ⟨g, i, none⟩ u).block k hs (fun e => by
    have e' : k = g := by simpa using e
    omega)⟩
end Go.Proofs.Ytnknamddonjnjaa
