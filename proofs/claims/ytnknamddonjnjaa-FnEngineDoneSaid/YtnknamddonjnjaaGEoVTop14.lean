/- Plain laws: actions that are not in conflict change places. Plain laws: the versions of a serial run: what is read in them, and the store that they leave. Plain ground: engines: slots in memory, what makes a slot right, what an action reads now. Plain laws: engines: versions, steps. Walks: drawn stores. Walks: roots of stores. Walks: first blocks, blocks that are compared. Walks: blocks that are compared with the first one. Walks: blocks that are found by their sums. -/
import Derived.Test.YtnknamddonjnjaaGEoVTop11
import Derived.Test.YtnknamddonjnjaaGEoVTop13
import Derived.Test.YtnknamddonjnjaaGEoVTop04
import Derived.Test.YtnknamddonjnjaaGEoVTop02
import Derived.Test.YtnknamddonjnjaaGEoVTop09
import Derived.Test.YtnknamddonjnjaaGEoVTop03
import Derived.Test.YtnknamddonjnjaaGEoVTop06
import Derived.Test.YtnknamddonjnjaaGEoVTop07
set_option linter.unusedSimpArgs false
set_option linter.unusedVariables false
namespace Go.Proofs.Ytnknamddonjnjaa
open Go Go.RowKit Go.Proofs

theorem runV_congr {x : Actn} (hx : x.ok = true) {v v' : List Int} (h : ∀ k ∈ x.rk, v.getD k.toNat 0 = v'.getD k.toNat 0) : runV v x = runV v' x := by
  obtain ⟨kd, a, b, m⟩ := x
  simp only [Actn.ok, Bool.and_eq_true] at hx
  have hko := hx.2.2.2
  unfold kindOk at hko
  unfold runV
  dsimp only
  unfold Actn.rk at h
  dsimp only at h hko
  by_cases hab : a = b
  · subst hab
    by_cases h1 : kd = 1
    · subst h1; simp [runE, Actn.don, Actn.rds, Actn.rk, Actn.wrs]
    · have e : v.getD a.toNat 0 = v'.getD a.toNat 0 := h a (by rw [if_neg h1]; simp)
      rw [e]
  · rcases kinds kd with rfl | rfl | rfl | rfl | rfl | rfl | ⟨n1, n2, n3, n4, n5, n6⟩
    · simp [runE, Actn.don, Actn.rds, Actn.rk, Actn.wrs]
    · have e1 := h a (by simp [hab]); have e2 := h b (by simp [hab]); rw [e1, e2]
    · have e1 := h a (by simp); rw [e1]; simp [runE, Actn.don, Actn.rds, Actn.rk, Actn.wrs]
    · have e1 := h a (by simp [hab]); have e2 := h b (by simp [hab]); rw [e1, e2]
    · have e1 := h a (by simp [hab]); have e2 := h b (by simp [hab]); rw [e1, e2]
    · have e1 := h a (by simp); rw [e1]; simp [runE, Actn.don, Actn.rds, Actn.rk, Actn.wrs]
    · exfalso; rw [if_neg (by omega), if_neg (by omega), decide_eq_true_eq] at hko; omega
theorem vsets_cons (v : List Int) (e : Ent) (l : List Ent) : vsets v (e :: l) = vsets (vset v e) l := rfl
theorem vsets_getD : ∀ (l : List Ent) (v : List Int) (k : Int), 0 ≤ k → (∀ e ∈ l, 0 ≤ e.k ∧ e.k ≠ k) → (vsets v l).getD k.toNat 0 = v.getD k.toNat 0
  | [], _, _, _, _ => rfl
  | e :: l, v, k, k0, h => by
    have h1 := h e (by simp)
    rw [vsets_cons, vsets_getD l _ k k0 fun x hx => h x (by simp [hx])]
    unfold vset
    simp only [List.getD_eq_getElem?_getD]
    rw [List.getElem?_set_ne (by omega)]
theorem vset_vsets : ∀ (l : List Ent) (v : List Int) (e : Ent), 0 ≤ e.k → (∀ x ∈ l, 0 ≤ x.k ∧ x.k ≠ e.k) → vsets (vset v e) l = vset (vsets v l) e
  | [], _, _, _, _ => rfl
  | x :: l, v, e, e0, h => by
    have h1 := h x (by simp)
    rw [vsets_cons, vsets_cons]
    have : vset (vset v e) x = vset (vset v x) e := by unfold vset; rw [List.set_comm _ _ (by omega)]
    rw [this, vset_vsets l _ e e0 fun y hy => h y (by simp [hy])]
theorem vsets_comm : ∀ (a b : List Ent) (v : List Int), (∀ x ∈ a, 0 ≤ x.k) → (∀ y ∈ b, 0 ≤ y.k) → (∀ x ∈ a, ∀ y ∈ b, x.k ≠ y.k) → vsets (vsets v a) b = vsets (vsets v b) a
  | [], _, _, _, _, _ => rfl
  | e :: a, b, v, ha, hb, h => by
    rw [vsets_cons, vsets_comm a b _ (fun x hx => ha x (by simp [hx])) hb (fun x hx => h x (by simp [hx])), vset_vsets b v e (ha e (by simp)) fun y hy => ⟨hb y hy, fun e' => h e (by simp) y hy e'.symm⟩]
    rfl
theorem runV_keys {x : Actn} (hx : x.ok = true) (v : List Int) : ∀ e ∈ (runV v x).w, e.k ∈ x.wk := by
  intro e he
  have hk := wrs_keys hx (v.getD x.src.toNat 0) (v.getD x.dst.toNat 0)
  unfold runV runE at he
  dsimp only at he
  split at he
  · rw [← hk]; exact List.mem_map.2 ⟨e, he, rfl⟩
  · cases he
theorem not_common {a b : List Int} (h : common a b = false) {k : Int} (ha : k ∈ a) (hb : k ∈ b) : False := by
  have : common a b = true := by
    simp only [common, List.any_eq_true, List.contains_iff_mem]
    exact ⟨k, ha, hb⟩
  rw [this] at h; cases h
theorem conf_parts {x y : Actn} (h : conf x y = false) : common x.wk y.wk = false ∧ common x.wk y.rk = false ∧ common x.rk y.wk = false := by
  simp only [conf, Bool.or_eq_false_iff] at h
  exact ⟨h.1, h.2.1, h.2.2⟩
/-- What an action does behind another with which it is not in conflict. -/
theorem runV_after {x y : Actn} (hx : x.ok = true) (hy : y.ok = true) (h : common x.rk y.wk = false) (v u : List Int) : runV (vsets v (runV u y).w) x = runV v x := by
  refine runV_congr hx fun k hk => ?_
  refine vsets_getD _ _ _ (Actn.rk_in hx k hk).1 fun e he => ?_
  have hm := runV_keys hy u e he
  exact ⟨(Actn.wk_in hy _ hm).1, fun e' => not_common h hk (e' ▸ hm)⟩
theorem common_symm (a b : List Int) : common a b = common b a := by
  rw [Bool.eq_iff_iff]
  simp only [common, List.any_eq_true, List.contains_iff_mem]
  constructor
  · rintro ⟨k, h1, h2⟩; exact ⟨k, h2, h1⟩
  · rintro ⟨k, h1, h2⟩; exact ⟨k, h2, h1⟩
theorem step_comm {x y : Actn} (hx : x.ok = true) (hy : y.ok = true) (h : conf x y = false) (v : List Int) :
    runV (vsets v (runV v x).w) y = runV v y ∧ runV (vsets v (runV v y).w) x = runV v x ∧ vsets (vsets v (runV v x).w) (runV v y).w = vsets (vsets v (runV v y).w) (runV v x).w := by
  obtain ⟨h1, h2, h3⟩ := conf_parts h
  refine ⟨runV_after hy hx (by rw [common_symm]; exact h2) v v, runV_after hx hy h3 v v, vsets_comm _ _ _ ?_ ?_ ?_⟩
  · intro e he; exact (Actn.wk_in hx _ (runV_keys hx v e he)).1
  · intro e he; exact (Actn.wk_in hy _ (runV_keys hy v e he)).1
  · intro e he e' he' ek
    exact not_common h1 (runV_keys hx v e he) (ek ▸ runV_keys hy v e' he')
theorem foldl_run : ∀ (l : List Actn) (v : List Int) (es : List Eff), l.foldl runStep (v, es) = ((runAll v l).1, es ++ (runAll v l).2)
  | [], v, es => by simp [runAll]
  | x :: l, v, es => by
    unfold runAll
    rw [List.foldl_cons, List.foldl_cons]
    show l.foldl runStep (vsets v (runV v x).w, es ++ [runV v x]) = _
    rw [foldl_run l]
    show _ = ((l.foldl runStep (vsets v (runV v x).w, [] ++ [runV v x])).1, es ++ (l.foldl runStep (vsets v (runV v x).w, [] ++ [runV v x])).2)
    rw [foldl_run l]
    simp
theorem runAll_cons (v : List Int) (x : Actn) (l : List Actn) : runAll v (x :: l) = ((runAll (vsets v (runV v x).w) l).1, runV v x :: (runAll (vsets v (runV v x).w) l).2) := by
  have := foldl_run l (vsets v (runV v x).w) [runV v x]
  unfold runAll
  rw [List.foldl_cons]
  show l.foldl runStep (vsets v (runV v x).w, [] ++ [runV v x]) = _
  rw [List.nil_append, this]; rfl
/-- An action that is not in conflict with those behind it may stand at their end. -/
theorem run_move {x : Actn} (hx : x.ok = true) : ∀ (B : List Actn) (v : List Int), (∀ y ∈ B, y.ok = true ∧ conf x y = false) →
    (runAll (vsets v (runV v x).w) B).2 = (runAll v B).2 ∧ runV (runAll v B).1 x = runV v x ∧ (runAll (vsets v (runV v x).w) B).1 = vsets (runAll v B).1 (runV v x).w
  | [], v, _ => ⟨rfl, rfl, rfl⟩
  | y :: B, v, h => by
    obtain ⟨hy, hc⟩ := h y (by simp)
    obtain ⟨s1, s2, s3⟩ := step_comm hx hy hc v
    obtain ⟨i1, i2, i3⟩ := run_move hx B (vsets v (runV v y).w) fun z hz => h z (by simp [hz])
    rw [s2] at i1 i2 i3
    rw [runAll_cons, runAll_cons, s1, s3]
    exact ⟨by rw [i1], i2, i3⟩
/-- Two that are not in conflict, in both orders. -/
theorem run_two {x y : Actn} (hx : x.ok = true) (hy : y.ok = true) (h : conf x y = false) (v : List Int) :
    (runAll v [x, y]).1 = (runAll v [y, x]).1 ∧ (runAll v [x, y]).2 = [runV v x, runV v y] ∧ (runAll v [y, x]).2 = [runV v y, runV v x] := by
  obtain ⟨s1, s2, s3⟩ := step_comm hx hy h v
  refine ⟨?_, ?_, ?_⟩
  · simp only [runAll_cons, s1, s2, s3]
  · simp only [runAll_cons, s1]; rfl
  · simp only [runAll_cons, s2]; rfl
end Go.Proofs.Ytnknamddonjnjaa
namespace Go.Proofs.Ytnknamddonjnjaa
open Go Go.RowKit Go.Proofs

theorem runAll_app (v : List Int) (P Q : List Actn) : runAll v (P ++ Q) = ((runAll (runAll v P).1 Q).1, (runAll v P).2 ++ (runAll (runAll v P).1 Q).2) := by
  have h1 : runAll v (P ++ Q) = Q.foldl runStep (runAll v P) := by unfold runAll; rw [List.foldl_append]
  rw [h1]
  exact foldl_run Q (runAll v P).1 (runAll v P).2
theorem runAll_at (v : List Int) {l : List Actn} {k : Nat} {x : Actn} (h : l[k]? = some x) : (runAll v l).2[k]? = some (runV (runAll v (l.take k)).1 x) := by
  obtain ⟨h1, h2⟩ := List.getElem?_eq_some_iff.1 h
  have hs : l.take k ++ x :: l.drop (k + 1) = l := by rw [← h2, ← List.drop_eq_getElem_cons h1, List.take_append_drop]
  have key : ∀ P Q : List Actn, P.length = k → (runAll v (P ++ x :: Q)).2[k]? = some (runV (runAll v P).1 x) := by
    intro P Q hP
    rw [runAll_app, runAll_cons]
    have hl : (runAll v P).2.length = k := by rw [runAll_len, hP]
    rw [List.getElem?_append_right (by omega), hl, Nat.sub_self]
    rfl
  have := key (l.take k) (l.drop (k + 1)) (by rw [List.length_take]; omega)
  rwa [hs] at this
/-- The versions of the first k effects. -/
def versE (E : List Eff) : Nat → List Ver
  | 0 => []
  | k + 1 => putV (versE E k) k (match E[k]? with | some e => e.w | none => [])
theorem versE_next {E : List Eff} {k : Nat} {e : Eff} (h : E[k]? = some e) : versE E (k + 1) = putV (versE E k) k e.w := by rw [versE, h]
theorem versE_by (E : List Eff) : ∀ (k : Nat), ∀ x ∈ versE E k, 0 ≤ x.b ∧ x.b < k
  | 0, x, h => by cases h
  | k + 1, x, h => by
    rw [versE] at h
    generalize (match E[k]? with | some e => e.w | none => []) = u at h
    have := (putTo_perm (k : Int) u _).mem_iff.1 h
    rcases List.mem_append.1 this with h | h
    · have := versE_by E k x (dropV_ne h).1; omega
    · obtain ⟨e, _, rfl⟩ := List.mem_map.1 h
      show 0 ≤ (k : Int) ∧ (k : Int) < _
      omega
theorem versE_drop (E : List Eff) (k : Nat) : dropV (versE E k) k = versE E k := by
  unfold dropV
  rw [List.filter_eq_self]
  intro x hx
  have := versE_by E k x hx
  simp; omega
theorem versE_to (E : List Eff) (k : Nat) : versE E (k + 1) = putTo k (versE E k) (match E[k]? with | some e => e.w | none => []) := by
  rw [versE, putV, versE_drop]
theorem okW_at {E : List Eff} (h : ∀ e ∈ E, entsOk 0 e.w = true) (k : Nat) : entsOk 0 (match E[k]? with | some e => e.w | none => []) = true := by
  cases hk : E[k]? with
  | none => rfl
  | some e => exact h e (List.mem_of_getElem? hk)
theorem versE_ok {E : List Eff} (h : ∀ e ∈ E, entsOk 0 e.w = true) : ∀ k, k ≤ 10 → versOk (versE E k) = true
  | 0, _ => rfl
  | k + 1, hk => by
    rw [versE]
    refine putV_ok ?_
    simp only [putOk, versE_ok h k (by omega), okW_at h k, Bool.true_and, Bool.and_true, inR_iff]
    omega
theorem versE_putOk {E : List Eff} (h : ∀ e ∈ E, entsOk 0 e.w = true) {k : Nat} {e : Eff} (hk : k < 10) (he : E[k]? = some e) : putOk (versE E k) k e.w = true := by
  simp only [putOk, versE_ok h k (by omega), h e (List.mem_of_getElem? he), Bool.true_and, Bool.and_true, inR_iff]
  omega
theorem versE_len {E : List Eff} (h : ∀ e ∈ E, entsOk 0 e.w = true) : ∀ k, (versE E k).length ≤ 32 * k
  | 0 => by simp [versE]
  | k + 1 => by
    rw [versE]
    have h1 := putV_le (versE E k) k (match E[k]? with | some e => e.w | none => [])
    have h2 := entsOk_len (okW_at h k)
    have h3 := versE_len h k
    omega
theorem readV_ins_no {base key b : Int} {x : Ver} (h : ∀ p, rdStep key b p x = p) (l : List Ver) : readV base (insV x l) key b = readV base l key b := by
  unfold readV insV
  rw [List.foldl_append, List.foldl_cons, h, ← List.foldl_append, List.takeWhile_append_dropWhile]
theorem readV_putTo_no {base key b by_ : Int} : ∀ (u : List Ent) (out : List Ver), (∀ e ∈ u, e.k ≠ key ∨ ¬ by_ < b) → readV base (putTo by_ out u) key b = readV base out key b
  | [], _, _ => rfl
  | e :: u, out, h => by
    show readV base (putTo by_ (insV (mkV by_ e) out) u) key b = _
    rw [readV_putTo_no u _ fun x hx => h x (by simp [hx]), readV_ins_no]
    intro p
    rcases h e (by simp) with h1 | h1
    · exact rdStep_no1 h1
    · exact rdStep_no2 h1
theorem foldl_no {key b : Int} : ∀ (B : List Ver) (p : Int × Int), (∀ y ∈ B, ¬ (y.k = key ∧ y.b < b)) → B.foldl (rdStep key b) p = p
  | [], _, _ => rfl
  | y :: B, p, h => by
    rw [List.foldl_cons]
    have : rdStep key b p y = p := if_neg (h y (by simp))
    rw [this]
    exact foldl_no B p fun z hz => h z (by simp [hz])
theorem readV_last {base key b : Int} {l : List Ver} {x : Ver} (hs : l.Pairwise fun a b => verLt a b = true) (hx : x ∈ l) (hk : x.k = key) (hb : x.b < b) (hm : ∀ y ∈ l, y.k = key → y.b < b → y.b ≤ x.b) : readV base l key b = (x.v, x.b) := by
  obtain ⟨A, B, rfl⟩ := List.append_of_mem hx
  rw [List.pairwise_append, List.pairwise_cons] at hs
  unfold readV
  rw [List.foldl_append, List.foldl_cons, rdStep_yes hk hb]
  refine foldl_no B _ fun y hy ⟨h1, h2⟩ => ?_
  have h3 := hs.2.1.1 y hy
  rw [verLt_iff] at h3
  have := hm y (by simp [hy]) h1 h2
  omega
theorem readV_more {base key b c : Int} {l : List Ver} (h : ∀ x ∈ l, x.b < b) (hbc : b ≤ c) : readV base l key c = readV base l key b := by
  have key' : ∀ (l : List Ver) (p : Int × Int), (∀ x ∈ l, x.b < b) → l.foldl (rdStep key c) p = l.foldl (rdStep key b) p := by
    intro l
    induction l with
    | nil => intro p _; rfl
    | cons x l ih =>
      intro p h
      have hx := h x (by simp)
      have e : rdStep key c p x = rdStep key b p x := by
        unfold rdStep
        by_cases hk : x.k = key
        · rw [if_pos ⟨hk, by omega⟩, if_pos ⟨hk, hx⟩]
        · rw [if_neg fun a => hk a.1, if_neg fun a => hk a.1]
      rw [List.foldl_cons, List.foldl_cons, e, ih _ fun y hy => h y (by simp [hy])]
  exact key' l (base, -1) h
theorem versE_early (E : List Eff) (base key : Int) {n : Nat} : ∀ (d : Nat), readV base (versE E (n + d)) key n = readV base (versE E n) key n
  | 0 => rfl
  | d + 1 => by
    rw [← Nat.add_assoc, versE_to, readV_putTo_no, versE_early E base key d]
    intro e _
    right; omega
theorem versE_read {s : List Ent} {l : List Actn} (hs : entsOk 1 s = true) (hl : ∀ x ∈ l, x.ok = true) (hlen : l.length ≤ 10) {key : Nat} (hkey : key < 32) :
    ∀ n, n ≤ l.length → (readV (atK s key) (versE (runAll (valsOf s) l).2 n) key n).1 = (runAll (valsOf s) (l.take n)).1.getD key 0
  | 0, _ => by
    show atK s key = (valsOf s).getD key 0
    rw [List.getD_eq_getElem?_getD, valsOf_get hs hkey]; rfl
  | n + 1, hn => by
    obtain ⟨x, hx⟩ := getElem?_some_of_lt (l := l) (k := n) (by omega)
    have hvi : valsIn (valsOf s) := valsOf_in (entsOk_least (by decide) hs)
    have hE := runAll_at (valsOf s) hx
    have ih := versE_read hs hl hlen hkey n (by omega)
    have hW : ∀ e ∈ (runAll (valsOf s) l).2, entsOk 0 e.w = true := by
      intro e he
      obtain ⟨i, hi⟩ := List.getElem?_of_mem he
      have hil : i < l.length := by have := (List.getElem?_eq_some_iff.1 hi).1; rwa [runAll_len] at this
      obtain ⟨y, hy⟩ := getElem?_some_of_lt hil
      rw [runAll_at (valsOf s) hy] at hi
      cases hi
      exact runV_ok (runAll_in hvi fun z hz => hl z (List.mem_of_mem_take hz)) (hl y (List.mem_of_getElem? hy))
    have hby := versE_by (runAll (valsOf s) l).2 n
    have hby1 := versE_by (runAll (valsOf s) l).2 (n + 1)
    have hok1 := vers_sorted (versE_ok hW (n + 1) (by omega))
    have hto := versE_to (runAll (valsOf s) l).2 n
    rw [hE] at hto
    have hVi : valsIn (runAll (valsOf s) (l.take n)).1 := runAll_in hvi fun z hz => hl z (List.mem_of_mem_take hz)
    have hVl : (runAll (valsOf s) (l.take n)).1.length = 32 := hVi.1
    have hu := runV_ok hVi (hl x (List.mem_of_getElem? hx))
    have hstep : (runAll (valsOf s) (l.take (n + 1))).1 = vsets (runAll (valsOf s) (l.take n)).1 (runV (runAll (valsOf s) (l.take n)).1 x).w := by rw [runAll_snoc _ hx]; rfl
    rw [hstep, List.getD_eq_getElem?_getD, vsets_get _ _ key (asc_of hu) (fun y hy => (entsOk_mem hu hy).1) (by omega)]
    dsimp only at hto
    generalize (runV (runAll (valsOf s) (l.take n)).1 x).w = u at *
    generalize (runAll (valsOf s) (l.take n)).1 = V at *
    generalize versE (runAll (valsOf s) l).2 (n + 1) = W1 at *
    generalize versE (runAll (valsOf s) l).2 n = W0 at *
    cases hf : u.find? (fun e => e.k == (key : Int)) with
    | none =>
      rw [List.find?_eq_none] at hf
      rw [hto, readV_putTo_no u W0 (fun e he => .inl (by have := hf e he; simpa using this)), readV_more (b := (n : Int)) (fun y hy => (hby y hy).2) (by omega), ih, List.getD_eq_getElem?_getD]
    | some y =>
      have hy := List.mem_of_find?_eq_some hf
      have hyk : y.k = key := by have := List.find?_some hf; simpa using this
      have hmem : mkV n y ∈ W1 := by
        rw [hto]
        exact (putTo_perm (n : Int) u W0).mem_iff.2 (List.mem_append.2 (.inr (List.mem_map.2 ⟨y, hy, rfl⟩)))
      rw [readV_last hok1 hmem hyk (by show (n : Int) < _; omega) (fun z hz _ _ => by have := hby1 z hz; show z.b ≤ (n : Int); omega)]
      rfl
theorem serOkW {s : List Ent} {l : List Actn} (hs : entsOk 1 s = true) (hl : ∀ x ∈ l, x.ok = true) : ∀ e ∈ (runAll (valsOf s) l).2, entsOk 0 e.w = true := by
  have hvi : valsIn (valsOf s) := valsOf_in (entsOk_least (by decide) hs)
  intro e he
  obtain ⟨i, hi⟩ := List.getElem?_of_mem he
  have hil : i < l.length := by have := (List.getElem?_eq_some_iff.1 hi).1; rwa [runAll_len] at this
  obtain ⟨y, hy⟩ := getElem?_some_of_lt hil
  rw [runAll_at (valsOf s) hy] at hi
  cases hi
  exact runV_ok (runAll_in hvi fun z hz => hl z (List.mem_of_mem_take hz)) (hl y (List.mem_of_getElem? hy))
/-- An action reads in all versions what it read in the run. -/
theorem serV_read {s : List Ent} {l : List Actn} (hs : entsOk 1 s = true) (hl : ∀ x ∈ l, x.ok = true) (hlen : l.length ≤ 10) {k : Nat} {e : Eff} (he : (runAll (valsOf s) l).2[k]? = some e) {y : Ent} (hy : y ∈ e.r) :
    (rdV s (versE (runAll (valsOf s) l).2 l.length) y.k k).1 = y.v := by
  have hvi : valsIn (valsOf s) := valsOf_in (entsOk_least (by decide) hs)
  have hk : k < l.length := by have := (List.getElem?_eq_some_iff.1 he).1; rwa [runAll_len] at this
  obtain ⟨x, hx⟩ := getElem?_some_of_lt hk
  rw [runAll_at (valsOf s) hx] at he
  cases he
  have hVi : valsIn (runAll (valsOf s) (l.take k)).1 := runAll_in hvi fun z hz => hl z (List.mem_of_mem_take hz)
  obtain ⟨k0, k1, hv⟩ := rds_at (hl x (List.mem_of_getElem? hx)) hVi.1 y hy
  have hr := versE_read hs hl hlen (key := y.k.toNat) (by omega) k (by omega)
  rw [List.getD_eq_getElem?_getD, hv, show ((y.k.toNat : Nat) : Int) = y.k from by omega] at hr
  have hE := versE_early (runAll (valsOf s) l).2 (atK s y.k) y.k (n := k) (l.length - k)
  rw [show k + (l.length - k) = l.length from by omega] at hE
  have hV := versE_ok (serOkW hs hl) l.length hlen
  rw [rdV_yes (by simp only [rdOk, hs, hV, Bool.true_and, Bool.and_eq_true, inR_iff]; omega), hE, hr]
  rfl
/-- All versions leave the run's store. -/
theorem serV_last {s : List Ent} {l : List Actn} (hs : entsOk 1 s = true) (hl : ∀ x ∈ l, x.ok = true) (hlen : l.length ≤ 10) :
    lastR s (versE (runAll (valsOf s) l).2 l.length) = storeOf (runAll (valsOf s) l).1 := by
  have hvi : valsIn (valsOf s) := valsOf_in (entsOk_least (by decide) hs)
  have hV := versE_ok (serOkW hs hl) l.length hlen
  rw [lastR_yes (by rw [hs, hV]; rfl)]
  congr 1
  have hRl : (runAll (valsOf s) l).1.length = 32 := (runAll_in hvi hl).1
  apply List.ext_getElem?
  intro i
  by_cases hi : i < 32
  · have hr := versE_read hs hl hlen hi l.length (Nat.le_refl _)
    rw [List.take_length, List.getD_eq_getElem?_getD] at hr
    obtain ⟨c, hc⟩ := getElem?_some_of_lt (l := (runAll (valsOf s) l).1) (k := i) (by omega)
    rw [hc] at hr
    rw [lastV_get _ _ hi, hc, readV_more (b := (l.length : Int)) (fun y hy => (versE_by _ _ y hy).2) (by omega), hr]
    rfl
  · rw [List.getElem?_eq_none (by rw [lastV_length]; omega), List.getElem?_eq_none (by omega)]
end Go.Proofs.Ytnknamddonjnjaa
namespace Go.Proofs.Ytnknamddonjnjaa
open Go Go.RowKit Go.Proofs

structure Slt where
  st : Int
  tr : Int
  f : List Int
  e : Eff
structure TS where
  st : Int
  tr : Int
  vf : Value
  d : Bool
  vr : Value
  vw : Value
  f : List Int
  r : List Ent
  w : List Ent
def TS.enc (x : TS) : List Value := [.int .i64 x.st, .int .i64 x.tr, x.vf, .bool x.d, x.vr, x.vw]
theorem TS.enc_length (x : TS) : x.enc.length = 6 := rfl
def TS.core (x : TS) : Slt := ⟨x.st, x.tr, x.f, ⟨x.d, x.r, x.w⟩⟩
/-- Slots in memory. -/
def SS (w : World) (v : Value) (l : List Slt) : Prop := ∃ ts : List TS, l = ts.map TS.core ∧ SL (RF TS.enc) 6 w v ts ∧ ∀ x ∈ ts, SL (RF encI) 1 w x.vf x.f ∧ SL (RF Ent.enc) 2 w x.vr x.r ∧ SL (RF Ent.enc) 2 w x.vw x.w
theorem SS.up {w w' : World} {v : Value} {l : List Slt} (h : SS w v l) (hE : Ext w w') : SS w' v l := by
  obtain ⟨ts, h1, h2, h3⟩ := h
  exact ⟨ts, h1, h2.up hE, fun x hx => ⟨(h3 x hx).1.up hE, (h3 x hx).2.1.up hE, (h3 x hx).2.2.up hE⟩⟩
theorem SS.open {w : World} {v : Value} {l : List Slt} (h : SS w v l) : ∃ a cap, v = .slice a l.length cap ∧ l.length ≤ 9223372036854775807 ∧ ∀ (k : Nat) x, l[k]? = some x → ∃ b off p0 c0 p1 c1 p2 c2, a = some ⟨b, off, none⟩ ∧ LtS b w ∧
    (w.cell? ⟨b, off + k * 6, none⟩ = some (.int .i64 x.st) ∧ w.cell? ⟨b, off + k * 6 + 1, none⟩ = some (.int .i64 x.tr) ∧ w.cell? ⟨b, off + k * 6 + 2, none⟩ = some (.slice p0 x.f.length c0) ∧ w.cell? ⟨b, off + k * 6 + 3, none⟩ = some (.bool x.e.d) ∧
      w.cell? ⟨b, off + k * 6 + 4, none⟩ = some (.slice p1 x.e.r.length c1) ∧ w.cell? ⟨b, off + k * 6 + 5, none⟩ = some (.slice p2 x.e.w.length c2)) ∧
    SL (RF encI) 1 w (.slice p0 x.f.length c0) x.f ∧ SL (RF Ent.enc) 2 w (.slice p1 x.e.r.length c1) x.e.r ∧ SL (RF Ent.enc) 2 w (.slice p2 x.e.w.length c2) x.e.w := by
  obtain ⟨ts, rfl, h2, h3⟩ := h
  obtain ⟨a, cap, rfl, hl, hc⟩ := h2.open
  refine ⟨a, cap, by rw [List.length_map], by rw [List.length_map]; exact hl, fun k x hx => ?_⟩
  rw [List.getElem?_map, Option.map_eq_some_iff] at hx
  obtain ⟨y, hy, rfl⟩ := hx
  obtain ⟨b, off, ha, hb, hcc⟩ := hc k y hy
  obtain ⟨s0, s1, s2⟩ := h3 y (List.mem_of_getElem? hy)
  obtain ⟨p0, c0, e0, _, _⟩ := s0.openc
  obtain ⟨p1, c1, e1, _, _⟩ := s1.openc
  obtain ⟨p2, c2, e2, _, _⟩ := s2.openc
  have d0 : w.cell? ⟨b, off + k * 6 + 2, none⟩ = some y.vf := hcc 2 _ rfl
  have d1 : w.cell? ⟨b, off + k * 6 + 4, none⟩ = some y.vr := hcc 4 _ rfl
  have d2 : w.cell? ⟨b, off + k * 6 + 5, none⟩ = some y.vw := hcc 5 _ rfl
  rw [e0] at d0 s0; rw [e1] at d1 s1; rw [e2] at d2 s2
  exact ⟨b, off, p0, c0, p1, c1, p2, c2, ha, hb, ⟨hcc 0 _ rfl, hcc 1 _ rfl, d0, hcc 3 _ rfl, d1, d2⟩, s0, s1, s2⟩
structure Eng where
  base : List Ent
  acts : List Actn
  vers : List Ver
  sl : List Slt
structure SG (w : World) (v0 v1 v2 v3 : Value) (e : Eng) : Prop where
  base : SL (RF Ent.enc) 2 w v0 e.base
  acts : SL (RF Actn.enc) 4 w v1 e.acts
  vers : SL (RF Ver.enc) 3 w v2 e.vers
  sl : SS w v3 e.sl
theorem SG.up {w w' : World} {v0 v1 v2 v3 : Value} {e : Eng} (h : SG w v0 v1 v2 v3 e) (hE : Ext w w') : SG w' v0 v1 v2 v3 e := ⟨h.base.up hE, h.acts.up hE, h.vers.up hE, h.sl.up hE⟩
/-! ### What makes a slot right -/
def sameEf (a b : Eff) : Bool := (a.d == b.d) && (sameL sameE1 a.r b.r && sameL sameE1 a.w b.w)
theorem sameEf_iff (a b : Eff) : sameEf a b = true ↔ a = b := by
  obtain ⟨d, r, w⟩ := a; obtain ⟨d', r', w'⟩ := b
  simp only [sameEf, Bool.and_eq_true, sameL_iff sameE1_iff, beq_iff_eq, Eff.mk.injEq]
def rdAt (rk : List Int) (n : Int) (f : List Int) (r : List Ent) (i : Nat) : Bool := match r[i]?, rk[i]?, f[i]? with
  | some x, some k, some q => (x.k == k) && (inR x.v 0 1000000 && inR q (-1) (n - 1))
  | _, _, _ => true
theorem rdAt_eq {rk : List Int} {n : Int} {f : List Int} {r : List Ent} {i : Nat} {x : Ent} {k q : Int} (h1 : r[i]? = some x) (h2 : rk[i]? = some k) (h3 : f[i]? = some q) : rdAt rk n f r i = ((x.k == k) && (inR x.v 0 1000000 && inR q (-1) (n - 1))) := by simp [rdAt, h1, h2, h3]
def sltNew (s : Slt) : Bool := inR s.tr 0 1000 && (decide (s.f.length = 0) && sameEf s.e ⟨false, [], []⟩)
def sltTry (x : Actn) (n : Int) (s : Slt) : Bool := inR s.st 1 2 && (inR s.tr 1 1000 && (decide (s.e.r.length = x.rk.length) && (decide (s.f.length = x.rk.length) && (upTo (rdAt x.rk n s.f s.e.r) s.e.r.length && sameEf (runV (vsets zeros s.e.r) x) s.e))))
def sltOk (x : Actn) (n : Int) (s : Slt) : Bool := if s.st = 0 then sltNew s else sltTry x n s
def slAt (e : Eng) (n : Nat) : Bool := match e.sl[n]?, e.acts[n]? with
  | some s, some x => sltOk x n s
  | _, _ => true
theorem slAt_eq {e : Eng} {n : Nat} {s : Slt} {x : Actn} (h1 : e.sl[n]? = some s) (h2 : e.acts[n]? = some x) : slAt e n = sltOk x n s := by simp [slAt, h1, h2]
/-- What an action reads now is what it read. -/
def curAt (s : List Ent) (V : List Ver) (n : Int) (f : List Int) (r : List Ent) (i : Nat) : Bool := match r[i]?, f[i]? with
  | some x, some q => ((readV (atK s x.k) V x.k n).1 == x.v) && ((readV (atK s x.k) V x.k n).2 == q)
  | _, _ => true
theorem curAt_eq {s : List Ent} {V : List Ver} {n : Int} {f : List Int} {r : List Ent} {i : Nat} {x : Ent} {q : Int} (h1 : r[i]? = some x) (h2 : f[i]? = some q) : curAt s V n f r i = (((readV (atK s x.k) V x.k n).1 == x.v) && ((readV (atK s x.k) V x.k n).2 == q)) := by simp [curAt, h1, h2]
def curOk (s : List Ent) (V : List Ver) (n : Int) (t : Slt) : Bool := upTo (curAt s V n t.f t.e.r) t.e.r.length
def ckAt (e : Eng) (n : Nat) : Bool := match e.sl[n]? with
  | some s => if s.st = 2 then (decide (n = 0) || match e.sl[n - 1]? with | some p => p.st == 2 | none => true) && curOk e.base e.vers n s else true
  | none => true
def Eng.ok (e : Eng) : Bool := entsOk 1 e.base && (actsOk e.acts && (decide (e.sl.length = e.acts.length) && (upTo (slAt e) e.sl.length && (sameL sameV1 (versE (e.sl.map (·.e)) e.sl.length) e.vers && upTo (ckAt e) e.sl.length))))
def Eng.done (e : Eng) : Bool := e.ok && e.sl.all fun s => s.st == 2
def Eng.tries (e : Eng) : Int := if e.ok = true then (e.sl.map (·.tr)).sum else -1
/-- A right slot writes valid entries. -/
theorem sltOk_w {x : Actn} (hx : x.ok = true) {n : Int} {s : Slt} (h : sltOk x n s = true) (hn : s.st ≠ 0 → True) : entsOk 0 s.e.w = true := by
  unfold sltOk at h
  split at h
  · simp only [sltNew, Bool.and_eq_true] at h
    rw [(sameEf_iff _ _).1 h.2.2]; rfl
  · simp only [sltTry, Bool.and_eq_true, decide_eq_true_eq] at h
    obtain ⟨_, _, h1, h2, h3, h4⟩ := h
    rw [← (sameEf_iff _ _).1 h4]
    refine runV_ok ?_ hx
    refine valsIn_vsets (fun y hy => ?_) (by exact ⟨zeros_length, fun z hz => by have := List.eq_of_mem_replicate hz; omega⟩)
    obtain ⟨i, hi⟩ := List.getElem?_of_mem hy
    have hil := (List.getElem?_eq_some_iff.1 hi).1
    obtain ⟨k, hk⟩ := getElem?_some_of_lt (l := x.rk) (k := i) (by omega)
    obtain ⟨q, hq⟩ := getElem?_some_of_lt (l := s.f) (k := i) (by omega)
    have := upTo_iff.1 h3 i hil
    rw [rdAt_eq hi hk hq] at this
    simp only [Bool.and_eq_true, inR_iff] at this
    omega
theorem slots_w {e : Eng} (ha : actsOk e.acts = true) (hl : e.sl.length = e.acts.length) {k : Nat} (hk : k ≤ e.sl.length) (h : upTo (slAt e) k = true) : ∀ x ∈ (e.sl.map (·.e)).take k, entsOk 0 x.w = true := by
  intro x hx
  obtain ⟨i, hi⟩ := List.getElem?_of_mem hx
  have hik : i < k := by have := (List.getElem?_eq_some_iff.1 hi).1; rw [List.length_take] at this; omega
  rw [List.getElem?_take_of_lt hik, List.getElem?_map, Option.map_eq_some_iff] at hi
  obtain ⟨s, hs, rfl⟩ := hi
  obtain ⟨a, ha'⟩ := getElem?_some_of_lt (l := e.acts) (k := i) (by omega)
  have := upTo_iff.1 h i hik
  rw [slAt_eq hs ha'] at this
  exact sltOk_w (actsOk_at ha ha') this fun _ => trivial
theorem versE_take (E : List Eff) : ∀ (k m : Nat), k ≤ m → versE (E.take m) k = versE E k
  | 0, _, _ => rfl
  | k + 1, m, h => by
    rw [versE, versE, versE_take E k m (by omega), List.getElem?_take_of_lt (by omega)]
/-! ### What is read now -/
def nowL (s : List Ent) (V : List Ver) (n : Int) (rk : List Int) : List Ent := rk.map fun k => ⟨k, (readV (atK s k) V k n).1⟩
def nowF (s : List Ent) (V : List Ver) (n : Int) (rk : List Int) : List Int := rk.map fun k => (readV (atK s k) V k n).2
theorem vsets_fun (g : Int → Int) : ∀ (rk : List Int) (v : List Int) (j : Nat), (∀ k ∈ rk, 0 ≤ k) → j < v.length → (vsets v (rk.map fun k => (⟨k, g k⟩ : Ent)))[j]? = if (j : Int) ∈ rk then some (g j) else v[j]?
  | [], v, j, _, _ => by simp [vsets]
  | k :: rk, v, j, h0, hj => by
    have hk := h0 k (by simp)
    rw [List.map_cons, vsets_cons, vsets_fun g rk _ j (fun x hx => h0 x (by simp [hx])) (by rw [vset_length]; exact hj), vset_get (e := ⟨k, g k⟩) hk hj]
    by_cases h1 : (j : Int) ∈ rk
    · rw [if_pos h1, if_pos (by simp [h1])]
    · rw [if_neg h1]
      by_cases h2 : k = (j : Int)
      · rw [if_pos h2, if_pos (by simp [h2]), h2]
      · rw [if_neg h2, if_neg (by simp [h1]; omega)]
end Go.Proofs.Ytnknamddonjnjaa
namespace Go.Proofs.Ytnknamddonjnjaa
open Go Go.RowKit Go.Proofs

theorem Eng.vers_eq {e : Eng} (h : e.ok = true) : versE (e.sl.map (·.e)) e.sl.length = e.vers := by
  unfold Eng.ok at h
  simp only [Bool.and_eq_true] at h
  exact (sameL_iff sameV1_iff).1 h.2.2.2.2.1
/-- A valid engine with a version more is not valid. -/
theorem Eng.more_no {e : Eng} (h : e.ok = true) (v : Ver) : Eng.ok ⟨e.base, e.acts, e.vers ++ [v], e.sl⟩ = false := by
  rw [← Bool.not_eq_true]
  intro h2
  have a := Eng.vers_eq h
  have b : versE (e.sl.map (·.e)) e.sl.length = e.vers ++ [v] := Eng.vers_eq h2
  rw [a] at b
  have := congrArg List.length b
  simp at this
/-- A done engine has all slots checked. -/
theorem Eng.done_all {e : Eng} (h : e.done = true) : e.ok = true ∧ ∀ (k : Nat) t, e.sl[k]? = some t → t.st = 2 := by
  unfold Eng.done at h
  simp only [Bool.and_eq_true] at h
  refine ⟨h.1, fun k t ht => ?_⟩
  have := List.all_eq_true.1 h.2 t (List.mem_of_getElem? ht)
  simpa using this
end Go.Proofs.Ytnknamddonjnjaa
namespace Go.Proofs.Ytnknamddonjnjaa
open Go Go.RowKit Go.Proofs

theorem rd_cat {α : Type} {enc : α → List Value} {e sz lo rb : Nat} {lim : Int} {w0 w W w7 : World} {v : Value} {l : List α} (hR : Rd w0 W rb lim) (hG : w.grownBy W (some rb)) (hown : Own enc e sz lo W v l) (hlo : rb < lo) (hw : w.heap.size ≤ lo) (hE : Ext w0 w7) (g7 : W.grownBy w7 v.ownBlock) :
    Rd w0 w7 rb lim ∧ (∃ z : ExtR rb w, w7 = z.val) := by
  refine ⟨hR.grown hE (g7.block rb hR.lt (fun e => ?_)), ExtR.of ?_⟩
  · rcases hown.ne_rb hlo with h | h
    · rw [h] at e; cases e
    · exact h e.symm
  · refine ⟨g7.os.trans hG.os, g7.tape.trans hG.tape, g7.output.trans hG.output, Nat.le_trans hG.size g7.size, fun n hn hne => ?_⟩
    refine (g7.block n (Nat.lt_of_lt_of_le hn hG.size) (fun e => ?_)).trans (hG.block n hn hne)
    have := (World.ownsRow.lt hown n e.symm).1
    omega
set_option maxRecDepth 100000 in
set_option maxHeartbeats 4000000 in
theorem drawStore_any (w0 w : World) (rb : Nat) (lim n : Int) (h : Rd w0 w rb lim) (hl : lim ≤ 100000) (hn0 : 0 ≤ n) (hn1 : n ≤ 1000000) :
    Calls Try.prog 30 #[.pointer (some ⟨rb, 0, none⟩), .int .i64 n] w fun e w' => ∃ v' l, e = .returned v' ∧ l.length ≤ 33 ∧ (n = 0 → entsOk 1 l = true) ∧ (∃ z : ExtR rb w, w' = z.val) ∧ Rd w0 w' rb (lim + 100) ∧ Own Ent.enc 59 2 w.heap.size w' v' l := by
  have H := Lib.hid h
  have hL : LtS rb w := ⟨h.lt⟩
  have hLe : w0.heap.size ≤ w.heap.size := h.ext.size
  have hlt := h.lt
  clear h
  go_enter Try.func30, Try.ntmps30
  go_wp2_with fail
  refine (pick_any w0 _ rb lim 7 (H.out.up (by repeat (first | (with_reducible exact Ext.refl _) | (with_reducible refine Ext.up ?_ _) | (with_reducible refine Ext.alloc ?_ _) | (with_reducible refine Ext.drew ?_) | (with_reducible refine Ext.setRow ?_ (by first | exact LeS.le | exact LeS.add _ | (simp; done) | (simp; omega)) _) | (with_reducible refine Ext.setCell ?_ (by first | exact LeS.le | exact LeS.add _ | (simp; done) | (simp; omega)) _)))) (by omega) (by omega) (by omega)).mono ?_; rintro e w' ⟨j0, rfl, j00, j01, j02, ⟨z0, rfl⟩, hr⟩
  have H0 := Lib.hid hr
  have hj := j01 (by omega)
  clear hr j01 j02
  go_wp2_with fail
  go_loopw [5, 6] (fun s5 s6 wr => ∃ (j : Int) (out : List Ent), s6 = .int .i64 j ∧ 0 ≤ j ∧ j ≤ 6 ∧ entsOk 1 out = true ∧ (∃ z : ExtR rb w, wr = z.val) ∧ Rd w0 wr rb (lim + 60 - 8 * j) ∧ Own Ent.enc 59 2 w.heap.size wr s5 out) (fun _ s6 _ => (intOf s6).toNat)
  case atStart =>
    refine ⟨j0, [], rfl, j00, by omega, rfl, ExtR.of (by repeat (first | (with_reducible exact grownBy_refl _ _) | (with_reducible refine GB.setNew ?_ (by first | exact LeS.le | exact LeS.add _ | (simp; done) | (simp; omega)) _ _) | (with_reducible refine GB.alloc ?_ _) | (with_reducible refine GB.drew ?_) | (with_reducible refine GB.upR ?_ _) | (with_reducible refine GB.up ?_ _))), H0.out.mono (by omega), ?_⟩
    have o0 : Own Ent.enc 59 2 w.heap.size (w.alloc (.cells #[] 59)) (.slice (some ⟨w.heap.size, 0, none⟩) 0 0) [] := Own.lit rfl (Nat.le_refl _) rfl rfl Ent.enc_length (by simp)
    exact Own.upR o0 hlt z0
  case round =>
    obtain ⟨j, out, rfl, jj0, jj6, hok, ⟨z, rfl⟩, hr, hown⟩ := hrel
    have hol := entsOk_len hok
    have H1 := Lib.hid hr; have HO := Lib.hid hown; have Hok := Lib.hid hok
    have hLz : LtS rb z.val := ⟨hr.lt⟩
    clear hr hown hok
    by_cases hjz : 0 < j
    · go_wp2_with fail
      refine (key_any w0 _ rb _ H1.out (by omega)).mono ?_; rintro e w' ⟨key, rfl, y0, y1, ⟨z1, rfl⟩, hr⟩
      have H2 := Lib.hid hr; clear hr
      go_wp2_with fail
      refine (value_any w0 _ rb _ H2.out (by omega)).mono ?_; rintro e w' ⟨val, rfl, x0, x1, ⟨z2, rfl⟩, hr⟩
      have H3 := Lib.hid hr; clear hr
      have HO2 := Lib.hid ((HO.out.upR hlt z1).upR hlt z2)
      go_wp2_with fail
      refine (sPutValue_yes out _ key val _ (HO2.out.sl Ent.enc_length) Hok.out y0 y1 x0 x1).mono ?_; rintro e w' ⟨v7, rfl, ⟨z3, rfl⟩, o7⟩
      have O7 := Lib.hid o7; clear o7
      have hsz : w.heap.size ≤ z2.val.heap.size := Nat.le_trans (Nat.le_trans z.grown.size z1.grown.size) z2.grown.size
      go_wp2_with fail
      go_roundw
      case rel =>
        refine ⟨j - 1, _, by go_num, by omega, by omega, ?_, ExtR.of (GB.up (GB.upR (GB.upR z.grown z1) z2) z3), (H3.out.up z3.ext).mono (by omega), O7.out.lo hsz⟩
        rw [putF_asc (asc_of Hok.out)]
        exact putS_ok Hok.out y0 y1 (fun hp => by simp at hp; omega)
      case measure => simp [intOf]; omega
    · obtain rfl : j = 0 := by omega
      go_wp2_with fail
      refine (odd_any w0 _ rb _ n H1.out (by omega) (by omega) (by omega)).mono ?_; rintro e w' ⟨bo, rfl, hbo, ⟨z1, rfl⟩, hr⟩
      have H2 := Lib.hid hr; clear hr
      have HO1 := Lib.hid (HO.out.upR hlt z1)
      rcases bo with _ | _
      · go_wp2_with fail
        go_ret
        exact ⟨_, out, rfl, by omega, fun _ => Hok.out, ExtR.of (GB.upR z.grown z1), H2.out.mono (by omega), HO1.out⟩
      · have hn : n ≠ 0 := fun e => by cases hbo e
        clear hbo
        go_wp2_with fail
        refine (pick_any w0 _ rb _ 4 H2.out (by omega) (by omega) (by omega)).mono ?_; rintro e w' ⟨q, rfl, q0, q1, q2, ⟨z2, rfl⟩, hr⟩
        have H3 := Lib.hid hr; clear hr
        have HO2 := Lib.hid (HO1.out.upR hlt z2)
        have hq1 := q1 (by omega)
        clear q1 q2
        have HG := Lib.hid (GB.upR (GB.upR z.grown z1) z2)
        have hLz2 : LtS rb z2.val := ⟨H3.out.lt⟩
        have hLeq : LeS w z2.val := ⟨HG.out.size⟩
        have hq : q = 0 ∨ q = 1 ∨ q = 2 ∨ q = 3 := by omega
        rcases hq with rfl | rfl | rfl | rfl
        · go_wp2_with (at_builtin; refine wpList_pushG fEnt rfl (.tmp 34) (.tmp 36) rfl Ent.enc Ent.enc_length w0 (lo := w.heap.size) [⟨32, 1⟩] out rfl HO2.out H3.out.ext hLe LeS.le rfl rfl (by go_simp) rfl (oneEs' _) (by simp; omega) (by simp; omega) ?_; intro v7 z7 o7 g7 b7; clear b7)
          obtain ⟨R7, E7⟩ := rd_push (w := w) H3.out HG.out HO2.out hlt (Nat.le_refl _) z7.ext g7; clear g7
          go_ret
          exact ⟨_, _, rfl, by rw [List.length_append]; simp; omega, fun e => absurd e hn, E7, R7.mono (by omega), o7⟩
        · have o1 : Own Ent.enc 59 2 w.heap.size (z2.val.alloc (.cells #[.int .i64 31, .int .i64 1] 59)) (.slice (some ⟨z2.val.heap.size, 0, none⟩) 1 1) [⟨31, 1⟩] := Own.lit rfl HG.out.size rfl rfl Ent.enc_length (by simp)
          have O1 := Lib.hid o1; clear o1
          go_wp2_with (at_builtin; refine wpList_pushG fEnt rfl (.tmp 41) (.tmp 43) rfl Ent.enc Ent.enc_length w0 (lo := w.heap.size) [⟨0, 1⟩] [⟨31, 1⟩] rfl O1.out (H3.out.alloc _).ext hLe (by have := HG.out.size; simp; omega) rfl rfl (by go_simp) rfl (oneEs' _) (by simp) (by simp) ?_; intro v7 z7 o7 g7 b7; clear b7)
          obtain ⟨R7, E7⟩ := rd_push (w := w) (H3.out.alloc _) (GB.alloc HG.out _) O1.out hlt (Nat.le_refl _) z7.ext g7; clear g7
          go_ret
          exact ⟨_, _, rfl, by simp, fun e => absurd e hn, E7, R7.mono (by omega), o7⟩
        · have o1 : Own Ent.enc 59 2 w.heap.size (z2.val.alloc (.cells #[] 59)) (.slice (some ⟨z2.val.heap.size, 0, none⟩) 0 0) [] := Own.lit rfl HG.out.size rfl rfl Ent.enc_length (by simp)
          have O1 := Lib.hid o1; clear o1
          go_wp2_with fail
          refine (pick_any w0 _ rb _ 3 ((H3.out.alloc _).alloc _) (by omega) (by omega) (by omega)).mono ?_; rintro e w' ⟨q, rfl, q0, q1, q2, ⟨z4, rfl⟩, hr⟩
          have H4 := Lib.hid hr; clear hr
          have hq1 := q1 (by omega)
          clear q1 q2
          have hLz4 : LtS z2.val.heap.size ((z2.val.alloc (.cells #[] 59)).alloc (.cells #[.int .i64 0, .int .i64 (-1), .int .i64 1000001] 3)) := ⟨by simp; omega⟩
          have HO4 := Lib.hid ((O1.out.up (w' := (z2.val.alloc (.cells #[] 59)).alloc (.cells #[.int .i64 0, .int .i64 (-1), .int .i64 1000001] 3)) (by repeat (first | (with_reducible exact Ext.refl _) | (with_reducible refine Ext.up ?_ _) | (with_reducible refine Ext.alloc ?_ _) | (with_reducible refine Ext.drew ?_) | (with_reducible refine Ext.setRow ?_ (by first | exact LeS.le | exact LeS.add _ | (simp; done) | (simp; omega)) _) | (with_reducible refine Ext.setCell ?_ (by first | exact LeS.le | exact LeS.add _ | (simp; done) | (simp; omega)) _)))).upR hlt z4)
          have HG4 := Lib.hid (GB.upR (GB.alloc (GB.alloc HG.out (.cells #[] 59)) (.cells #[.int .i64 0, .int .i64 (-1), .int .i64 1000001] 3)) z4)
          have hqq : q = 0 ∨ q = 1 ∨ q = 2 := by omega
          rcases hqq with rfl | rfl | rfl
          · go_wp2_with (at_builtin; refine wpList_pushG fEnt rfl (.tmp 47) (.tmp 54) rfl Ent.enc Ent.enc_length w0 (lo := w.heap.size) [⟨1, 0⟩] [] rfl HO4.out H4.out.ext hLe (by have := HG4.out.size; omega) rfl rfl (by go_simp) rfl (oneEs' _) (by simp) (by simp) ?_; intro v7 z7 o7 g7 b7; clear b7)
            obtain ⟨R7, E7⟩ := rd_push (w := w) H4.out HG4.out HO4.out hlt (Nat.le_refl _) z7.ext g7; clear g7
            go_ret
            exact ⟨_, _, rfl, by simp, fun e => absurd e hn, E7, R7.mono (by omega), o7⟩
          · go_wp2_with (at_builtin; refine wpList_pushG fEnt rfl (.tmp 47) (.tmp 54) rfl Ent.enc Ent.enc_length w0 (lo := w.heap.size) [⟨1, -1⟩] [] rfl HO4.out H4.out.ext hLe (by have := HG4.out.size; omega) rfl rfl (by go_simp) rfl (oneEs' _) (by simp) (by simp) ?_; intro v7 z7 o7 g7 b7; clear b7)
            obtain ⟨R7, E7⟩ := rd_push (w := w) H4.out HG4.out HO4.out hlt (Nat.le_refl _) z7.ext g7; clear g7
            go_ret
            exact ⟨_, _, rfl, by simp, fun e => absurd e hn, E7, R7.mono (by omega), o7⟩
          · go_wp2_with (at_builtin; refine wpList_pushG fEnt rfl (.tmp 47) (.tmp 54) rfl Ent.enc Ent.enc_length w0 (lo := w.heap.size) [⟨1, 1000001⟩] [] rfl HO4.out H4.out.ext hLe (by have := HG4.out.size; omega) rfl rfl (by go_simp) rfl (oneEs' _) (by simp) (by simp) ?_; intro v7 z7 o7 g7 b7; clear b7)
            obtain ⟨R7, E7⟩ := rd_push (w := w) H4.out HG4.out HO4.out hlt (Nat.le_refl _) z7.ext g7; clear g7
            go_ret
            exact ⟨_, _, rfl, by simp, fun e => absurd e hn, E7, R7.mono (by omega), o7⟩
        · have o1 : Own Ent.enc 59 2 w.heap.size (z2.val.alloc (.cells #[.int .i64 (-1), .int .i64 5] 59)) (.slice (some ⟨z2.val.heap.size, 0, none⟩) 1 1) [⟨-1, 5⟩] := Own.lit rfl HG.out.size rfl rfl Ent.enc_length (by simp)
          have O1 := Lib.hid o1; clear o1
          go_wp2_with (at_builtin; refine wpList_catA fEnt rfl (.tmp 29) (.tmp 30) rfl Ent.enc Ent.enc_length w0 (lo := w.heap.size) out [⟨-1, 5⟩] rfl O1.out (H3.out.alloc _).ext hLe (by have := HG.out.size; simp; omega) rfl ((HO2.out.sl Ent.enc_length).up (by repeat (first | (with_reducible exact Ext.refl _) | (with_reducible refine Ext.up ?_ _) | (with_reducible refine Ext.alloc ?_ _) | (with_reducible refine Ext.drew ?_) | (with_reducible refine Ext.setRow ?_ (by first | exact LeS.le | exact LeS.add _ | (simp; done) | (simp; omega)) _) | (with_reducible refine Ext.setCell ?_ (by first | exact LeS.le | exact LeS.add _ | (simp; done) | (simp; omega)) _)))) (oneEs' _) (by simp; omega) (by simp; omega) ?_; intro v7 z7 o7 g7 b7; clear b7)
          obtain ⟨R7, E7⟩ := rd_cat (w := w) (H3.out.alloc _) (GB.alloc HG.out _) O1.out hlt (Nat.le_refl _) z7.ext g7; clear g7
          go_ret
          exact ⟨_, _, rfl, by rw [List.length_append]; simp; omega, fun e => absurd e hn, E7, R7.mono (by omega), o7⟩
end Go.Proofs.Ytnknamddonjnjaa
namespace Go.Proofs.Ytnknamddonjnjaa
open Go Go.RowKit Go.Proofs

theorem litSL (w : World) (g : Nat) (l : List Int) (e : TypeId) (hg : g = w.heap.size) (n : Nat) (hn : n = l.length) (hm : l.length ≤ 9223372036854775807) : SL (RF encI) 1 (w.alloc (.cells (vA l) e)) (.slice (some ⟨g, 0, none⟩) n n) l := by
  have hcs : (vA l).toList = l.flatMap encI := by
    simp only [vA]
    clear hn hm
    induction l with
    | nil => rfl
    | cons x l ih => simpa [encI, List.flatMap_cons] using ih
  exact (Own.lit (lo := w.heap.size) (w := w) hg (Nat.le_refl _) hn hcs encI_length hm).sl encI_length
theorem iNode_any (a b : Int) (v : Value) (w : World) (h : SL (RF encI) 1 w v [a, b]) (a0 : 0 ≤ a) (a1 : a < 1000003) (b0 : 0 ≤ b) (b1 : b < 1000003) :
    Calls Try.prog 25 #[.int .i64 2, v] w fun e w' => e = .returned (.int .i64 (nodeOf a b)) ∧ Up w w' := by
  have hs := sumOf_yes (tag := 2) (by decide) (by decide) (summed_two (a := a) (b := b) ⟨a0, by omega⟩ ⟨b0, by omega⟩)
  have h1 := sumOf_any 2 [a, b] v w h
  rw [hs] at h1
  exact h1
theorem row5_one (v : List Int) : (treeRow v 5)[0]? = some (rootV v) := by
  have h : (treeRow v 5).length = 1 := treeRow_length v 5 (by decide)
  obtain ⟨x, hx⟩ := getElem?_some_of_lt (l := treeRow v 5) (k := 0) (by omega)
  rw [rootV, getD_of hx, hx]
end Go.Proofs.Ytnknamddonjnjaa
namespace Go.Proofs.Ytnknamddonjnjaa
open Go Go.RowKit Go.Proofs

theorem sumOf4_nil : sumOf 4 [] = 21 := rfl
def Blk.agg (b : Blk) (v : Value) : Value := .agg #[.int .i64 b.bf, .int .i64 b.ht, .int .i64 b.vw, v, .int .i64 b.rt, .int .i64 b.ef]
end Go.Proofs.Ytnknamddonjnjaa
namespace Go.Proofs.Ytnknamddonjnjaa
open Go Go.RowKit Go.Proofs

theorem guards6 (a b c d e f : Bool) : a = false ∨ (a = true ∧ b = false) ∨ (a = true ∧ b = true ∧ c = false) ∨ (a = true ∧ b = true ∧ c = true ∧ d = false) ∨ (a = true ∧ b = true ∧ c = true ∧ d = true ∧ e = false) ∨ (a = true ∧ b = true ∧ c = true ∧ d = true ∧ e = true ∧ f = false) ∨ (a = true ∧ b = true ∧ c = true ∧ d = true ∧ e = true ∧ f = true) := by cases a <;> cases b <;> cases c <;> cases d <;> cases e <;> cases f <;> simp
end Go.Proofs.Ytnknamddonjnjaa
namespace Go.Proofs.Ytnknamddonjnjaa
open Go Go.RowKit Go.Proofs

end Go.Proofs.Ytnknamddonjnjaa
