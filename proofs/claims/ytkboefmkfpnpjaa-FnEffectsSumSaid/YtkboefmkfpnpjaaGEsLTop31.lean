/- Plain laws: the versions of a serial run: what is read in them, and the store that they leave. Walks: serial runs of whatever stores and actions, both sides; drawn ones. Walks: the program's RunAction on valid arguments, SumMore; drawn lists of effects. -/
import Derived.Test.YtkboefmkfpnpjaaGEsLTop26
import Derived.Test.YtkboefmkfpnpjaaGEsLTop30
import Derived.Test.YtkboefmkfpnpjaaGEsLTop23
set_option linter.unusedSimpArgs false
set_option linter.unusedVariables false
namespace Go.Proofs.Ytkboefmkfpnpjaa
open Go Go.RowKit Go.Proofs

theorem runAll_app (v : List Int) (P Q : List Actn) : runAll v (P ++ Q) = ((runAll (runAll v P).1 Q).1, (runAll v P).2 ++ (runAll (runAll v P).1 Q).2) := by
  have h1 : runAll v (P ++ Q) = Q.foldl runStep (runAll v P) := by unfold runAll; rw [List.foldl_append]
  rw [h1]
  exact foldl_run Q (runAll v P).1 (runAll v P).2
theorem runAll_at (v : List Int) {l : List Actn} {k : Nat} {x : Actn} (h : l[k]? = some x) : (runAll v l).2[k]? = some (runV (runAll v (l.take k)).1 x) := by
  obtain ⟨h1, h2⟩ := List.getElem?_eq_some_iff.1 h
  have hs : l.take k ++ x :: l.drop (k + 1) = l := by rw [← h2, ← List.drop_eq_getElem_cons h1, List.take_append_drop]
  have key : ∀ P Q : List Actn, P.length = k → (runAll v (P ++ x :: Q)).2[k]? = some (runV (runAll v P).1 x) := by
    intro P Q hP
    rw [runAll_app, runAll_cons]
    have hl : (runAll v P).2.length = k := by rw [runAll_len, hP]
    rw [List.getElem?_append_right (by omega), hl, Nat.sub_self]
    rfl
  have := key (l.take k) (l.drop (k + 1)) (by rw [List.length_take]; omega)
  rwa [hs] at this
/-- The versions of the first k effects. -/
def versE (E : List Eff) : Nat → List Ver
  | 0 => []
  | k + 1 => putV (versE E k) k (match E[k]? with | some e => e.w | none => [])
theorem versE_next {E : List Eff} {k : Nat} {e : Eff} (h : E[k]? = some e) : versE E (k + 1) = putV (versE E k) k e.w := by rw [versE, h]
theorem versE_by (E : List Eff) : ∀ (k : Nat), ∀ x ∈ versE E k, 0 ≤ x.b ∧ x.b < k
  | 0, x, h => by cases h
  | k + 1, x, h => by
    rw [versE] at h
    generalize (match E[k]? with | some e => e.w | none => []) = u at h
    have := (putTo_perm (k : Int) u _).mem_iff.1 h
    rcases List.mem_append.1 this with h | h
    · have := versE_by E k x (dropV_ne h).1; omega
    · obtain ⟨e, _, rfl⟩ := List.mem_map.1 h
      show 0 ≤ (k : Int) ∧ (k : Int) < _
      omega
theorem versE_drop (E : List Eff) (k : Nat) : dropV (versE E k) k = versE E k := by
  unfold dropV
  rw [List.filter_eq_self]
  intro x hx
  have := versE_by E k x hx
  simp; omega
theorem versE_to (E : List Eff) (k : Nat) : versE E (k + 1) = putTo k (versE E k) (match E[k]? with | some e => e.w | none => []) := by
  rw [versE, putV, versE_drop]
theorem okW_at {E : List Eff} (h : ∀ e ∈ E, entsOk 0 e.w = true) (k : Nat) : entsOk 0 (match E[k]? with | some e => e.w | none => []) = true := by
  cases hk : E[k]? with
  | none => rfl
  | some e => exact h e (List.mem_of_getElem? hk)
theorem versE_ok {E : List Eff} (h : ∀ e ∈ E, entsOk 0 e.w = true) : ∀ k, k ≤ 10 → versOk (versE E k) = true
  | 0, _ => rfl
  | k + 1, hk => by
    rw [versE]
    refine putV_ok ?_
    simp only [putOk, versE_ok h k (by omega), okW_at h k, Bool.true_and, Bool.and_true, inR_iff]
    omega
theorem versE_putOk {E : List Eff} (h : ∀ e ∈ E, entsOk 0 e.w = true) {k : Nat} {e : Eff} (hk : k < 10) (he : E[k]? = some e) : putOk (versE E k) k e.w = true := by
  simp only [putOk, versE_ok h k (by omega), h e (List.mem_of_getElem? he), Bool.true_and, Bool.and_true, inR_iff]
  omega
theorem versE_len {E : List Eff} (h : ∀ e ∈ E, entsOk 0 e.w = true) : ∀ k, (versE E k).length ≤ 32 * k
  | 0 => by simp [versE]
  | k + 1 => by
    rw [versE]
    have h1 := putV_le (versE E k) k (match E[k]? with | some e => e.w | none => [])
    have h2 := entsOk_len (okW_at h k)
    have h3 := versE_len h k
    omega
theorem readV_ins_no {base key b : Int} {x : Ver} (h : ∀ p, rdStep key b p x = p) (l : List Ver) : readV base (insV x l) key b = readV base l key b := by
  unfold readV insV
  rw [List.foldl_append, List.foldl_cons, h, ← List.foldl_append, List.takeWhile_append_dropWhile]
theorem readV_putTo_no {base key b by_ : Int} : ∀ (u : List Ent) (out : List Ver), (∀ e ∈ u, e.k ≠ key ∨ ¬ by_ < b) → readV base (putTo by_ out u) key b = readV base out key b
  | [], _, _ => rfl
  | e :: u, out, h => by
    show readV base (putTo by_ (insV (mkV by_ e) out) u) key b = _
    rw [readV_putTo_no u _ fun x hx => h x (by simp [hx]), readV_ins_no]
    intro p
    rcases h e (by simp) with h1 | h1
    · exact rdStep_no1 h1
    · exact rdStep_no2 h1
theorem foldl_no {key b : Int} : ∀ (B : List Ver) (p : Int × Int), (∀ y ∈ B, ¬ (y.k = key ∧ y.b < b)) → B.foldl (rdStep key b) p = p
  | [], _, _ => rfl
  | y :: B, p, h => by
    rw [List.foldl_cons]
    have : rdStep key b p y = p := if_neg (h y (by simp))
    rw [this]
    exact foldl_no B p fun z hz => h z (by simp [hz])
theorem readV_last {base key b : Int} {l : List Ver} {x : Ver} (hs : l.Pairwise fun a b => verLt a b = true) (hx : x ∈ l) (hk : x.k = key) (hb : x.b < b) (hm : ∀ y ∈ l, y.k = key → y.b < b → y.b ≤ x.b) : readV base l key b = (x.v, x.b) := by
  obtain ⟨A, B, rfl⟩ := List.append_of_mem hx
  rw [List.pairwise_append, List.pairwise_cons] at hs
  unfold readV
  rw [List.foldl_append, List.foldl_cons, rdStep_yes hk hb]
  refine foldl_no B _ fun y hy ⟨h1, h2⟩ => ?_
  have h3 := hs.2.1.1 y hy
  rw [verLt_iff] at h3
  have := hm y (by simp [hy]) h1 h2
  omega
theorem readV_more {base key b c : Int} {l : List Ver} (h : ∀ x ∈ l, x.b < b) (hbc : b ≤ c) : readV base l key c = readV base l key b := by
  have key' : ∀ (l : List Ver) (p : Int × Int), (∀ x ∈ l, x.b < b) → l.foldl (rdStep key c) p = l.foldl (rdStep key b) p := by
    intro l
    induction l with
    | nil => intro p _; rfl
    | cons x l ih =>
      intro p h
      have hx := h x (by simp)
      have e : rdStep key c p x = rdStep key b p x := by
        unfold rdStep
        by_cases hk : x.k = key
        · rw [if_pos ⟨hk, by omega⟩, if_pos ⟨hk, hx⟩]
        · rw [if_neg fun a => hk a.1, if_neg fun a => hk a.1]
      rw [List.foldl_cons, List.foldl_cons, e, ih _ fun y hy => h y (by simp [hy])]
  exact key' l (base, -1) h
theorem versE_early (E : List Eff) (base key : Int) {n : Nat} : ∀ (d : Nat), readV base (versE E (n + d)) key n = readV base (versE E n) key n
  | 0 => rfl
  | d + 1 => by
    rw [← Nat.add_assoc, versE_to, readV_putTo_no, versE_early E base key d]
    intro e _
    right; omega
theorem versE_read {s : List Ent} {l : List Actn} (hs : entsOk 1 s = true) (hl : ∀ x ∈ l, x.ok = true) (hlen : l.length ≤ 10) {key : Nat} (hkey : key < 32) :
    ∀ n, n ≤ l.length → (readV (atK s key) (versE (runAll (valsOf s) l).2 n) key n).1 = (runAll (valsOf s) (l.take n)).1.getD key 0
  | 0, _ => by
    show atK s key = (valsOf s).getD key 0
    rw [List.getD_eq_getElem?_getD, valsOf_get hs hkey]; rfl
  | n + 1, hn => by
    obtain ⟨x, hx⟩ := getElem?_some_of_lt (l := l) (k := n) (by omega)
    have hvi : valsIn (valsOf s) := valsOf_in (entsOk_least (by decide) hs)
    have hE := runAll_at (valsOf s) hx
    have ih := versE_read hs hl hlen hkey n (by omega)
    have hW : ∀ e ∈ (runAll (valsOf s) l).2, entsOk 0 e.w = true := by
      intro e he
      obtain ⟨i, hi⟩ := List.getElem?_of_mem he
      have hil : i < l.length := by have := (List.getElem?_eq_some_iff.1 hi).1; rwa [runAll_len] at this
      obtain ⟨y, hy⟩ := getElem?_some_of_lt hil
      rw [runAll_at (valsOf s) hy] at hi
      cases hi
      exact runV_ok (runAll_in hvi fun z hz => hl z (List.mem_of_mem_take hz)) (hl y (List.mem_of_getElem? hy))
    have hby := versE_by (runAll (valsOf s) l).2 n
    have hby1 := versE_by (runAll (valsOf s) l).2 (n + 1)
    have hok1 := vers_sorted (versE_ok hW (n + 1) (by omega))
    have hto := versE_to (runAll (valsOf s) l).2 n
    rw [hE] at hto
    have hVi : valsIn (runAll (valsOf s) (l.take n)).1 := runAll_in hvi fun z hz => hl z (List.mem_of_mem_take hz)
    have hVl : (runAll (valsOf s) (l.take n)).1.length = 32 := hVi.1
    have hu := runV_ok hVi (hl x (List.mem_of_getElem? hx))
    have hstep : (runAll (valsOf s) (l.take (n + 1))).1 = vsets (runAll (valsOf s) (l.take n)).1 (runV (runAll (valsOf s) (l.take n)).1 x).w := by rw [runAll_snoc _ hx]; rfl
    rw [hstep, List.getD_eq_getElem?_getD, vsets_get _ _ key (asc_of hu) (fun y hy => (entsOk_mem hu hy).1) (by omega)]
    dsimp only at hto
    generalize (runV (runAll (valsOf s) (l.take n)).1 x).w = u at *
    generalize (runAll (valsOf s) (l.take n)).1 = V at *
    generalize versE (runAll (valsOf s) l).2 (n + 1) = W1 at *
    generalize versE (runAll (valsOf s) l).2 n = W0 at *
    cases hf : u.find? (fun e => e.k == (key : Int)) with
    | none =>
      rw [List.find?_eq_none] at hf
      rw [hto, readV_putTo_no u W0 (fun e he => .inl (by have := hf e he; simpa using this)), readV_more (b := (n : Int)) (fun y hy => (hby y hy).2) (by omega), ih, List.getD_eq_getElem?_getD]
    | some y =>
      have hy := List.mem_of_find?_eq_some hf
      have hyk : y.k = key := by have := List.find?_some hf; simpa using this
      have hmem : mkV n y ∈ W1 := by
        rw [hto]
        exact (putTo_perm (n : Int) u W0).mem_iff.2 (List.mem_append.2 (.inr (List.mem_map.2 ⟨y, hy, rfl⟩)))
      rw [readV_last hok1 hmem hyk (by show (n : Int) < _; omega) (fun z hz _ _ => by have := hby1 z hz; show z.b ≤ (n : Int); omega)]
      rfl
theorem serOkW {s : List Ent} {l : List Actn} (hs : entsOk 1 s = true) (hl : ∀ x ∈ l, x.ok = true) : ∀ e ∈ (runAll (valsOf s) l).2, entsOk 0 e.w = true := by
  have hvi : valsIn (valsOf s) := valsOf_in (entsOk_least (by decide) hs)
  intro e he
  obtain ⟨i, hi⟩ := List.getElem?_of_mem he
  have hil : i < l.length := by have := (List.getElem?_eq_some_iff.1 hi).1; rwa [runAll_len] at this
  obtain ⟨y, hy⟩ := getElem?_some_of_lt hil
  rw [runAll_at (valsOf s) hy] at hi
  cases hi
  exact runV_ok (runAll_in hvi fun z hz => hl z (List.mem_of_mem_take hz)) (hl y (List.mem_of_getElem? hy))
/-- An action reads in all versions what it read in the run. -/
theorem serV_read {s : List Ent} {l : List Actn} (hs : entsOk 1 s = true) (hl : ∀ x ∈ l, x.ok = true) (hlen : l.length ≤ 10) {k : Nat} {e : Eff} (he : (runAll (valsOf s) l).2[k]? = some e) {y : Ent} (hy : y ∈ e.r) :
    (rdV s (versE (runAll (valsOf s) l).2 l.length) y.k k).1 = y.v := by
  have hvi : valsIn (valsOf s) := valsOf_in (entsOk_least (by decide) hs)
  have hk : k < l.length := by have := (List.getElem?_eq_some_iff.1 he).1; rwa [runAll_len] at this
  obtain ⟨x, hx⟩ := getElem?_some_of_lt hk
  rw [runAll_at (valsOf s) hx] at he
  cases he
  have hVi : valsIn (runAll (valsOf s) (l.take k)).1 := runAll_in hvi fun z hz => hl z (List.mem_of_mem_take hz)
  obtain ⟨k0, k1, hv⟩ := rds_at (hl x (List.mem_of_getElem? hx)) hVi.1 y hy
  have hr := versE_read hs hl hlen (key := y.k.toNat) (by omega) k (by omega)
  rw [List.getD_eq_getElem?_getD, hv, show ((y.k.toNat : Nat) : Int) = y.k from by omega] at hr
  have hE := versE_early (runAll (valsOf s) l).2 (atK s y.k) y.k (n := k) (l.length - k)
  rw [show k + (l.length - k) = l.length from by omega] at hE
  have hV := versE_ok (serOkW hs hl) l.length hlen
  rw [rdV_yes (by simp only [rdOk, hs, hV, Bool.true_and, Bool.and_eq_true, inR_iff]; omega), hE, hr]
  rfl
/-- All versions leave the run's store. -/
theorem serV_last {s : List Ent} {l : List Actn} (hs : entsOk 1 s = true) (hl : ∀ x ∈ l, x.ok = true) (hlen : l.length ≤ 10) :
    lastR s (versE (runAll (valsOf s) l).2 l.length) = storeOf (runAll (valsOf s) l).1 := by
  have hvi : valsIn (valsOf s) := valsOf_in (entsOk_least (by decide) hs)
  have hV := versE_ok (serOkW hs hl) l.length hlen
  rw [lastR_yes (by rw [hs, hV]; rfl)]
  congr 1
  have hRl : (runAll (valsOf s) l).1.length = 32 := (runAll_in hvi hl).1
  apply List.ext_getElem?
  intro i
  by_cases hi : i < 32
  · have hr := versE_read hs hl hlen hi l.length (Nat.le_refl _)
    rw [List.take_length, List.getD_eq_getElem?_getD] at hr
    obtain ⟨c, hc⟩ := getElem?_some_of_lt (l := (runAll (valsOf s) l).1) (k := i) (by omega)
    rw [hc] at hr
    rw [lastV_get _ _ hi, hc, readV_more (b := (l.length : Int)) (fun y hy => (versE_by _ _ y hy).2) (by omega), hr]
    rfl
  · rw [List.getElem?_eq_none (by rw [lastV_length]; omega), List.getElem?_eq_none (by omega)]
end Go.Proofs.Ytkboefmkfpnpjaa
namespace Go.Proofs.Ytkboefmkfpnpjaa
open Go Go.RowKit Go.Proofs

def srOk (s : List Ent) (l : List Actn) : Bool := entsOk 1 s && actsOk l
def srS (s : List Ent) (l : List Actn) : List Ent := if srOk s l = true then storeOf (runAll (valsOf s) l).1 else []
def srE (s : List Ent) (l : List Actn) : List Eff := if srOk s l = true then (runAll (valsOf s) l).2 else []
theorem sr_no {s : List Ent} {l : List Actn} (h : srOk s l = false) : srS s l = [] ∧ srE s l = [] := by unfold srS srE; rw [h]; exact ⟨rfl, rfl⟩
theorem sr_yes {s : List Ent} {l : List Actn} (h : srOk s l = true) : srS s l = storeOf (runAll (valsOf s) l).1 ∧ srE s l = (runAll (valsOf s) l).2 := by unfold srS srE; rw [h]; exact ⟨rfl, rfl⟩
set_option maxHeartbeats 1000000 in
theorem iRunSerial_any (s : List Ent) (l : List Actn) (v vl : Value) (w : World) (h : SL (RF Ent.enc) 2 w v s) (hl : SL (RF Actn.enc) 4 w vl l) :
    Calls Try.prog 19 #[v, vl] w fun e w' => ∃ v1 v2, e = .returned (.tuple #[v1, v2]) ∧ Up w w' ∧ SL (RF Ent.enc) 2 w' v1 (srS s l) ∧ SE w' v2 (srE s l) := by
  have H := Lib.hid h; have HL := Lib.hid hl
  rcases guards2 (entsOk 1 s) (actsOk l) with h1 | ⟨h1, h2⟩ | ⟨h1, h2⟩
  case inr.inr =>
    obtain ⟨e1, e2⟩ := sr_yes (s := s) (l := l) (by unfold srOk; rw [h1, h2]; rfl)
    rw [e1, e2]
    refine (iRunSerial_yes s l v vl w H.out HL.out h1 h2).mono ?_
    rintro e w' ⟨v1, v2, ts, rfl, hu, o1, oe, hts⟩
    have se := oe.se
    rw [hts] at se
    exact ⟨v1, v2, rfl, hu, o1.sl Ent.enc_length, se⟩
  all_goals
    obtain ⟨e1, e2⟩ := sr_no (s := s) (l := l) (by unfold srOk; simp [*])
    rw [e1, e2]
    clear h hl e1 e2
    go_enter Try.func19, Try.ntmps19
    go_wp2_with (first | (go_at_call 68; refine (iStoreValid_any s _ _ (H.out.up (by repeat (first | (with_reducible exact Ext.refl _) | (with_reducible refine Ext.up ?_ _) | (with_reducible refine Ext.alloc ?_ _) | (with_reducible refine Ext.drew ?_) | (with_reducible refine Ext.setRow ?_ (by first | exact LeS.le | exact LeS.add _ | (simp; done) | (simp; omega)) _) | (with_reducible refine Ext.setCell ?_ (by first | exact LeS.le | exact LeS.add _ | (simp; done) | (simp; omega)) _))))).mono ?_; rintro e w' ⟨rfl, z1, rfl⟩) | (go_at_call 69; refine (iActionsValid_any l _ _ (HL.out.up (by repeat (first | (with_reducible exact Ext.refl _) | (with_reducible refine Ext.up ?_ _) | (with_reducible refine Ext.alloc ?_ _) | (with_reducible refine Ext.drew ?_) | (with_reducible refine Ext.setRow ?_ (by first | exact LeS.le | exact LeS.add _ | (simp; done) | (simp; omega)) _) | (with_reducible refine Ext.setCell ?_ (by first | exact LeS.le | exact LeS.add _ | (simp; done) | (simp; omega)) _))))).mono ?_; rintro e w' ⟨rfl, z2, rfl⟩))
    refine bodyPost_ret (v := .tuple #[.slice none 0 0, .slice none 0 0]) (by simp [results, Try.results19, go_sem]) rfl ?_
    exact ⟨_, _, rfl, (.of (by repeat (first | (with_reducible exact Ext.refl _) | (with_reducible refine Ext.up ?_ _) | (with_reducible refine Ext.alloc ?_ _) | (with_reducible refine Ext.drew ?_) | (with_reducible refine Ext.setRow ?_ (by first | exact LeS.le | exact LeS.add _ | (simp; done) | (simp; omega)) _) | (with_reducible refine Ext.setCell ?_ (by first | exact LeS.le | exact LeS.add _ | (simp; done) | (simp; omega)) _)))), SL.nil _ _ _ _ _, SE.nil _ _ _⟩
set_option maxHeartbeats 1000000 in
theorem sRunSerial_any (s : List Ent) (l : List Actn) (v vl : Value) (w : World) (h : SL (RF Ent.enc) 2 w v s) (hl : SL (RF Actn.enc) 4 w vl l) :
    Calls Try.prog 35 #[v, vl] w fun e w' => ∃ v1 v2, e = .returned (.tuple #[v1, v2]) ∧ Up w w' ∧ SL (RF Ent.enc) 2 w' v1 (srS s l) ∧ SE w' v2 (srE s l) := by
  have H := Lib.hid h; have HL := Lib.hid hl
  rcases guards2 (entsOk 1 s) (actsOk l) with h1 | ⟨h1, h2⟩ | ⟨h1, h2⟩
  case inr.inr =>
    obtain ⟨e1, e2⟩ := sr_yes (s := s) (l := l) (by unfold srOk; rw [h1, h2]; rfl)
    rw [e1, e2]
    refine (sRunSerial_yes s l v vl w H.out HL.out h1 h2).mono ?_
    rintro e w' ⟨v1, v2, ts, rfl, hu, o1, oe, hts, -⟩
    have se := oe.se
    rw [hts] at se
    exact ⟨v1, v2, rfl, hu, o1.sl Ent.enc_length, se⟩
  all_goals
    obtain ⟨e1, e2⟩ := sr_no (s := s) (l := l) (by unfold srOk; simp [*])
    rw [e1, e2]
    clear h hl e1 e2
    go_enter Try.func35, Try.ntmps35
    go_wp2_with (first | (go_at_call 26; refine (sStoreValid_any s _ _ (H.out.up (by repeat (first | (with_reducible exact Ext.refl _) | (with_reducible refine Ext.up ?_ _) | (with_reducible refine Ext.alloc ?_ _) | (with_reducible refine Ext.drew ?_) | (with_reducible refine Ext.setRow ?_ (by first | exact LeS.le | exact LeS.add _ | (simp; done) | (simp; omega)) _) | (with_reducible refine Ext.setCell ?_ (by first | exact LeS.le | exact LeS.add _ | (simp; done) | (simp; omega)) _))))).mono ?_; rintro e w' ⟨rfl, z1, rfl⟩) | (go_at_call 36; refine (sActionsValid_any l _ _ (HL.out.up (by repeat (first | (with_reducible exact Ext.refl _) | (with_reducible refine Ext.up ?_ _) | (with_reducible refine Ext.alloc ?_ _) | (with_reducible refine Ext.drew ?_) | (with_reducible refine Ext.setRow ?_ (by first | exact LeS.le | exact LeS.add _ | (simp; done) | (simp; omega)) _) | (with_reducible refine Ext.setCell ?_ (by first | exact LeS.le | exact LeS.add _ | (simp; done) | (simp; omega)) _))))).mono ?_; rintro e w' ⟨rfl, z2, rfl⟩))
    go_ret2
    exact ⟨_, _, rfl, (.of (by repeat (first | (with_reducible exact Ext.refl _) | (with_reducible refine Ext.up ?_ _) | (with_reducible refine Ext.alloc ?_ _) | (with_reducible refine Ext.drew ?_) | (with_reducible refine Ext.setRow ?_ (by first | exact LeS.le | exact LeS.add _ | (simp; done) | (simp; omega)) _) | (with_reducible refine Ext.setCell ?_ (by first | exact LeS.le | exact LeS.add _ | (simp; done) | (simp; omega)) _)))), SL.nil _ _ _ _ _, SE.nil _ _ _⟩
set_option maxRecDepth 100000 in
set_option maxHeartbeats 1000000 in
theorem drawRunSerial_any (bs : List Int) (v : Value) (w : World) (h : SL (RF encU) 1 w v bs) (hb : ∀ b ∈ bs, 0 ≤ b ∧ b ≤ 255) :
    Calls Try.prog 34 #[v] w fun e w' => ∃ vs vl s l, e = .returned (.tuple #[vs, vl]) ∧ Up w w' ∧ s.length ≤ 33 ∧ l.length ≤ 11 ∧ SL (RF Ent.enc) 2 w' vs s ∧ SL (RF Actn.enc) 4 w' vl l := by
  have H := Lib.hid h; clear h
  go_enter Try.func34, Try.ntmps34
  go_wp2_with fail
  refine (open_any bs v _ H.out hb).mono ?_; rintro e w' ⟨rb, rfl, ⟨z0, rfl⟩, hr⟩
  have H0 := Lib.hid hr
  have Hold := Lib.hid hr.old
  have hrb := hr.lt
  clear hr
  go_wp2_with fail
  refine (drawStore_any _ _ rb _ 12 H0.out (by omega) (by omega) (by omega)).mono ?_; rintro e w' ⟨ys, s, rfl, hs, _, ⟨z1, rfl⟩, hr, hos⟩
  have H1 := Lib.hid hr; have HS := Lib.hid hos; clear hr hos
  go_wp2_with fail
  refine (actions_any _ _ rb _ 12 H1.out (by omega) (by omega) (by omega)).mono ?_; rintro e w' ⟨yl, l, rfl, hl, _, _, ⟨z2, rfl⟩, hr, hol⟩
  have HL := Lib.hid hol; clear hr hol
  have E := Lib.hid (Ext.upR (Ext.upR z0.ext Hold.out z1) Hold.out z2)
  go_wp2_with fail
  refine bodyPost_ret (v := .tuple #[ys, yl]) (by simp [results, Try.results34, go_sem]) rfl ?_
  exact ⟨_, _, s, l, rfl, .of E.out, hs, hl, (HS.out.upR hrb z2).sl Ent.enc_length, HL.out.sl Actn.enc_length⟩
end Go.Proofs.Ytkboefmkfpnpjaa
namespace Go.Proofs.Ytkboefmkfpnpjaa
open Go Go.RowKit Go.Proofs

set_option maxRecDepth 100000 in
set_option maxHeartbeats 2000000 in
theorem iRunAction_yes (s : List Ent) (x : Actn) (v : Value) (w : World) (h : SL (RF Ent.enc) 2 w v s) (hok : entsOk 1 s = true) (hx : x.ok = true) :
    Calls Try.prog 31 #[v, .agg #[.int .i64 x.kind, .int .i64 x.src, .int .i64 x.dst, .int .i64 x.amt]] w fun e w' => ∃ vr vw, e = .returned (.agg #[.bool (runV (valsOf s) x).d, vr, vw]) ∧ Up w w' ∧
      Own Ent.enc 31 2 w.heap.size w' vr (runV (valsOf s) x).r ∧ Own Ent.enc 31 2 w.heap.size w' vw (runV (valsOf s) x).w ∧ Apart vr vw := by
  have H := Lib.hid h
  obtain ⟨p, c, rfl, _, _⟩ := h.openc
  have kv := fun w (h : SL (RF Ent.enc) 2 w (.slice p s.length c) s) => iStoreValid_any s _ w h
  simp only [hok] at kv
  have ka := fun w => iActionValid_any x w
  simp only [hx] at ka
  have hvi : valsIn (valsOf s) := valsOf_in (entsOk_least (by decide) hok)
  have kr := fun w => run_any x (valsOf s) w (valsOf_length s) hvi hx
  have Hok := Lib.hid hok
  clear h hx hok hvi
  generalize runV (valsOf s) x = E at *
  go_enter Try.func31, Try.ntmps31
  go_wp2_with (first | (go_at_call 68; refine (kv _ (H.out.up (by repeat (first | (with_reducible exact Ext.refl _) | (with_reducible refine Ext.up ?_ _) | (with_reducible refine Ext.alloc ?_ _) | (with_reducible refine Ext.drew ?_) | (with_reducible refine Ext.setRow ?_ (by first | exact LeS.le | exact LeS.add _ | (simp; done) | (simp; omega)) _) | (with_reducible refine Ext.setCell ?_ (by first | exact LeS.le | exact LeS.add _ | (simp; done) | (simp; omega)) _))))).mono ?_; rintro e w' ⟨rfl, z1, rfl⟩) | (go_at_call 61; refine (ka _).mono ?_; rintro e w' ⟨rfl, z2, rfl⟩))
  have hsz : w.heap.size + 1 + 1 ≤ z2.val.heap.size := by have h1 := z1.ext.size; have h2 := z2.ext.size; simp at h1 h2; omega
  (go_region_held3 (fun w' => (∀ n i, ∀ [LtS n (w.alloc (.cells #[.int .i64 x.kind, .int .i64 x.src, .int .i64 x.dst, .int .i64 x.amt] 24))], w'.cell? ⟨n, i, none⟩ = World.cell? (w.alloc (.cells #[.int .i64 x.kind, .int .i64 x.src, .int .i64 x.dst, .int .i64 x.amt] 24)) ⟨n, i, none⟩) ∧ Ext (w.alloc (.cells #[.int .i64 x.kind, .int .i64 x.src, .int .i64 x.dst, .int .i64 x.amt] 24)) w') ((refine S_of_ext ?_; (repeat (first | exact Ext.refl _ | refine Ext.up ?_ _ | refine Ext.alloc ?_ _ | refine Ext.drew ?_ | refine Ext.setRow ?_ (by first | (dsimp only; omega) | exact LeS.le | exact LeS.add _ | (simp; done) | (simp; omega)) _ | refine Ext.setCell ?_ (by first | (dsimp only; omega) | exact LeS.le | exact LeS.add _ | (simp; done) | (simp; omega)) _)); done)) (first | (go_at_call 71; refine (valuesOf_any 1 s _ _ (H.out.up (by repeat (first | (with_reducible exact Ext.refl _) | (with_reducible refine Ext.up ?_ _) | (with_reducible refine Ext.alloc ?_ _) | (with_reducible refine Ext.drew ?_) | (with_reducible refine Ext.setRow ?_ (by first | exact LeS.le | exact LeS.add _ | (simp; done) | (simp; omega)) _) | (with_reducible refine Ext.setCell ?_ (by first | exact LeS.le | exact LeS.add _ | (simp; done) | (simp; omega)) _)))) Hok.out).mono ?_; rintro e w' ⟨rfl, z5, rfl⟩) | ((go_at_call 83; refine (kr _).mono ?_; rintro e w' ⟨vr, vw, rfl, ⟨z6, rfl⟩, o1, o2, ap⟩); obtain ⟨p1, c1, rfl, _, _⟩ := (o1.sl Ent.enc_length).openc; obtain ⟨p2, c2, rfl, _, _⟩ := (o2.sl Ent.enc_length).openc)))
  all_goals
    have h5 := z5.ext.size
    simp at h5
    have O1 := Lib.hid (o1.lo (lo' := z2.val.heap.size) (by omega)); have O2 := Lib.hid (o2.lo (lo' := z2.val.heap.size) (by omega)); have AP := Lib.hid ap
    clear o1 o2 ap
    go_wp2_with fail
    refine bodyPost_ret (v := .agg #[.bool E.d, .slice p1 E.r.length c1, .slice p2 E.w.length c2]) (by simp [results, Try.results31, go_sem]) rfl ?_
    refine ⟨_, _, rfl, (.of (by repeat (first | (with_reducible exact Ext.refl _) | (with_reducible refine Ext.up ?_ _) | (with_reducible refine Ext.alloc ?_ _) | (with_reducible refine Ext.drew ?_) | (with_reducible refine Ext.setRow ?_ (by first | exact LeS.le | exact LeS.add _ | (simp; done) | (simp; omega)) _) | (with_reducible refine Ext.setCell ?_ (by first | exact LeS.le | exact LeS.add _ | (simp; done) | (simp; omega)) _)))), ?_, ?_, AP.out⟩
    · refine Own.lo (lo := z2.val.heap.size) ?_ (by omega)
      (repeat (first | (with_reducible exact O1.out) | (exact O1.out) | (with_reducible refine Own.setLo ?_ (by omega)) | (with_reducible refine Own.alloc ?_)))
    · refine Own.lo (lo := z2.val.heap.size) ?_ (by omega)
      (repeat (first | (with_reducible exact O2.out) | (exact O2.out) | (with_reducible refine Own.setLo ?_ (by omega)) | (with_reducible refine Own.alloc ?_)))
def sumMore (s n : Int) : Int := if (inR s 0 1000002 && inR n 0 2000000) = true then sumStep s n else -1
theorem iSumMore_yes (s n : Int) (w : World) (h1 : inR s 0 1000002 = true) (h2 : inR n 0 2000000 = true) : Calls Try.prog 32 #[.int .i64 s, .int .i64 n] w fun e w' => e = .returned (.int .i64 (sumStep s n)) ∧ w = w' := by
  have k1 := fun w => isSum_any s w
  have k2 := fun w => isSummed_any n w
  rw [h1] at k1; rw [h2] at k2
  rw [inR_iff] at h1 h2
  have k3 := fun w => more_any s n w h1.1 h1.2 h2.1 h2.2
  clear h1 h2
  go_enter Try.func32, Try.ntmps32
  go_wp2_with (first | (go_at_call 84; refine (k1 _).mono ?_; rintro e w' ⟨rfl, rfl⟩) | (go_at_call 85; refine (k2 _).mono ?_; rintro e w' ⟨rfl, rfl⟩) | (go_at_call 86; refine (k3 _).mono ?_; rintro e w' ⟨rfl, rfl⟩))
  go_ret
  exact ⟨rfl, rfl⟩
set_option maxRecDepth 100000 in
set_option maxHeartbeats 2000000 in
theorem drawEffects_any (w0 w : World) (rb : Nat) (lim : Int) (h : Rd w0 w rb lim) (hl : lim ≤ 1000) :
    Calls Try.prog 80 #[.pointer (some ⟨rb, 0, none⟩), .int .i64 4] w fun e w' => ∃ v' es, e = .returned v' ∧ es.length ≤ 20 ∧ (∀ x ∈ es, x.r.length ≤ 1000 ∧ x.w.length ≤ 1000) ∧ (∃ z : ExtR rb w, w' = z.val) ∧ SE w' v' es := by
  have H := Lib.hid h
  have hL : LtS rb w := ⟨h.lt⟩
  have hlt := h.lt
  have hold := h.old
  have hLe : w0.heap.size ≤ w.heap.size := h.ext.size
  clear h
  go_enter Try.func80, Try.ntmps80
  go_wp2_with fail
  refine (drawStore_any w0 _ rb lim 0 (H.out.up (by repeat (first | (with_reducible exact Ext.refl _) | (with_reducible refine Ext.up ?_ _) | (with_reducible refine Ext.alloc ?_ _) | (with_reducible refine Ext.drew ?_) | (with_reducible refine Ext.setRow ?_ (by first | exact LeS.le | exact LeS.add _ | (simp; done) | (simp; omega)) _) | (with_reducible refine Ext.setCell ?_ (by first | exact LeS.le | exact LeS.add _ | (simp; done) | (simp; omega)) _)))) (by omega) (by omega) (by omega)).mono ?_; rintro e w' ⟨vs, s, rfl, hs33, hs0, ⟨z1, rfl⟩, hr, hown⟩
  have H1 := Lib.hid hr; have HO1 := Lib.hid hown; have hs := Lib.hid (hs0 rfl)
  clear hr hown hs0
  go_wp2_with fail
  refine (actions_any w0 _ rb _ 0 H1.out (by omega) (by omega) (by omega)).mono ?_; rintro e w' ⟨vl, l, rfl, _, hlo, hl6, ⟨z2, rfl⟩, hr, hol⟩
  have H2 := Lib.hid hr; have HL := Lib.hid hol
  have hl6' := hl6 rfl
  have hlk := Lib.hid (show actsOk l = true by
    simp only [actsOk, Bool.and_eq_true, decide_eq_true_eq, List.all_eq_true]
    first | exact ⟨hlo rfl, by omega⟩ | exact ⟨by omega, hlo rfl⟩)
  have HO2 := Lib.hid (HO1.out.upR hlt z2)
  clear hr hol hlo hl6
  go_wp2_with fail
  refine (sRunSerial_yes s l vs vl _ (HO2.out.sl Ent.enc_length) (HL.out.sl Actn.enc_length) hs.out hlk.out).mono ?_; rintro e w' ⟨v1, v2, ts, rfl, ⟨z3, rfl⟩, o1, oe, hts, -⟩
  have hsm := runAll_small (valsOf s) l
  have hlen := runAll_len (valsOf s) l
  rw [← hts] at hsm hlen
  rw [List.length_map] at hlen
  have Hsm := Lib.hid hsm
  have htl : ts.length ≤ 6 := by omega
  obtain ⟨q1, d1, rfl, _, _⟩ := (o1.sl Ent.enc_length).openc
  obtain ⟨q2, d2, rfl, _, _⟩ := (oe.1.sl TE.enc_length).openc
  have OE3 := Lib.hid oe
  have H3 := Lib.hid (H2.out.up z3.ext)
  have hw2 : w.heap.size ≤ z2.val.heap.size := Nat.le_trans z1.grown.size z2.grown.size
  have hr2 : rb < z2.val.heap.size := Nat.lt_of_lt_of_le hlt hw2
  have HG3 := Lib.hid (GB.up (GB.upR (GB.upR (grownBy_refl w (some rb)) z1) z2) z3)
  clear hts hsm hlen o1 oe H1 H2 HO1 HO2 HL hs hlk
  go_wp2_with fail
  refine (odd_any w0 _ rb _ 4 H3.out (by omega) (by omega) (by omega)).mono ?_; rintro e w' ⟨bo, rfl, -, ⟨z4, rfl⟩, hr⟩
  have H4 := Lib.hid hr; clear hr
  have OE4 := Lib.hid (OE.keepR OE3.out z4.grown hr2)
  have HG4 := Lib.hid (GB.upR HG3.out z4)
  rcases bo with _ | _
  · go_wp2_with fail
    refine bodyPost_ret (v := .slice q2 ts.length d2) (by simp [results, Try.results80, go_sem]) rfl ?_
    exact ⟨_, ts.map TE.core, rfl, by rw [List.length_map]; omega, Hsm.out, ExtR.of HG4.out, OE4.out.se⟩
  go_wp2_with fail
  refine (drawEffect_any w0 _ rb _ 1 H4.out (by omega) (by omega) (by omega)).mono ?_; rintro e w' ⟨d, vr, vw, r, u, rfl, hr10, hu10, ⟨z5, rfl⟩, hr, or_, ou, ap⟩
  obtain ⟨p1, c1, rfl, _, _⟩ := (or_.sl Ent.enc_length).openc
  obtain ⟨p2, c2, rfl, _, _⟩ := (ou.sl Ent.enc_length).openc
  have H5 := Lib.hid hr
  have OE5 := Lib.hid (OE.keepR OE4.out z5.grown hr2)
  have HG5 := Lib.hid (GB.upR HG4.out z5)
  have hu := Lib.hid (OE4.out.1.under)
  have hz24 : z2.val.heap.size ≤ z4.val.heap.size := Nat.le_trans z3.ext.size z4.grown.size
  have OR := Lib.hid (or_.lo hz24); have OU := Lib.hid (ou.lo hz24)
  have AR := Lib.hid (Own.apartU or_ hu.out (Nat.le_refl _)); have AU := Lib.hid (Own.apartU ou hu.out (Nat.le_refl _))
  have hz5 := z5.grown.size
  clear hr or_ ou ap hu
  go_wp2_with (at_builtin; refine wpList_pushG fEff rfl (.tmp 18) (.tmp 21) rfl TE.enc TE.enc_length w0 (lo := z2.val.heap.size) [⟨d, .slice p1 r.length c1, .slice p2 u.length c2, r, u⟩] ts rfl OE5.out.1 H5.out.ext (by omega) (by omega) rfl rfl (by go_simp) rfl (oneTE _ (by intro y hy; simp at hy; subst hy; exact ⟨⟨_, _, _, rfl⟩, ⟨_, _, _, rfl⟩⟩)) (by simp; omega) (by simp; omega) ?_; intro v7 z7 o7 g7 b7)
  obtain ⟨_, E7⟩ := rd_push (w := w) H5.out HG5.out OE5.out.1 hr2 hw2 z7.ext g7
  have OE7 := Lib.hid (OE.snoc (OE5.out.up (by repeat (first | (with_reducible exact Ext.refl _) | (with_reducible refine Ext.up ?_ _) | (with_reducible refine Ext.alloc ?_ _) | (with_reducible refine Ext.drew ?_) | (with_reducible refine Ext.setRow ?_ (by first | exact LeS.le | exact LeS.add _ | (simp; done) | (simp; omega)) _) | (with_reducible refine Ext.setCell ?_ (by first | exact LeS.le | exact LeS.add _ | (simp; done) | (simp; omega)) _)))) g7 b7 o7 (OR.out.up (by repeat (first | (with_reducible exact Ext.refl _) | (with_reducible refine Ext.up ?_ _) | (with_reducible refine Ext.alloc ?_ _) | (with_reducible refine Ext.drew ?_) | (with_reducible refine Ext.setRow ?_ (by first | exact LeS.le | exact LeS.add _ | (simp; done) | (simp; omega)) _) | (with_reducible refine Ext.setCell ?_ (by first | exact LeS.le | exact LeS.add _ | (simp; done) | (simp; omega)) _)))) AR.out (OU.out.up (by repeat (first | (with_reducible exact Ext.refl _) | (with_reducible refine Ext.up ?_ _) | (with_reducible refine Ext.alloc ?_ _) | (with_reducible refine Ext.drew ?_) | (with_reducible refine Ext.setRow ?_ (by first | exact LeS.le | exact LeS.add _ | (simp; done) | (simp; omega)) _) | (with_reducible refine Ext.setCell ?_ (by first | exact LeS.le | exact LeS.add _ | (simp; done) | (simp; omega)) _)))) AU.out)
  obtain ⟨p7, c7, rfl, _, _⟩ := (o7.sl TE.enc_length).openc
  clear o7 g7 b7
  go_wp2_with fail
  go_ret
  have hse := OE7.out.se
  exact ⟨_, (ts ++ [(⟨d, .slice p1 r.length c1, .slice p2 u.length c2, r, u⟩ : TE)]).map TE.core, rfl, by simp; omega, by
    intro y hy
    rw [List.map_append, List.mem_append] at hy
    rcases hy with hy | hy
    · exact Hsm.out y hy
    · simp at hy; subst hy; exact ⟨by show r.length ≤ 1000; omega, by show u.length ≤ 1000; omega⟩, E7, hse⟩
set_option maxRecDepth 100000 in
set_option maxHeartbeats 1000000 in
theorem drawEffectsSum_any (bs : List Int) (v : Value) (w : World) (h : SL (RF encU) 1 w v bs) (hb : ∀ b ∈ bs, 0 ≤ b ∧ b ≤ 255) :
    Calls Try.prog 28 #[v] w fun e w' => ∃ v' es, e = .returned v' ∧ Up w w' ∧ es.length ≤ 20 ∧ (∀ x ∈ es, x.r.length ≤ 1000 ∧ x.w.length ≤ 1000) ∧ SE w' v' es := by
  have H := Lib.hid h; clear h
  go_enter Try.func28, Try.ntmps28
  go_wp2_with fail
  refine (open_any bs v _ H.out hb).mono ?_; rintro e w' ⟨rb, rfl, ⟨z0, rfl⟩, hr⟩
  have H0 := Lib.hid hr
  have Hold := Lib.hid hr.old
  have hrb := hr.lt
  clear hr
  go_wp2_with fail
  refine (odd_any _ _ rb _ 9 H0.out (by omega) (by omega) (by omega)).mono ?_; rintro e w' ⟨bo, rfl, -, ⟨z1, rfl⟩, hr⟩
  have H1 := Lib.hid hr; clear hr
  have E1 := Lib.hid (Ext.upR z0.ext Hold.out z1)
  have hLb1 : LtS rb z1.val := ⟨H1.out.lt⟩
  rcases bo with _ | _
  · go_wp2_with fail
    refine (drawEffects_any _ _ rb _ H1.out (by omega)).mono ?_; rintro e w' ⟨v', es, rfl, hl, hs, ⟨z2, rfl⟩, se⟩
    have E2 := Lib.hid (Ext.upR E1.out Hold.out z2)
    go_wp2_with fail
    go_ret
    exact ⟨_, es, rfl, .of E2.out, hl, hs, se⟩
  go_wp2_with fail
  refine (pick_any _ _ rb _ 2 (H1.out.up (by repeat (first | (with_reducible exact Ext.refl _) | (with_reducible refine Ext.up ?_ _) | (with_reducible refine Ext.alloc ?_ _) | (with_reducible refine Ext.drew ?_) | (with_reducible refine Ext.setRow ?_ (by first | exact LeS.le | exact LeS.add _ | (simp; done) | (simp; omega)) _) | (with_reducible refine Ext.setCell ?_ (by first | exact LeS.le | exact LeS.add _ | (simp; done) | (simp; omega)) _)))) (by omega) (by omega) (by omega)).mono ?_; rintro e w' ⟨q, rfl, q0, q1, _, ⟨z2, rfl⟩, hr⟩
  have hq := q1 (by omega)
  have E2 := Lib.hid (Ext.upR (E1.out.alloc (.cells #[.int .i64 10, .int .i64 11] 3)) Hold.out z2)
  clear hr q1
  rcases (show q = 0 ∨ q = 1 by omega) with rfl | rfl
  · go_wp2_with (at_make; refine wpList_mkEff rfl _ _ rfl 10 rfl rfl (by omega) ?_; intro z3 oe3)
    go_ret
    exact ⟨_, _, rfl, .of (E2.out.up z3), by simp, by intro x hx; simp at hx; obtain ⟨_, rfl⟩ := hx; exact ⟨by decide, by decide⟩, oe3.se⟩
  · go_wp2_with (at_make; refine wpList_mkEff rfl _ _ rfl 11 rfl rfl (by omega) ?_; intro z3 oe3)
    go_ret
    exact ⟨_, _, rfl, .of (E2.out.up z3), by simp, by intro x hx; simp at hx; obtain ⟨_, rfl⟩ := hx; exact ⟨by decide, by decide⟩, oe3.se⟩
end Go.Proofs.Ytkboefmkfpnpjaa
