/- Plain laws: versions with those of an action. Plain ground: append of a whole slice in a region that draws its order; parts of slices of the call's own. -/
import Derived.Test.YtkboefmkfpnpjaaGCflTop19
import Derived.Test.YtkboefmkfpnpjaaGCflTop00
import Derived.Test.YtkboefmkfpnpjaaGCflTop14
set_option linter.unusedSimpArgs false
set_option linter.unusedVariables false
namespace Go.Proofs.Ytkboefmkfpnpjaa
open Go Go.RowKit

def mkV (by_ : Int) (e : Ent) : Ver := ⟨e.k, by_, e.v⟩
def insV (x : Ver) (l : List Ver) : List Ver := l.takeWhile (fun y => verLt y x) ++ x :: l.dropWhile (fun y => verLt y x)
def putTo (by_ : Int) (out : List Ver) (u : List Ent) : List Ver := u.foldl (fun o e => insV (mkV by_ e) o) out
def putV (l : List Ver) (by_ : Int) (u : List Ent) : List Ver := putTo by_ (dropV l by_) u
theorem insV_length (x : Ver) (l : List Ver) : (insV x l).length = l.length + 1 := by
  have := congrArg List.length (List.takeWhile_append_dropWhile (p := fun y => verLt y x) (l := l))
  simp only [List.length_append] at this
  simp [insV]; omega
theorem putTo_length (by_ : Int) : ∀ (u : List Ent) (out : List Ver), (putTo by_ out u).length = out.length + u.length
  | [], out => by simp [putTo]
  | e :: u, out => by
    have := putTo_length by_ u (insV (mkV by_ e) out)
    rw [insV_length] at this
    simp only [putTo, List.foldl_cons, List.length_cons] at *; omega
theorem putTo_snoc (by_ : Int) (out : List Ver) {u : List Ent} {k : Nat} {e : Ent} (h : u[k]? = some e) : putTo by_ out (u.take (k + 1)) = insV (mkV by_ e) (putTo by_ out (u.take k)) := by
  rw [List.take_add_one, h]; simp [putTo]
theorem insV_perm (x : Ver) (l : List Ver) : (insV x l).Perm (x :: l) := by
  unfold insV
  refine List.perm_middle.trans (List.Perm.cons x ?_)
  rw [List.takeWhile_append_dropWhile]
theorem verLt_trans {x y z : Ver} (h : verLt x y = true) (h' : verLt y z = true) : verLt x z = true := by rw [verLt_iff] at *; omega
theorem verLt_or {x y : Ver} (h : x.k ≠ y.k ∨ x.b ≠ y.b) : verLt x y = true ∨ verLt y x = true := by rw [verLt_iff, verLt_iff]; omega
theorem insV_sorted {x : Ver} {l : List Ver} (h : l.Pairwise fun a b => verLt a b = true) (hd : ∀ y ∈ l, verLt y x = true ∨ verLt x y = true) : (insV x l).Pairwise fun a b => verLt a b = true := by
  induction l with
  | nil => simp [insV]
  | cons y l ih =>
    rw [List.pairwise_cons] at h
    unfold insV
    rcases hy : verLt y x with _ | _
    · have hxy : verLt x y = true := by rcases hd y (by simp) with h1 | h1; rw [hy] at h1; cases h1; exact h1
      simp only [List.takeWhile_cons, List.dropWhile_cons, hy, Bool.false_eq_true, if_false, List.nil_append, List.pairwise_cons]
      refine ⟨fun z hz => ?_, h⟩
      rcases List.mem_cons.1 hz with rfl | hz
      · exact hxy
      · exact verLt_trans hxy (h.1 z hz)
    · simp only [List.takeWhile_cons, List.dropWhile_cons, hy, if_true, List.cons_append, List.pairwise_cons]
      refine ⟨fun z hz => ?_, ih h.2 fun y hy => hd y (by simp [hy])⟩
      have : z ∈ x :: l := (insV_perm x l).mem_iff.1 hz
      rcases List.mem_cons.1 this with rfl | hz'
      · exact hy
      · exact h.1 z hz'
theorem putTo_perm (by_ : Int) : ∀ (u : List Ent) (out : List Ver), (putTo by_ out u).Perm (out ++ u.map (mkV by_))
  | [], out => by simp [putTo]
  | e :: u, out => by
    have ih := putTo_perm by_ u (insV (mkV by_ e) out)
    show (putTo by_ (insV (mkV by_ e) out) u).Perm _
    refine ih.trans ?_
    rw [List.map_cons]
    refine ((insV_perm _ _).append_right _).trans ?_
    exact List.perm_middle.symm
theorem putTo_sorted (by_ : Int) : ∀ (u : List Ent) (out : List Ver), out.Pairwise (fun a b => verLt a b = true) → (∀ y ∈ out, ∀ e ∈ u, y.k ≠ e.k ∨ y.b ≠ by_) → u.Pairwise (fun a b => a.k < b.k) → (putTo by_ out u).Pairwise fun a b => verLt a b = true
  | [], out, h, _, _ => h
  | e :: u, out, h, hd, hu => by
    rw [List.pairwise_cons] at hu
    refine putTo_sorted by_ u (insV (mkV by_ e) out) (insV_sorted h fun y hy => verLt_or (hd y hy e (by simp))) (fun y hy e' he' => ?_) hu.2
    have : y ∈ mkV by_ e :: out := (insV_perm _ _).mem_iff.1 hy
    rcases List.mem_cons.1 this with rfl | hy'
    · left; have := hu.1 e' he'; show e.k ≠ e'.k; omega
    · exact hd y hy' e' (by simp [he'])
theorem vers_sorted {l : List Ver} (h : versOk l = true) : l.Pairwise fun a b => verLt a b = true := by
  have key : ∀ n (i : Nat) x y, l[i]? = some x → l[i + (n + 1)]? = some y → verLt x y = true := by
    intro n
    induction n with
    | zero =>
      intro i x y hx hy
      have := upTo_iff.1 h _ (List.getElem?_eq_some_iff.1 hy).1
      rw [verAt_next hy (by omega) (by simpa using hx), Bool.and_eq_true] at this
      exact this.2
    | succ n ih =>
      intro i x y hx hy
      have hlt := (List.getElem?_eq_some_iff.1 hy).1
      obtain ⟨z, hz⟩ := getElem?_some_of_lt (show i + (n + 1) < l.length by omega)
      have h1 := ih i x z hx hz
      have := upTo_iff.1 h _ hlt
      rw [verAt_next hy (by omega) (by simpa using hz), Bool.and_eq_true] at this
      exact verLt_trans h1 this.2
  rw [List.pairwise_iff_getElem]
  intro i j hi hj hij
  exact key (j - i - 1) i l[i] l[j] (by simp) (by rw [show i + (j - i - 1 + 1) = j from by omega]; simp)
theorem versOk_mem {l : List Ver} (h : versOk l = true) {x : Ver} (hx : x ∈ l) : verIn x = true := by
  obtain ⟨i, hi⟩ := List.getElem?_of_mem hx
  have := upTo_iff.1 h i (List.getElem?_eq_some_iff.1 hi).1
  simp only [verAt, hi, Bool.and_eq_true] at this
  exact this.1
theorem dropV_sorted {l : List Ver} (h : l.Pairwise fun a b => verLt a b = true) (b : Int) : (dropV l b).Pairwise fun a b => verLt a b = true := h.filter _
theorem dropV_ne {l : List Ver} {b : Int} {x : Ver} (h : x ∈ dropV l b) : x ∈ l ∧ x.b ≠ b := by simpa [dropV] using h
theorem putV_sorted {l : List Ver} {by_ : Int} {u : List Ent} (h : l.Pairwise fun a b => verLt a b = true) (hu : u.Pairwise fun a b => a.k < b.k) : (putV l by_ u).Pairwise fun a b => verLt a b = true :=
  putTo_sorted by_ u _ (dropV_sorted h by_) (fun _ hy _ _ => .inr (dropV_ne hy).2) hu
/-- What is sorted and has the same versions is the same. -/
theorem putV_unique {l : List Ver} {by_ : Int} {u : List Ent} {m : List Ver} (h : l.Pairwise fun a b => verLt a b = true) (hu : u.Pairwise fun a b => a.k < b.k)
    (hp : m.Perm (dropV l by_ ++ u.map (mkV by_))) (hs : m.Pairwise fun a b => verLt b a = false) : m = putV l by_ u := by
  have hq : (putV l by_ u).Perm (dropV l by_ ++ u.map (mkV by_)) := putTo_perm by_ u _
  have hsrt := putV_sorted (by_ := by_) h hu
  have hw : (putV l by_ u).Pairwise fun a b => verLt b a = false := hsrt.imp fun {a b} hab => by
    rcases hba : verLt b a with _ | _
    · rfl
    · rw [verLt_iff] at hab hba; omega
  refine List.Perm.eq_of_pairwise (le := fun a b => verLt b a = false) (fun a b ha hb h1 h2 => ?_) hs hw (hp.trans hq.symm)
  have hb' : a ∈ putV l by_ u := (hp.trans hq.symm).mem_iff.1 ha
  obtain ⟨i, hi⟩ := List.getElem?_of_mem hb'
  obtain ⟨j, hj⟩ := List.getElem?_of_mem hb
  by_cases hij : i = j
  · subst hij; rw [hi] at hj; cases hj; rfl
  · exfalso
    obtain ⟨hi1, hi2⟩ := List.getElem?_eq_some_iff.1 hi
    obtain ⟨hj1, hj2⟩ := List.getElem?_eq_some_iff.1 hj
    rw [List.pairwise_iff_getElem] at hsrt
    rcases Nat.lt_or_gt_of_ne hij with h3 | h3
    · have := hsrt i j hi1 hj1 h3; rw [hi2, hj2, h2] at this; cases this
    · have := hsrt j i hj1 hi1 h3; rw [hi2, hj2, h1] at this; cases this
def putOk (l : List Ver) (by_ : Int) (u : List Ent) : Bool := versOk l && (inR by_ 0 9 && entsOk 0 u)
def putR (l : List Ver) (by_ : Int) (u : List Ent) : List Ver := if putOk l by_ u = true then putV l by_ u else []
theorem putR_no {l : List Ver} {by_ : Int} {u : List Ent} (h : putOk l by_ u = false) : putR l by_ u = [] := by unfold putR; rw [h]; rfl
theorem putR_yes {l : List Ver} {by_ : Int} {u : List Ent} (h : putOk l by_ u = true) : putR l by_ u = putV l by_ u := by unfold putR; rw [h]; rfl
theorem putV_le (l : List Ver) (by_ : Int) (u : List Ent) : (putV l by_ u).length ≤ l.length + u.length := by
  unfold putV; rw [putTo_length]; have := dropV_le l by_; omega
theorem putR_le (l : List Ver) (by_ : Int) (u : List Ent) : (putR l by_ u).length ≤ l.length + u.length := by
  unfold putR; split; exact putV_le l by_ u; simp
end Go.Proofs.Ytkboefmkfpnpjaa
namespace Go.Proofs.Ytkboefmkfpnpjaa
open Go Go.RowKit Go.Proofs

theorem step_catW {P : Program} {t e sz bytes : Nat} (F : AppFacts P t e sz bytes) {ops : Array Oper} {o : Oper} {a : Act} {K : Act → World → Prop} {Q : Exit → Act → World → Prop} {E : Prop} (hw : Region.wanted o (yielded ops a.tmps) = true) (s x : Operand)
    (ho : o.op = .call { callee := .builtin .append, args := #[s, x], argTypes := #[t, t] }) {α : Type} (enc : α → List Value) (he : ∀ x, (enc x).length = sz) (Wb : World) {lo : Nat} {w : World} (ys : List α) (l : List α) {v vx : Value} (hs : a.eval s = v)
    (hx : a.eval x = vx) (hown : Own enc e sz lo w v l) (hE : Ext Wb w) (hlo : Wb.heap.size ≤ lo) (hlo' : lo ≤ w.heap.size) (hys : SL (RF enc) sz w vx ys)
    (h1 : ∀ u ∈ ys.flatMap enc, u.oneCell' = true) (hb : (l.length + ys.length) * bytes ≤ 140737488355328) (hb' : l.length + ys.length ≤ 9223372036854775807)
    (h : ∀ v' (z1 : Extd Wb), Own enc e sz lo z1.val v' (l ++ ys) → w.grownBy z1.val v.ownBlock → (v'.ownBlock = v.ownBlock ∨ v'.ownBlock = some w.heap.size) → K (a.put o.dst v') z1.val) :
    if Region.wanted o (yielded ops a.tmps) = true then Oper.wp P o a w K Q else E := by
  rw [if_pos hw]
  obtain ⟨i, z, hi, hz, hsize, hby, hzs⟩ := F.info
  have hown' : w.ownsRow lo e sz v l.length (l.flatMap enc) := hown
  obtain ⟨p, c, rfl, _, hc⟩ := hys.open
  rcases p with _ | ad
  · obtain rfl : ys = [] := by
      cases ys with
      | nil => rfl
      | cons y ys => obtain ⟨_, _, e2, _⟩ := hc 0 y rfl; cases e2
    have hrun := run_append_none (P := P) (w := w) lo t o.type e i sz F.und hi v l.length c _ hown'
    unfold Oper.wp
    simp [execOp, ho, resolve, invoke, builtin, hs, hx, hrun, Result.andThen]
    exact h v ⟨w, hE⟩ (by rw [List.append_nil]; exact hown) ⟨rfl, rfl, rfl, Nat.le_refl _, fun _ _ _ => rfl⟩ (.inl rfl)
  · obtain ⟨v', w1, hr, h2, h3, h4, h5⟩ := run_append_own_at (P := P) w lo t o.type e i z sz bytes F.und hi hz hsize hby hzs F.pos v l.length (l.flatMap enc) hown' ad ys.length c (ys.flatMap enc) (flatMap_length he ys) (fun j u hu => by
      have hj := (List.getElem?_eq_some_iff.1 hu).1
      have h0 : 0 < ys.length := by
        cases ys with
        | nil => simp at hj
        | cons y ys => simp
      obtain ⟨y, hy⟩ := getElem?_some_of_lt (l := ys) (k := 0) h0
      obtain ⟨b, off, e2, _⟩ := hc 0 y hy
      cases e2
      have e1 : (⟨b, off, none⟩ : Addr).add j = ⟨b, off + j, none⟩ := by unfold Addr.add; split <;> simp_all
      rw [e1]
      exact SL.flatC he hys j u hu) h1 (by simpa [maxLen] using hb') hb hlo'
    unfold Oper.wp execOp
    simp only [ho, resolve, invoke, builtin, Sem.run_bind, Sem.run_pure, Result.andThen_ok, List.map_toArray, List.map_cons, List.map_nil, hs, hx, hr]
    refine h v' ⟨w1, hE.grown h3 fun k hk => Nat.le_trans hlo (World.ownsRow.lt hown' k hk).1⟩ ?_ h3 h5
    show w1.ownsRow _ _ _ _ _ _
    simpa [Own] using h2
theorem step_catA {P : Program} {t e sz bytes : Nat} (F : AppFacts P t e sz bytes) {ops : Array Oper} {o : Oper} {a : Act} {K : Act → World → Prop} {Q : Exit → Act → World → Prop} {E : Prop} (hgd : o.guard = none) (s x : Operand)
    (ho : o.op = .call { callee := .builtin .append, args := #[s, x], argTypes := #[t, t] }) {α : Type} (enc : α → List Value) (he : ∀ x, (enc x).length = sz) (Wb : World) {lo : Nat} {w : World} (ys : List α) (l : List α) {v vx : Value} (hs : a.eval s = v)
    (hx : a.eval x = vx) (hown : Own enc e sz lo w v l) (hE : Ext Wb w) (hlo : Wb.heap.size ≤ lo) (hlo' : lo ≤ w.heap.size) (hys : SL (RF enc) sz w vx ys)
    (h1 : ∀ u ∈ ys.flatMap enc, u.oneCell' = true) (hb : (l.length + ys.length) * bytes ≤ 140737488355328) (hb' : l.length + ys.length ≤ 9223372036854775807)
    (h : ∀ v' (z1 : Extd Wb), Own enc e sz lo z1.val v' (l ++ ys) → w.grownBy z1.val v.ownBlock → (v'.ownBlock = v.ownBlock ∨ v'.ownBlock = some w.heap.size) → K (a.put o.dst v') z1.val) :
    if Region.wanted o (yielded ops a.tmps) = true then Oper.wp P o a w K Q else E := step_catW F (by simp [Region.wanted, hgd]) s x ho enc he Wb ys l hs hx hown hE hlo hlo' hys h1 hb hb' h
/-- The first j elements are the call's own too. -/
theorem Own.first {α : Type} {enc : α → List Value} {e sz lo : Nat} (he : ∀ x, (enc x).length = sz) {w : World} {p : Option Addr} {n c : Nat} {l : List α} (h : Own enc e sz lo w (.slice p n c) l) {j : Nat} (hj : j ≤ l.length) : Own enc e sz lo w (.slice p j c) (l.take j) := by
  have hl : (l.take j).length = j := by rw [List.length_take]; omega
  have hf : (l.take j).flatMap enc = (l.flatMap enc).take (j * sz) := by
    have e1 : l.flatMap enc = (l.take j).flatMap enc ++ (l.drop j).flatMap enc := by rw [← List.flatMap_append, List.take_append_drop]
    rw [e1, List.take_left' (by rw [flatMap_length he, hl])]
  show w.ownsRow lo e sz _ _ _
  rw [hl, hf]
  refine ⟨by rw [List.length_take, flatMap_length he, Nat.min_eq_left (Nat.mul_le_mul_right _ hj)], ?_⟩
  rcases h.2 with ⟨h1, h2⟩ | ⟨g, cap, cur, hv, hlo, hg, hnc, hcm, hcs, ht⟩
  · cases h1
    left; exact ⟨by rw [show j = 0 by omega], by omega⟩
  · cases hv
    right
    refine ⟨g, c, cur, rfl, hlo, hg, by omega, hcm, hcs, ?_⟩
    rw [← ht, List.take_take, Nat.min_eq_left (Nat.mul_le_mul_right _ hj)]
/-- The elements from j on. -/
theorem SL.rest {α : Type} {R : World → List Value → α → Prop} {sz : Nat} {w : World} {b off n cap : Nat} {l : List α} (h : SL R sz w (.slice (some ⟨b, off, none⟩) n cap) l) {j : Nat} (hj : j ≤ l.length) {m c : Nat} (hm : m = l.length - j) (hc : m ≤ c) {o : Nat} (ho : o = off + j * sz) : SL R sz w (.slice (some ⟨b, o, none⟩) m c) (l.drop j) := by
  subst hm; subst ho
  obtain ⟨a', cap', hv, hl, hcc⟩ := h
  cases hv
  have e : (l.drop j).length = l.length - j := List.length_drop
  refine ⟨_, c, by rw [e], ⟨by rw [e]; omega, by rw [e]; exact hc⟩, fun hne => ?_⟩
  obtain ⟨b', off', ha, hb, hx⟩ := hcc (by intro e0; subst e0; simp at hne)
  cases ha
  refine ⟨b, off + j * sz, rfl, hb, fun i x hi => ?_⟩
  rw [List.getElem?_drop] at hi
  obtain ⟨cs, h1, h2, h3⟩ := hx (j + i) x hi
  refine ⟨cs, h1, fun q u hu => ?_, h3⟩
  rw [← h2 q u hu]
  congr 2
  rw [Nat.add_mul]; omega
end Go.Proofs.Ytkboefmkfpnpjaa
