/- Plain ground: engines: slots in memory, what makes a slot right, what an action reads now. The decoder of the laws' engines. Walks: engines on the reference's side: entries that are equal, what an action reads. Walks: drawn stores. Walks: roots of stores. -/
import Derived.Test.YtkboefmkfpnpjaaGEvTop03
import Derived.Test.YtkboefmkfpnpjaaGEvTop18
import Derived.Test.YtkboefmkfpnpjaaGEvTop01
import Derived.Test.YtkboefmkfpnpjaaGEvTop05
import Derived.Test.YtkboefmkfpnpjaaGEvTop16
import Derived.Test.YtkboefmkfpnpjaaGEvTop13
import Derived.Test.YtkboefmkfpnpjaaGEvTop08
import Derived.Test.YtkboefmkfpnpjaaGEvTop10
import Derived.Test.YtkboefmkfpnpjaaGEvTop06
import Derived.Test.YtkboefmkfpnpjaaGEvTop04
set_option linter.unusedSimpArgs false
set_option linter.unusedVariables false
namespace Go.Proofs.Ytkboefmkfpnpjaa
open Go Go.RowKit Go.Proofs

structure Slt where
  st : Int
  tr : Int
  f : List Int
  e : Eff
structure TS where
  st : Int
  tr : Int
  vf : Value
  d : Bool
  vr : Value
  vw : Value
  f : List Int
  r : List Ent
  w : List Ent
def TS.enc (x : TS) : List Value := [.int .i64 x.st, .int .i64 x.tr, x.vf, .bool x.d, x.vr, x.vw]
theorem TS.enc_length (x : TS) : x.enc.length = 6 := rfl
def TS.core (x : TS) : Slt := ⟨x.st, x.tr, x.f, ⟨x.d, x.r, x.w⟩⟩
/-- Slots in memory. -/
def SS (w : World) (v : Value) (l : List Slt) : Prop := ∃ ts : List TS, l = ts.map TS.core ∧ SL (RF TS.enc) 6 w v ts ∧ ∀ x ∈ ts, SL (RF encI) 1 w x.vf x.f ∧ SL (RF Ent.enc) 2 w x.vr x.r ∧ SL (RF Ent.enc) 2 w x.vw x.w
theorem SS.up {w w' : World} {v : Value} {l : List Slt} (h : SS w v l) (hE : Ext w w') : SS w' v l := by
  obtain ⟨ts, h1, h2, h3⟩ := h
  exact ⟨ts, h1, h2.up hE, fun x hx => ⟨(h3 x hx).1.up hE, (h3 x hx).2.1.up hE, (h3 x hx).2.2.up hE⟩⟩
theorem SS.open {w : World} {v : Value} {l : List Slt} (h : SS w v l) : ∃ a cap, v = .slice a l.length cap ∧ l.length ≤ 9223372036854775807 ∧ ∀ (k : Nat) x, l[k]? = some x → ∃ b off p0 c0 p1 c1 p2 c2, a = some ⟨b, off, none⟩ ∧ LtS b w ∧
    (w.cell? ⟨b, off + k * 6, none⟩ = some (.int .i64 x.st) ∧ w.cell? ⟨b, off + k * 6 + 1, none⟩ = some (.int .i64 x.tr) ∧ w.cell? ⟨b, off + k * 6 + 2, none⟩ = some (.slice p0 x.f.length c0) ∧ w.cell? ⟨b, off + k * 6 + 3, none⟩ = some (.bool x.e.d) ∧
      w.cell? ⟨b, off + k * 6 + 4, none⟩ = some (.slice p1 x.e.r.length c1) ∧ w.cell? ⟨b, off + k * 6 + 5, none⟩ = some (.slice p2 x.e.w.length c2)) ∧
    SL (RF encI) 1 w (.slice p0 x.f.length c0) x.f ∧ SL (RF Ent.enc) 2 w (.slice p1 x.e.r.length c1) x.e.r ∧ SL (RF Ent.enc) 2 w (.slice p2 x.e.w.length c2) x.e.w := by
  obtain ⟨ts, rfl, h2, h3⟩ := h
  obtain ⟨a, cap, rfl, hl, hc⟩ := h2.open
  refine ⟨a, cap, by rw [List.length_map], by rw [List.length_map]; exact hl, fun k x hx => ?_⟩
  rw [List.getElem?_map, Option.map_eq_some_iff] at hx
  obtain ⟨y, hy, rfl⟩ := hx
  obtain ⟨b, off, ha, hb, hcc⟩ := hc k y hy
  obtain ⟨s0, s1, s2⟩ := h3 y (List.mem_of_getElem? hy)
  obtain ⟨p0, c0, e0, _, _⟩ := s0.openc
  obtain ⟨p1, c1, e1, _, _⟩ := s1.openc
  obtain ⟨p2, c2, e2, _, _⟩ := s2.openc
  have d0 : w.cell? ⟨b, off + k * 6 + 2, none⟩ = some y.vf := hcc 2 _ rfl
  have d1 : w.cell? ⟨b, off + k * 6 + 4, none⟩ = some y.vr := hcc 4 _ rfl
  have d2 : w.cell? ⟨b, off + k * 6 + 5, none⟩ = some y.vw := hcc 5 _ rfl
  rw [e0] at d0 s0; rw [e1] at d1 s1; rw [e2] at d2 s2
  exact ⟨b, off, p0, c0, p1, c1, p2, c2, ha, hb, ⟨hcc 0 _ rfl, hcc 1 _ rfl, d0, hcc 3 _ rfl, d1, d2⟩, s0, s1, s2⟩
structure Eng where
  base : List Ent
  acts : List Actn
  vers : List Ver
  sl : List Slt
structure SG (w : World) (v0 v1 v2 v3 : Value) (e : Eng) : Prop where
  base : SL (RF Ent.enc) 2 w v0 e.base
  acts : SL (RF Actn.enc) 4 w v1 e.acts
  vers : SL (RF Ver.enc) 3 w v2 e.vers
  sl : SS w v3 e.sl
theorem SG.up {w w' : World} {v0 v1 v2 v3 : Value} {e : Eng} (h : SG w v0 v1 v2 v3 e) (hE : Ext w w') : SG w' v0 v1 v2 v3 e := ⟨h.base.up hE, h.acts.up hE, h.vers.up hE, h.sl.up hE⟩
/-! ### What makes a slot right -/
def sameEf (a b : Eff) : Bool := (a.d == b.d) && (sameL sameE1 a.r b.r && sameL sameE1 a.w b.w)
theorem sameEf_iff (a b : Eff) : sameEf a b = true ↔ a = b := by
  obtain ⟨d, r, w⟩ := a; obtain ⟨d', r', w'⟩ := b
  simp only [sameEf, Bool.and_eq_true, sameL_iff sameE1_iff, beq_iff_eq, Eff.mk.injEq]
def rdAt (rk : List Int) (n : Int) (f : List Int) (r : List Ent) (i : Nat) : Bool := match r[i]?, rk[i]?, f[i]? with
  | some x, some k, some q => (x.k == k) && (inR x.v 0 1000000 && inR q (-1) (n - 1))
  | _, _, _ => true
theorem rdAt_eq {rk : List Int} {n : Int} {f : List Int} {r : List Ent} {i : Nat} {x : Ent} {k q : Int} (h1 : r[i]? = some x) (h2 : rk[i]? = some k) (h3 : f[i]? = some q) : rdAt rk n f r i = ((x.k == k) && (inR x.v 0 1000000 && inR q (-1) (n - 1))) := by simp [rdAt, h1, h2, h3]
def sltNew (s : Slt) : Bool := inR s.tr 0 1000 && (decide (s.f.length = 0) && sameEf s.e ⟨false, [], []⟩)
def sltTry (x : Actn) (n : Int) (s : Slt) : Bool := inR s.st 1 2 && (inR s.tr 1 1000 && (decide (s.e.r.length = x.rk.length) && (decide (s.f.length = x.rk.length) && (upTo (rdAt x.rk n s.f s.e.r) s.e.r.length && sameEf (runV (vsets zeros s.e.r) x) s.e))))
def sltOk (x : Actn) (n : Int) (s : Slt) : Bool := if s.st = 0 then sltNew s else sltTry x n s
def slAt (e : Eng) (n : Nat) : Bool := match e.sl[n]?, e.acts[n]? with
  | some s, some x => sltOk x n s
  | _, _ => true
theorem slAt_eq {e : Eng} {n : Nat} {s : Slt} {x : Actn} (h1 : e.sl[n]? = some s) (h2 : e.acts[n]? = some x) : slAt e n = sltOk x n s := by simp [slAt, h1, h2]
/-- What an action reads now is what it read. -/
def curAt (s : List Ent) (V : List Ver) (n : Int) (f : List Int) (r : List Ent) (i : Nat) : Bool := match r[i]?, f[i]? with
  | some x, some q => ((readV (atK s x.k) V x.k n).1 == x.v) && ((readV (atK s x.k) V x.k n).2 == q)
  | _, _ => true
theorem curAt_eq {s : List Ent} {V : List Ver} {n : Int} {f : List Int} {r : List Ent} {i : Nat} {x : Ent} {q : Int} (h1 : r[i]? = some x) (h2 : f[i]? = some q) : curAt s V n f r i = (((readV (atK s x.k) V x.k n).1 == x.v) && ((readV (atK s x.k) V x.k n).2 == q)) := by simp [curAt, h1, h2]
def curOk (s : List Ent) (V : List Ver) (n : Int) (t : Slt) : Bool := upTo (curAt s V n t.f t.e.r) t.e.r.length
def ckAt (e : Eng) (n : Nat) : Bool := match e.sl[n]? with
  | some s => if s.st = 2 then (decide (n = 0) || match e.sl[n - 1]? with | some p => p.st == 2 | none => true) && curOk e.base e.vers n s else true
  | none => true
def Eng.ok (e : Eng) : Bool := entsOk 1 e.base && (actsOk e.acts && (decide (e.sl.length = e.acts.length) && (upTo (slAt e) e.sl.length && (sameL sameV1 (versE (e.sl.map (·.e)) e.sl.length) e.vers && upTo (ckAt e) e.sl.length))))
def Eng.done (e : Eng) : Bool := e.ok && e.sl.all fun s => s.st == 2
def Eng.tries (e : Eng) : Int := if e.ok = true then (e.sl.map (·.tr)).sum else -1
/-- A right slot writes valid entries. -/
theorem sltOk_w {x : Actn} (hx : x.ok = true) {n : Int} {s : Slt} (h : sltOk x n s = true) (hn : s.st ≠ 0 → True) : entsOk 0 s.e.w = true := by
  unfold sltOk at h
  split at h
  · simp only [sltNew, Bool.and_eq_true] at h
    rw [(sameEf_iff _ _).1 h.2.2]; rfl
  · simp only [sltTry, Bool.and_eq_true, decide_eq_true_eq] at h
    obtain ⟨_, _, h1, h2, h3, h4⟩ := h
    rw [← (sameEf_iff _ _).1 h4]
    refine runV_ok ?_ hx
    refine valsIn_vsets (fun y hy => ?_) (by exact ⟨zeros_length, fun z hz => by have := List.eq_of_mem_replicate hz; omega⟩)
    obtain ⟨i, hi⟩ := List.getElem?_of_mem hy
    have hil := (List.getElem?_eq_some_iff.1 hi).1
    obtain ⟨k, hk⟩ := getElem?_some_of_lt (l := x.rk) (k := i) (by omega)
    obtain ⟨q, hq⟩ := getElem?_some_of_lt (l := s.f) (k := i) (by omega)
    have := upTo_iff.1 h3 i hil
    rw [rdAt_eq hi hk hq] at this
    simp only [Bool.and_eq_true, inR_iff] at this
    omega
theorem slots_w {e : Eng} (ha : actsOk e.acts = true) (hl : e.sl.length = e.acts.length) {k : Nat} (hk : k ≤ e.sl.length) (h : upTo (slAt e) k = true) : ∀ x ∈ (e.sl.map (·.e)).take k, entsOk 0 x.w = true := by
  intro x hx
  obtain ⟨i, hi⟩ := List.getElem?_of_mem hx
  have hik : i < k := by have := (List.getElem?_eq_some_iff.1 hi).1; rw [List.length_take] at this; omega
  rw [List.getElem?_take_of_lt hik, List.getElem?_map, Option.map_eq_some_iff] at hi
  obtain ⟨s, hs, rfl⟩ := hi
  obtain ⟨a, ha'⟩ := getElem?_some_of_lt (l := e.acts) (k := i) (by omega)
  have := upTo_iff.1 h i hik
  rw [slAt_eq hs ha'] at this
  exact sltOk_w (actsOk_at ha ha') this fun _ => trivial
theorem versE_take (E : List Eff) : ∀ (k m : Nat), k ≤ m → versE (E.take m) k = versE E k
  | 0, _, _ => rfl
  | k + 1, m, h => by
    rw [versE, versE, versE_take E k m (by omega), List.getElem?_take_of_lt (by omega)]
/-! ### What is read now -/
def nowL (s : List Ent) (V : List Ver) (n : Int) (rk : List Int) : List Ent := rk.map fun k => ⟨k, (readV (atK s k) V k n).1⟩
def nowF (s : List Ent) (V : List Ver) (n : Int) (rk : List Int) : List Int := rk.map fun k => (readV (atK s k) V k n).2
theorem vsets_fun (g : Int → Int) : ∀ (rk : List Int) (v : List Int) (j : Nat), (∀ k ∈ rk, 0 ≤ k) → j < v.length → (vsets v (rk.map fun k => (⟨k, g k⟩ : Ent)))[j]? = if (j : Int) ∈ rk then some (g j) else v[j]?
  | [], v, j, _, _ => by simp [vsets]
  | k :: rk, v, j, h0, hj => by
    have hk := h0 k (by simp)
    rw [List.map_cons, vsets_cons, vsets_fun g rk _ j (fun x hx => h0 x (by simp [hx])) (by rw [vset_length]; exact hj), vset_get (e := ⟨k, g k⟩) hk hj]
    by_cases h1 : (j : Int) ∈ rk
    · rw [if_pos h1, if_pos (by simp [h1])]
    · rw [if_neg h1]
      by_cases h2 : k = (j : Int)
      · rw [if_pos h2, if_pos (by simp [h2]), h2]
      · rw [if_neg h2, if_neg (by simp [h1]; omega)]
end Go.Proofs.Ytkboefmkfpnpjaa
namespace Go.Proofs.Ytkboefmkfpnpjaa
open Go.ChangeShapes Go.WideShapes Go.ChangeAt Go.RowKit

def REff (W : World) (cs : List Value) (x : Eff) : Prop := ∃ vr vw, cs = [.bool x.d, vr, vw] ∧ SL (RF Ent.enc) 2 W vr x.r ∧ SL (RF Ent.enc) 2 W vw x.w
set_option maxRecDepth 100000 in
theorem dec_Effect : Dec Try.prog 161 3 REff := by
  intro H enc W sp held fuel cs x h
  obtain ⟨hl, hf⟩ := trod_fields Try.underlying161 h
  have hl3 : cs.length = 3 := hl.trans (by kernel_rfl)
  refine ⟨hl3, ?_⟩
  match cs, hl3 with
  | [a, b, c], _ =>
    obtain ⟨n0, y0, h0⟩ := hf 0 _ rfl
    obtain ⟨n1, y1, h1⟩ := hf 1 _ rfl
    obtain ⟨n2, y2, h2⟩ := hf 2 _ rfl
    obtain ⟨_, d, e0⟩ := dec_bool Try.underlying4 _ enc W sp held _ _ _ h0
    obtain ⟨_, l1, v1, e1, s1⟩ := dec_EntryS _ enc W sp held _ _ _ h1
    obtain ⟨_, l2, v2, e2, s2⟩ := dec_EntryS _ enc W sp held _ _ _ h2
    have cb : Try.prog.cellsOf 4 = 1 := by kernel_rfl
    have ce : Try.prog.cellsOf 71 = 1 := by kernel_rfl
    simp [RBool, cb] at e0
    simp [ce, cb] at e1 e2
    exact ⟨⟨d, l1, l2⟩, v1, v2, by simp [e0, e1, e2], s1, s2⟩
def RSlt (W : World) (cs : List Value) (t : Slt) : Prop := ∃ vf vr vw, cs = [.int .i64 t.st, .int .i64 t.tr, vf, .bool t.e.d, vr, vw] ∧ SL (RF encI) 1 W vf t.f ∧ SL (RF Ent.enc) 2 W vr t.e.r ∧ SL (RF Ent.enc) 2 W vw t.e.w
set_option maxRecDepth 100000 in
theorem dec_Slot : Dec Try.prog 163 6 RSlt := by
  intro H enc W sp held fuel cs x h
  obtain ⟨hl, hf⟩ := trod_fields Try.underlying163 h
  have hl6 : cs.length = 6 := hl.trans (by kernel_rfl)
  refine ⟨hl6, ?_⟩
  match cs, hl6 with
  | [a, b, c, d, e, f], _ =>
    obtain ⟨n0, y0, h0⟩ := hf 0 _ rfl
    obtain ⟨n1, y1, h1⟩ := hf 1 _ rfl
    obtain ⟨n2, y2, h2⟩ := hf 2 _ rfl
    obtain ⟨n3, y3, h3⟩ := hf 3 _ rfl
    obtain ⟨_, x0, e0, _⟩ := dec_int Try.underlying3 _ enc W sp held _ _ _ h0
    obtain ⟨_, x1, e1, _⟩ := dec_int Try.underlying3 _ enc W sp held _ _ _ h1
    obtain ⟨_, l2, v2, e2, s2⟩ := dec_IntS _ enc W sp held _ _ _ h2
    obtain ⟨_, x3, vr, vw, e3, s3, s4⟩ := dec_Effect _ enc W sp held _ _ _ h3
    have ci : Try.prog.cellsOf 42 = 1 := by kernel_rfl
    have ce : Try.prog.cellsOf 161 = 3 := by kernel_rfl
    simp [Try.c_int] at e0 e1
    simp [Try.c_int, ci] at e2
    simp [Try.c_int, ci, ce] at e3
    exact ⟨⟨x0, x1, l2, x3⟩, v2, vr, vw, by simp [e0, e1, e2, e3], s2, s3, s4⟩
theorem dec_SlotS : Dec Try.prog 74 1 (RSl RSlt 6) := dec_slice Try.underlying74 (by kernel_rfl) (by decide) dec_Slot
theorem SS.of {w : World} {v : Value} {l : List Slt} (h : SL RSlt 6 w v l) : SS w v l := by
  obtain ⟨a, cap, rfl, hl, hc⟩ := h
  have key : ∀ i, i < l.length → ∃ y : TS, l[i]? = some y.core ∧ (SL (RF encI) 1 w y.vf y.f ∧ SL (RF Ent.enc) 2 w y.vr y.r ∧ SL (RF Ent.enc) 2 w y.vw y.w) ∧ ∀ b off, a = some ⟨b, off, none⟩ → ∀ j u, y.enc[j]? = some u → w.cell? ⟨b, off + i * 6 + j, none⟩ = some u := by
    intro i hi
    obtain ⟨x, hx⟩ := getElem?_some_of_lt hi
    obtain ⟨b, off, ha, hb, hcell⟩ := hc (by intro e; subst e; simp at hi)
    obtain ⟨cs, h1, h2, vf, vr, vw, h3, h4⟩ := hcell i x hx
    refine ⟨⟨x.st, x.tr, vf, x.e.d, vr, vw, x.f, x.e.r, x.e.w⟩, hx, h4, fun b' off' e j u hu => ?_⟩
    rw [ha] at e
    simp only [Option.some.injEq, Addr.mk.injEq, and_true] at e
    obtain ⟨rfl, rfl⟩ := e
    refine h2 j u ?_
    rw [h3]; exact hu
  obtain ⟨ts, hbl, hq⟩ := list_of l.length key
  have hm : l = ts.map TS.core := by
    apply List.ext_getElem?
    intro i
    by_cases hi : i < l.length
    · obtain ⟨y, hy⟩ := getElem?_some_of_lt (l := ts) (k := i) (by omega)
      rw [List.getElem?_map, hy, (hq i y hy).1]; rfl
    · rw [List.getElem?_eq_none (by omega), List.getElem?_eq_none (by simp; omega)]
  refine ⟨ts, hm, ⟨a, cap, by rw [hbl], by rw [hbl]; exact hl, fun hne => ?_⟩, fun x hx => ?_⟩
  · obtain ⟨b, off, ha, hb, _⟩ := hc (by intro e; rw [e] at hbl; exact hne (List.eq_nil_of_length_eq_zero hbl))
    exact ⟨b, off, ha, hb, fun i y hy => ⟨y.enc, rfl, (hq i y hy).2.2 b off ha, rfl⟩⟩
  · obtain ⟨i, hi⟩ := List.getElem?_of_mem hx
    exact (hq i x hi).2.1
def REng (W : World) (cs : List Value) (e : Eng) : Prop := ∃ v0 v1 v2 v3, cs = [v0, v1, v2, v3] ∧ SG W v0 v1 v2 v3 e
set_option maxRecDepth 100000 in
theorem dec_Engine : Dec Try.prog 76 4 REng := by
  intro H enc W sp held fuel cs x h
  obtain ⟨hl, hf⟩ := trod_fields Try.underlying76 h
  have hl4 : cs.length = 4 := hl.trans (by kernel_rfl)
  refine ⟨hl4, ?_⟩
  match cs, hl4 with
  | [a, b, c, d], _ =>
    obtain ⟨n0, y0, h0⟩ := hf 0 _ rfl
    obtain ⟨n1, y1, h1⟩ := hf 1 _ rfl
    obtain ⟨n2, y2, h2⟩ := hf 2 _ rfl
    obtain ⟨n3, y3, h3⟩ := hf 3 _ rfl
    obtain ⟨_, l0, v0, e0, s0⟩ := dec_EntryS _ enc W sp held _ _ _ h0
    obtain ⟨_, l1, v1, e1, s1⟩ := dec_ActionS _ enc W sp held _ _ _ h1
    obtain ⟨_, l2, v2, e2, s2⟩ := dec_VersionS _ enc W sp held _ _ _ h2
    obtain ⟨_, l3, v3, e3, s3⟩ := dec_SlotS _ enc W sp held _ _ _ h3
    have c0 : Try.prog.cellsOf 71 = 1 := by kernel_rfl
    have c1 : Try.prog.cellsOf 72 = 1 := by kernel_rfl
    have c2 : Try.prog.cellsOf 73 = 1 := by kernel_rfl
    have c3 : Try.prog.cellsOf 74 = 1 := by kernel_rfl
    simp [c0] at e0
    simp [c0, c1] at e1
    simp [c0, c1, c2] at e2
    simp [c0, c1, c2, c3] at e3
    exact ⟨⟨l0, l1, l2, l3⟩, v0, v1, v2, v3, by simp [e0, e1, e2, e3], ⟨s0, s1, s2, SS.of s3⟩⟩
end Go.Proofs.Ytkboefmkfpnpjaa
namespace Go.Proofs.Ytkboefmkfpnpjaa
open Go Go.RowKit Go.Proofs

set_option maxRecDepth 100000 in
set_option maxHeartbeats 1000000 in
theorem sSameEnts_any (l m : List Ent) (v v' : Value) (w : World) (h : SL (RF Ent.enc) 2 w v l) (h' : SL (RF Ent.enc) 2 w v' m) :
    Calls Try.prog 150 #[v, v'] w fun e w' => e = .returned (.bool (sameL sameE1 l m)) ∧ Up w w' := by
  obtain ⟨a, cap, rfl, hlen, hc⟩ := h.open
  obtain ⟨a', cap', rfl, _, hc'⟩ := h'.open
  clear h h'
  by_cases hll : l.length = m.length
  rotate_left
  · have hF := Lib.hid (show sameL sameE1 l m = false by unfold sameL; rw [decide_eq_false hll]; rfl)
    have hne : ((l.length : Int) != (m.length : Int)) = true := by rw [bne_iff_ne]; omega
    clear hll
    go_enter Try.func150, Try.ntmps150
    go_wp2_with fail
    go_ret
    exact ⟨by rw [hF.out]; rfl, (.of (by repeat (first | (with_reducible exact Ext.refl _) | (with_reducible refine Ext.up ?_ _) | (with_reducible refine Ext.alloc ?_ _) | (with_reducible refine Ext.drew ?_) | (with_reducible refine Ext.setRow ?_ (by first | exact LeS.le | exact LeS.add _ | (simp; done) | (simp; omega)) _) | (with_reducible refine Ext.setCell ?_ (by first | exact LeS.le | exact LeS.add _ | (simp; done) | (simp; omega)) _))))⟩
  have hT := Lib.hid (show sameL sameE1 l m = upTo (sameAt sameE1 l m) l.length by unfold sameL; rw [decide_eq_true hll, Bool.true_and])
  rw [← hll]
  have HLL := Lib.hid hll; clear hll
  go_enter Try.func150, Try.ntmps150
  go_wp2_with fail
  go_loopw [5] (fun s5 wr => ∃ (k : Nat), s5 = .int .i64 k ∧ k ≤ l.length ∧ Up w wr ∧ upTo (sameAt sameE1 l m) k = true) (fun s5 _ => l.length - (intOf s5).toNat)
  case atStart => exact ⟨0, rfl, Nat.zero_le _, .of (Ext.refl _), rfl⟩
  case round =>
    obtain ⟨k, rfl, hk, ⟨z, rfl⟩, hall⟩ := hrel
    have HALL := Lib.hid hall; clear hall
    by_cases hlt : k < l.length
    · obtain ⟨x, hxk⟩ := getElem?_some_of_lt hlt
      obtain ⟨y, hyk⟩ := getElem?_some_of_lt (l := m) (k := k) (by rw [← HLL.out]; exact hlt)
      obtain ⟨b, off, rfl, hb, hcc⟩ := hc k x hxk
      obtain ⟨b2, off2, rfl, hb2, hdd⟩ := hc' k y hyk
      have Hat := Lib.hid (sameAt_eq (same := sameE1) hxk hyk)
      obtain ⟨xk, xv⟩ := x; obtain ⟨yk, yv⟩ := y
      have c0 : w.cell? ⟨b, off + k * 2, none⟩ = some (.int .i64 xk) := hcc 0 _ rfl
      have c1 : w.cell? ⟨b, off + k * 2 + 1, none⟩ = some (.int .i64 xv) := hcc 1 _ rfl
      have d0 : w.cell? ⟨b2, off2 + k * 2, none⟩ = some (.int .i64 yk) := hdd 0 _ rfl
      have d1 : w.cell? ⟨b2, off2 + k * 2 + 1, none⟩ = some (.int .i64 yv) := hdd 1 _ rfl
      have k0 : (0 : Int) ≤ (k : Int) := by omega
      have k1 : (k : Int) < l.length := by omega
      clear hc hcc hc' hdd hxk hyk
      rcases (show (xk ≠ yk) ∨ (xk = yk ∧ xv ≠ yv) ∨ (xk = yk ∧ xv = yv) by omega) with hne | ⟨rfl, hne⟩ | ⟨rfl, rfl⟩
      · have hb0 : (xk == yk) = false := by simpa using hne
        have hb0' : (xk != yk) = true := by simpa using hne
        clear hne
        go_wp2_with fail
        (refine wp_region_up (by kernel_rfl) (by kernel_rfl) ?_; (repeat (go_big_quiet_step (fail))); refine wpQuiet_nil ?_; intro _ hw'; obtain ⟨zq, hw''⟩ := hw'; subst hw'')
        go_wp2_with fail
        go_ret
        exact ⟨by rw [hT.out, upTo_false hlt (by rw [Hat.out]; simp [sameE1, hb0])]; rfl, (.of (by repeat (first | (with_reducible exact Ext.refl _) | (with_reducible refine Ext.up ?_ _) | (with_reducible refine Ext.alloc ?_ _) | (with_reducible refine Ext.drew ?_) | (with_reducible refine Ext.setRow ?_ (by first | exact LeS.le | exact LeS.add _ | (simp; done) | (simp; omega)) _) | (with_reducible refine Ext.setCell ?_ (by first | exact LeS.le | exact LeS.add _ | (simp; done) | (simp; omega)) _))))⟩
      · have hb1 : (xv == yv) = false := by simpa using hne
        have hb1' : (xv != yv) = true := by simpa using hne
        clear hne
        go_wp2_with fail
        (refine wp_region_up (by kernel_rfl) (by kernel_rfl) ?_; (repeat (go_big_quiet_step (fail))); refine wpQuiet_nil ?_; intro _ hw'; obtain ⟨zq, hw''⟩ := hw'; subst hw'')
        go_wp2_with fail
        go_ret
        exact ⟨by rw [hT.out, upTo_false hlt (by rw [Hat.out]; simp [sameE1, hb1])]; rfl, (.of (by repeat (first | (with_reducible exact Ext.refl _) | (with_reducible refine Ext.up ?_ _) | (with_reducible refine Ext.alloc ?_ _) | (with_reducible refine Ext.drew ?_) | (with_reducible refine Ext.setRow ?_ (by first | exact LeS.le | exact LeS.add _ | (simp; done) | (simp; omega)) _) | (with_reducible refine Ext.setCell ?_ (by first | exact LeS.le | exact LeS.add _ | (simp; done) | (simp; omega)) _))))⟩
      · go_wp2_with fail
        (refine wp_region_up (by kernel_rfl) (by kernel_rfl) ?_; (repeat (go_big_quiet_step (fail))); refine wpQuiet_nil ?_; intro _ hw'; obtain ⟨zq, hw''⟩ := hw'; subst hw'')
        go_wp2_with fail
        go_roundw
        case rel => exact ⟨k + 1, by go_num, by omega, (.of (by repeat (first | (with_reducible exact Ext.refl _) | (with_reducible refine Ext.up ?_ _) | (with_reducible refine Ext.alloc ?_ _) | (with_reducible refine Ext.drew ?_) | (with_reducible refine Ext.setRow ?_ (by first | exact LeS.le | exact LeS.add _ | (simp; done) | (simp; omega)) _) | (with_reducible refine Ext.setCell ?_ (by first | exact LeS.le | exact LeS.add _ | (simp; done) | (simp; omega)) _)))), upTo_succ HALL.out (by rw [Hat.out]; simp [sameE1])⟩
        case measure => simp [intOf] <;> omega
    · obtain rfl : k = l.length := by omega
      go_wp2_with fail
      go_ret
      exact ⟨by rw [hT.out, HALL.out]; rfl, (.of (by repeat (first | (with_reducible exact Ext.refl _) | (with_reducible refine Ext.up ?_ _) | (with_reducible refine Ext.alloc ?_ _) | (with_reducible refine Ext.drew ?_) | (with_reducible refine Ext.setRow ?_ (by first | exact LeS.le | exact LeS.add _ | (simp; done) | (simp; omega)) _) | (with_reducible refine Ext.setCell ?_ (by first | exact LeS.le | exact LeS.add _ | (simp; done) | (simp; omega)) _))))⟩
set_option maxRecDepth 100000 in
set_option maxHeartbeats 2000000 in
theorem sSame_cur (e : Eng) (v0 v1 v2 v3 : Value) (n : Nat) (t : Slt) (w : World) (h : SG w v0 v1 v2 v3 e) (ht : e.sl[n]? = some t) (hfl : t.f.length = t.e.r.length) :
    Calls Try.prog 111 #[.agg #[v0, v1, v2, v3], .int .i64 n] w fun ed w' => ed = .returned (.bool (curOk e.base e.vers n t)) ∧ Up w w' := by
  have HB := Lib.hid h.base; have HV := Lib.hid h.vers
  obtain ⟨p0, c0, rfl, _, _⟩ := h.base.openc
  obtain ⟨p1, c1, rfl, _, _⟩ := h.acts.openc
  obtain ⟨p2, c2, rfl, _, _⟩ := h.vers.openc
  obtain ⟨p3, c3, rfl, _, hcs⟩ := h.sl.open
  obtain ⟨b, off, q0, d0, q1, d1, q2, d2, rfl, hb, ⟨e0, e1, e2, e3, e4, e5⟩, sf, sr, sw⟩ := hcs n t ht
  have hn0 : (0 : Int) ≤ (n : Int) := by omega
  have hn1 : (n : Int) < e.sl.length := by have := (List.getElem?_eq_some_iff.1 ht).1; omega
  obtain ⟨_, _, e9, _, hcr⟩ := sr.open
  cases e9
  obtain ⟨_, _, e9, _, hcf⟩ := sf.open
  cases e9
  have HCR := Lib.hid hcr; have HCF := Lib.hid hcf; have HFL := Lib.hid hfl
  clear h hcs ht sf sr sw hcr hcf hfl
  go_enter Try.func111, Try.ntmps111
  go_wp2_with fail
  go_loopw [6, 7, 8] (fun s6 _ _ wr => ∃ (k : Nat), s6 = .int .i64 k ∧ k ≤ t.e.r.length ∧ Up ((w.alloc (.cells #[.slice p0 e.base.length c0, .slice p1 e.acts.length c1, .slice p2 e.vers.length c2, .slice (some ⟨b, off, none⟩) e.sl.length c3] 81)).alloc (.cells #[.int .i64 t.st, .int .i64 t.tr, .slice q0 t.f.length d0, .bool t.e.d, .slice q1 t.e.r.length d1, .slice q2 t.e.w.length d2] 90)) wr ∧ upTo (curAt e.base e.vers n t.f t.e.r) k = true) (fun s6 _ _ _ => t.e.r.length - (intOf s6).toNat)
  case atStart => exact ⟨0, rfl, Nat.zero_le _, (.of (by repeat (first | (with_reducible exact Ext.refl _) | (with_reducible refine Ext.up ?_ _) | (with_reducible refine Ext.alloc ?_ _) | (with_reducible refine Ext.drew ?_) | (with_reducible refine Ext.setRow ?_ (by first | exact LeS.le | exact LeS.add _ | (simp; done) | (simp; omega)) _) | (with_reducible refine Ext.setCell ?_ (by first | exact LeS.le | exact LeS.add _ | (simp; done) | (simp; omega)) _)))), rfl⟩
  case round =>
    obtain ⟨k, rfl, hk, ⟨z, rfl⟩, hall⟩ := hrel
    have HALL := Lib.hid hall; clear hall
    by_cases hlt : k < t.e.r.length
    · obtain ⟨y, hy⟩ := getElem?_some_of_lt hlt
      obtain ⟨q, hq⟩ := getElem?_some_of_lt (l := t.f) (k := k) (by rw [HFL.out]; exact hlt)
      have Hat := Lib.hid (curAt_eq (s := e.base) (V := e.vers) (n := (n : Int)) hy hq)
      obtain ⟨g, fo, rfl, hbg, hcc⟩ := HCR.out k y hy
      obtain ⟨g5, fo5, rfl, hbg5, hcc5⟩ := HCF.out k q hq
      have y0 : w.cell? ⟨g, fo + k * 2, none⟩ = some (.int .i64 y.k) := hcc 0 _ rfl
      have y1 : w.cell? ⟨g, fo + k * 2 + 1, none⟩ = some (.int .i64 y.v) := hcc 1 _ rfl
      have y3 : w.cell? ⟨g5, fo5 + k, none⟩ = some (.int .i64 q) := by have := hcc5 0 _ rfl; simpa using this
      have krd := fun w h h' => l9Read_any e.base e.vers (.slice p0 e.base.length c0) (.slice p2 e.vers.length c2) y.k (n : Int) w h h'
      generalize readV (atK e.base y.k) e.vers y.k n = R at *
      obtain ⟨r1, r2⟩ := R
      dsimp only at *
      have ka0 : (0 : Int) ≤ (k : Int) := by omega
      have ka1 : (k : Int) < t.e.r.length := by omega
      have ka3 : (k : Int) < t.f.length := by rw [HFL.out]; exact ka1
      clear hy hq hcc hcc5
      rcases guards2 (r1 == y.v) (r2 == q) with g1 | ⟨g1, g2'⟩ | ⟨g1, g2'⟩
      · have g1' : (r1 != y.v) = true := by rw [bne, g1]; rfl
        have Hf := Lib.hid (upTo_false (f := curAt e.base e.vers n t.f t.e.r) hlt (by rw [Hat.out, g1]; rfl))
        clear g1
        go_wp2_with fail
        (refine wp_region_up (by kernel_rfl) (by kernel_rfl) ?_; (repeat (go_big_quiet_step ((go_at_call 151; exact Calls.up_same (krd _ (HB.out.up (by repeat (first | (with_reducible exact Ext.refl _) | (with_reducible refine Ext.up ?_ _) | (with_reducible refine Ext.alloc ?_ _) | (with_reducible refine Ext.drew ?_) | (with_reducible refine Ext.setRow ?_ (by first | exact LeS.le | exact LeS.add _ | (simp; done) | (simp; omega)) _) | (with_reducible refine Ext.setCell ?_ (by first | exact LeS.le | exact LeS.add _ | (simp; done) | (simp; omega)) _)))) (HV.out.up (by repeat (first | (with_reducible exact Ext.refl _) | (with_reducible refine Ext.up ?_ _) | (with_reducible refine Ext.alloc ?_ _) | (with_reducible refine Ext.drew ?_) | (with_reducible refine Ext.setRow ?_ (by first | exact LeS.le | exact LeS.add _ | (simp; done) | (simp; omega)) _) | (with_reducible refine Ext.setCell ?_ (by first | exact LeS.le | exact LeS.add _ | (simp; done) | (simp; omega)) _))))))))); refine wpQuiet_nil ?_; intro _ hw'; obtain ⟨zq, hw''⟩ := hw'; subst hw'')
        go_wp2_with fail
        go_ret
        exact ⟨by show _ = Ending.returned (.bool (upTo (curAt e.base e.vers n t.f t.e.r) t.e.r.length)); rw [Hf.out]; rfl, (.of (by repeat (first | (with_reducible exact Ext.refl _) | (with_reducible refine Ext.up ?_ _) | (with_reducible refine Ext.alloc ?_ _) | (with_reducible refine Ext.drew ?_) | (with_reducible refine Ext.setRow ?_ (by first | exact LeS.le | exact LeS.add _ | (simp; done) | (simp; omega)) _) | (with_reducible refine Ext.setCell ?_ (by first | exact LeS.le | exact LeS.add _ | (simp; done) | (simp; omega)) _))))⟩
      · have g1' : (r1 != y.v) = false := by rw [bne, g1]; rfl
        have g2'' : (r2 != q) = true := by rw [bne, g2']; rfl
        have Hf := Lib.hid (upTo_false (f := curAt e.base e.vers n t.f t.e.r) hlt (by rw [Hat.out, g1, g2']; rfl))
        clear g1 g2'
        go_wp2_with fail
        (refine wp_region_up (by kernel_rfl) (by kernel_rfl) ?_; (repeat (go_big_quiet_step ((go_at_call 151; exact Calls.up_same (krd _ (HB.out.up (by repeat (first | (with_reducible exact Ext.refl _) | (with_reducible refine Ext.up ?_ _) | (with_reducible refine Ext.alloc ?_ _) | (with_reducible refine Ext.drew ?_) | (with_reducible refine Ext.setRow ?_ (by first | exact LeS.le | exact LeS.add _ | (simp; done) | (simp; omega)) _) | (with_reducible refine Ext.setCell ?_ (by first | exact LeS.le | exact LeS.add _ | (simp; done) | (simp; omega)) _)))) (HV.out.up (by repeat (first | (with_reducible exact Ext.refl _) | (with_reducible refine Ext.up ?_ _) | (with_reducible refine Ext.alloc ?_ _) | (with_reducible refine Ext.drew ?_) | (with_reducible refine Ext.setRow ?_ (by first | exact LeS.le | exact LeS.add _ | (simp; done) | (simp; omega)) _) | (with_reducible refine Ext.setCell ?_ (by first | exact LeS.le | exact LeS.add _ | (simp; done) | (simp; omega)) _))))))))); refine wpQuiet_nil ?_; intro _ hw'; obtain ⟨zq, hw''⟩ := hw'; subst hw'')
        go_wp2_with fail
        go_ret
        exact ⟨by show _ = Ending.returned (.bool (upTo (curAt e.base e.vers n t.f t.e.r) t.e.r.length)); rw [Hf.out]; rfl, (.of (by repeat (first | (with_reducible exact Ext.refl _) | (with_reducible refine Ext.up ?_ _) | (with_reducible refine Ext.alloc ?_ _) | (with_reducible refine Ext.drew ?_) | (with_reducible refine Ext.setRow ?_ (by first | exact LeS.le | exact LeS.add _ | (simp; done) | (simp; omega)) _) | (with_reducible refine Ext.setCell ?_ (by first | exact LeS.le | exact LeS.add _ | (simp; done) | (simp; omega)) _))))⟩
      · have g1' : (r1 != y.v) = false := by rw [bne, g1]; rfl
        have g2'' : (r2 != q) = false := by rw [bne, g2']; rfl
        have Ht := Lib.hid (upTo_succ (f := curAt e.base e.vers n t.f t.e.r) HALL.out (by rw [Hat.out, g1, g2']; rfl))
        clear g1 g2'
        go_wp2_with fail
        (refine wp_region_up (by kernel_rfl) (by kernel_rfl) ?_; (repeat (go_big_quiet_step ((go_at_call 151; exact Calls.up_same (krd _ (HB.out.up (by repeat (first | (with_reducible exact Ext.refl _) | (with_reducible refine Ext.up ?_ _) | (with_reducible refine Ext.alloc ?_ _) | (with_reducible refine Ext.drew ?_) | (with_reducible refine Ext.setRow ?_ (by first | exact LeS.le | exact LeS.add _ | (simp; done) | (simp; omega)) _) | (with_reducible refine Ext.setCell ?_ (by first | exact LeS.le | exact LeS.add _ | (simp; done) | (simp; omega)) _)))) (HV.out.up (by repeat (first | (with_reducible exact Ext.refl _) | (with_reducible refine Ext.up ?_ _) | (with_reducible refine Ext.alloc ?_ _) | (with_reducible refine Ext.drew ?_) | (with_reducible refine Ext.setRow ?_ (by first | exact LeS.le | exact LeS.add _ | (simp; done) | (simp; omega)) _) | (with_reducible refine Ext.setCell ?_ (by first | exact LeS.le | exact LeS.add _ | (simp; done) | (simp; omega)) _))))))))); refine wpQuiet_nil ?_; intro _ hw'; obtain ⟨zq, hw''⟩ := hw'; subst hw'')
        go_wp2_with fail
        go_roundw
        case rel => exact ⟨k + 1, by go_num, by omega, (.of (by repeat (first | (with_reducible exact Ext.refl _) | (with_reducible refine Ext.up ?_ _) | (with_reducible refine Ext.alloc ?_ _) | (with_reducible refine Ext.drew ?_) | (with_reducible refine Ext.setRow ?_ (by first | exact LeS.le | exact LeS.add _ | (simp; done) | (simp; omega)) _) | (with_reducible refine Ext.setCell ?_ (by first | exact LeS.le | exact LeS.add _ | (simp; done) | (simp; omega)) _)))), Ht.out⟩
        case measure => simp [intOf] <;> omega
    · obtain rfl : k = t.e.r.length := by omega
      go_wp2_with fail
      go_ret
      exact ⟨by show _ = Ending.returned (.bool (upTo (curAt e.base e.vers n t.f t.e.r) t.e.r.length)); rw [HALL.out]; rfl, (.of (by repeat (first | (with_reducible exact Ext.refl _) | (with_reducible refine Ext.up ?_ _) | (with_reducible refine Ext.alloc ?_ _) | (with_reducible refine Ext.drew ?_) | (with_reducible refine Ext.setRow ?_ (by first | exact LeS.le | exact LeS.add _ | (simp; done) | (simp; omega)) _) | (with_reducible refine Ext.setCell ?_ (by first | exact LeS.le | exact LeS.add _ | (simp; done) | (simp; omega)) _))))⟩
end Go.Proofs.Ytkboefmkfpnpjaa
namespace Go.Proofs.Ytkboefmkfpnpjaa
open Go Go.RowKit Go.Proofs

theorem rd_cat {α : Type} {enc : α → List Value} {e sz lo rb : Nat} {lim : Int} {w0 w W w7 : World} {v : Value} {l : List α} (hR : Rd w0 W rb lim) (hG : w.grownBy W (some rb)) (hown : Own enc e sz lo W v l) (hlo : rb < lo) (hw : w.heap.size ≤ lo) (hE : Ext w0 w7) (g7 : W.grownBy w7 v.ownBlock) :
    Rd w0 w7 rb lim ∧ (∃ z : ExtR rb w, w7 = z.val) := by
  refine ⟨hR.grown hE (g7.block rb hR.lt (fun e => ?_)), ExtR.of ?_⟩
  · rcases hown.ne_rb hlo with h | h
    · rw [h] at e; cases e
    · exact h e.symm
  · refine ⟨g7.os.trans hG.os, g7.tape.trans hG.tape, g7.output.trans hG.output, Nat.le_trans hG.size g7.size, fun n hn hne => ?_⟩
    refine (g7.block n (Nat.lt_of_lt_of_le hn hG.size) (fun e => ?_)).trans (hG.block n hn hne)
    have := (World.ownsRow.lt hown n e.symm).1
    omega
set_option maxRecDepth 100000 in
set_option maxHeartbeats 4000000 in
theorem drawStore_any (w0 w : World) (rb : Nat) (lim n : Int) (h : Rd w0 w rb lim) (hl : lim ≤ 100000) (hn0 : 0 ≤ n) (hn1 : n ≤ 1000000) :
    Calls Try.prog 73 #[.pointer (some ⟨rb, 0, none⟩), .int .i64 n] w fun e w' => ∃ v' l, e = .returned v' ∧ l.length ≤ 33 ∧ (n = 0 → entsOk 1 l = true) ∧ (∃ z : ExtR rb w, w' = z.val) ∧ Rd w0 w' rb (lim + 100) ∧ Own Ent.enc 31 2 w.heap.size w' v' l := by
  have H := Lib.hid h
  have hL : LtS rb w := ⟨h.lt⟩
  have hLe : w0.heap.size ≤ w.heap.size := h.ext.size
  have hlt := h.lt
  clear h
  go_enter Try.func73, Try.ntmps73
  go_wp2_with fail
  refine (pick_any w0 _ rb lim 7 (H.out.up (by repeat (first | (with_reducible exact Ext.refl _) | (with_reducible refine Ext.up ?_ _) | (with_reducible refine Ext.alloc ?_ _) | (with_reducible refine Ext.drew ?_) | (with_reducible refine Ext.setRow ?_ (by first | exact LeS.le | exact LeS.add _ | (simp; done) | (simp; omega)) _) | (with_reducible refine Ext.setCell ?_ (by first | exact LeS.le | exact LeS.add _ | (simp; done) | (simp; omega)) _)))) (by omega) (by omega) (by omega)).mono ?_; rintro e w' ⟨j0, rfl, j00, j01, j02, ⟨z0, rfl⟩, hr⟩
  have H0 := Lib.hid hr
  have hj := j01 (by omega)
  clear hr j01 j02
  go_wp2_with fail
  go_loopw [5, 6] (fun s5 s6 wr => ∃ (j : Int) (out : List Ent), s6 = .int .i64 j ∧ 0 ≤ j ∧ j ≤ 6 ∧ entsOk 1 out = true ∧ (∃ z : ExtR rb w, wr = z.val) ∧ Rd w0 wr rb (lim + 60 - 8 * j) ∧ Own Ent.enc 31 2 w.heap.size wr s5 out) (fun _ s6 _ => (intOf s6).toNat)
  case atStart =>
    refine ⟨j0, [], rfl, j00, by omega, rfl, ExtR.of (by repeat (first | (with_reducible exact grownBy_refl _ _) | (with_reducible refine GB.setNew ?_ (by first | exact LeS.le | exact LeS.add _ | (simp; done) | (simp; omega)) _ _) | (with_reducible refine GB.alloc ?_ _) | (with_reducible refine GB.drew ?_) | (with_reducible refine GB.upR ?_ _) | (with_reducible refine GB.up ?_ _))), H0.out.mono (by omega), ?_⟩
    have o0 : Own Ent.enc 31 2 w.heap.size (w.alloc (.cells #[] 31)) (.slice (some ⟨w.heap.size, 0, none⟩) 0 0) [] := Own.lit rfl (Nat.le_refl _) rfl rfl Ent.enc_length (by simp)
    exact Own.upR o0 hlt z0
  case round =>
    obtain ⟨j, out, rfl, jj0, jj6, hok, ⟨z, rfl⟩, hr, hown⟩ := hrel
    have hol := entsOk_len hok
    have H1 := Lib.hid hr; have HO := Lib.hid hown; have Hok := Lib.hid hok
    have hLz : LtS rb z.val := ⟨hr.lt⟩
    clear hr hown hok
    by_cases hjz : 0 < j
    · go_wp2_with fail
      refine (key_any w0 _ rb _ H1.out (by omega)).mono ?_; rintro e w' ⟨key, rfl, y0, y1, ⟨z1, rfl⟩, hr⟩
      have H2 := Lib.hid hr; clear hr
      go_wp2_with fail
      refine (value_any w0 _ rb _ H2.out (by omega)).mono ?_; rintro e w' ⟨val, rfl, x0, x1, ⟨z2, rfl⟩, hr⟩
      have H3 := Lib.hid hr; clear hr
      have HO2 := Lib.hid ((HO.out.upR hlt z1).upR hlt z2)
      go_wp2_with fail
      refine (sPutValue_yes out _ key val _ (HO2.out.sl Ent.enc_length) Hok.out y0 y1 x0 x1).mono ?_; rintro e w' ⟨v7, rfl, ⟨z3, rfl⟩, o7⟩
      have O7 := Lib.hid o7; clear o7
      have hsz : w.heap.size ≤ z2.val.heap.size := Nat.le_trans (Nat.le_trans z.grown.size z1.grown.size) z2.grown.size
      go_wp2_with fail
      go_roundw
      case rel =>
        refine ⟨j - 1, _, by go_num, by omega, by omega, ?_, ExtR.of (GB.up (GB.upR (GB.upR z.grown z1) z2) z3), (H3.out.up z3.ext).mono (by omega), O7.out.lo hsz⟩
        rw [putF_asc (asc_of Hok.out)]
        exact putS_ok Hok.out y0 y1 (fun hp => by simp at hp; omega)
      case measure => simp [intOf]; omega
    · obtain rfl : j = 0 := by omega
      go_wp2_with fail
      refine (odd_any w0 _ rb _ n H1.out (by omega) (by omega) (by omega)).mono ?_; rintro e w' ⟨bo, rfl, hbo, ⟨z1, rfl⟩, hr⟩
      have H2 := Lib.hid hr; clear hr
      have HO1 := Lib.hid (HO.out.upR hlt z1)
      rcases bo with _ | _
      · go_wp2_with fail
        go_ret
        exact ⟨_, out, rfl, by omega, fun _ => Hok.out, ExtR.of (GB.upR z.grown z1), H2.out.mono (by omega), HO1.out⟩
      · have hn : n ≠ 0 := fun e => by cases hbo e
        clear hbo
        go_wp2_with fail
        refine (pick_any w0 _ rb _ 4 H2.out (by omega) (by omega) (by omega)).mono ?_; rintro e w' ⟨q, rfl, q0, q1, q2, ⟨z2, rfl⟩, hr⟩
        have H3 := Lib.hid hr; clear hr
        have HO2 := Lib.hid (HO1.out.upR hlt z2)
        have hq1 := q1 (by omega)
        clear q1 q2
        have HG := Lib.hid (GB.upR (GB.upR z.grown z1) z2)
        have hLz2 : LtS rb z2.val := ⟨H3.out.lt⟩
        have hLeq : LeS w z2.val := ⟨HG.out.size⟩
        have hq : q = 0 ∨ q = 1 ∨ q = 2 ∨ q = 3 := by omega
        rcases hq with rfl | rfl | rfl | rfl
        · go_wp2_with (at_builtin; refine wpList_pushG fEnt rfl (.tmp 34) (.tmp 36) rfl Ent.enc Ent.enc_length w0 (lo := w.heap.size) [⟨32, 1⟩] out rfl HO2.out H3.out.ext hLe LeS.le rfl rfl (by go_simp) rfl (oneEs' _) (by simp; omega) (by simp; omega) ?_; intro v7 z7 o7 g7 b7; clear b7)
          obtain ⟨R7, E7⟩ := rd_push (w := w) H3.out HG.out HO2.out hlt (Nat.le_refl _) z7.ext g7; clear g7
          go_ret
          exact ⟨_, _, rfl, by rw [List.length_append]; simp; omega, fun e => absurd e hn, E7, R7.mono (by omega), o7⟩
        · have o1 : Own Ent.enc 31 2 w.heap.size (z2.val.alloc (.cells #[.int .i64 31, .int .i64 1] 31)) (.slice (some ⟨z2.val.heap.size, 0, none⟩) 1 1) [⟨31, 1⟩] := Own.lit rfl HG.out.size rfl rfl Ent.enc_length (by simp)
          have O1 := Lib.hid o1; clear o1
          go_wp2_with (at_builtin; refine wpList_pushG fEnt rfl (.tmp 41) (.tmp 43) rfl Ent.enc Ent.enc_length w0 (lo := w.heap.size) [⟨0, 1⟩] [⟨31, 1⟩] rfl O1.out (H3.out.alloc _).ext hLe (by have := HG.out.size; simp; omega) rfl rfl (by go_simp) rfl (oneEs' _) (by simp) (by simp) ?_; intro v7 z7 o7 g7 b7; clear b7)
          obtain ⟨R7, E7⟩ := rd_push (w := w) (H3.out.alloc _) (GB.alloc HG.out _) O1.out hlt (Nat.le_refl _) z7.ext g7; clear g7
          go_ret
          exact ⟨_, _, rfl, by simp, fun e => absurd e hn, E7, R7.mono (by omega), o7⟩
        · have o1 : Own Ent.enc 31 2 w.heap.size (z2.val.alloc (.cells #[] 31)) (.slice (some ⟨z2.val.heap.size, 0, none⟩) 0 0) [] := Own.lit rfl HG.out.size rfl rfl Ent.enc_length (by simp)
          have O1 := Lib.hid o1; clear o1
          go_wp2_with fail
          refine (pick_any w0 _ rb _ 3 ((H3.out.alloc _).alloc _) (by omega) (by omega) (by omega)).mono ?_; rintro e w' ⟨q, rfl, q0, q1, q2, ⟨z4, rfl⟩, hr⟩
          have H4 := Lib.hid hr; clear hr
          have hq1 := q1 (by omega)
          clear q1 q2
          have hLz4 : LtS z2.val.heap.size ((z2.val.alloc (.cells #[] 31)).alloc (.cells #[.int .i64 0, .int .i64 (-1), .int .i64 1000001] 3)) := ⟨by simp; omega⟩
          have HO4 := Lib.hid ((O1.out.up (w' := (z2.val.alloc (.cells #[] 31)).alloc (.cells #[.int .i64 0, .int .i64 (-1), .int .i64 1000001] 3)) (by repeat (first | (with_reducible exact Ext.refl _) | (with_reducible refine Ext.up ?_ _) | (with_reducible refine Ext.alloc ?_ _) | (with_reducible refine Ext.drew ?_) | (with_reducible refine Ext.setRow ?_ (by first | exact LeS.le | exact LeS.add _ | (simp; done) | (simp; omega)) _) | (with_reducible refine Ext.setCell ?_ (by first | exact LeS.le | exact LeS.add _ | (simp; done) | (simp; omega)) _)))).upR hlt z4)
          have HG4 := Lib.hid (GB.upR (GB.alloc (GB.alloc HG.out (.cells #[] 31)) (.cells #[.int .i64 0, .int .i64 (-1), .int .i64 1000001] 3)) z4)
          have hqq : q = 0 ∨ q = 1 ∨ q = 2 := by omega
          rcases hqq with rfl | rfl | rfl
          · go_wp2_with (at_builtin; refine wpList_pushG fEnt rfl (.tmp 47) (.tmp 54) rfl Ent.enc Ent.enc_length w0 (lo := w.heap.size) [⟨1, 0⟩] [] rfl HO4.out H4.out.ext hLe (by have := HG4.out.size; omega) rfl rfl (by go_simp) rfl (oneEs' _) (by simp) (by simp) ?_; intro v7 z7 o7 g7 b7; clear b7)
            obtain ⟨R7, E7⟩ := rd_push (w := w) H4.out HG4.out HO4.out hlt (Nat.le_refl _) z7.ext g7; clear g7
            go_ret
            exact ⟨_, _, rfl, by simp, fun e => absurd e hn, E7, R7.mono (by omega), o7⟩
          · go_wp2_with (at_builtin; refine wpList_pushG fEnt rfl (.tmp 47) (.tmp 54) rfl Ent.enc Ent.enc_length w0 (lo := w.heap.size) [⟨1, -1⟩] [] rfl HO4.out H4.out.ext hLe (by have := HG4.out.size; omega) rfl rfl (by go_simp) rfl (oneEs' _) (by simp) (by simp) ?_; intro v7 z7 o7 g7 b7; clear b7)
            obtain ⟨R7, E7⟩ := rd_push (w := w) H4.out HG4.out HO4.out hlt (Nat.le_refl _) z7.ext g7; clear g7
            go_ret
            exact ⟨_, _, rfl, by simp, fun e => absurd e hn, E7, R7.mono (by omega), o7⟩
          · go_wp2_with (at_builtin; refine wpList_pushG fEnt rfl (.tmp 47) (.tmp 54) rfl Ent.enc Ent.enc_length w0 (lo := w.heap.size) [⟨1, 1000001⟩] [] rfl HO4.out H4.out.ext hLe (by have := HG4.out.size; omega) rfl rfl (by go_simp) rfl (oneEs' _) (by simp) (by simp) ?_; intro v7 z7 o7 g7 b7; clear b7)
            obtain ⟨R7, E7⟩ := rd_push (w := w) H4.out HG4.out HO4.out hlt (Nat.le_refl _) z7.ext g7; clear g7
            go_ret
            exact ⟨_, _, rfl, by simp, fun e => absurd e hn, E7, R7.mono (by omega), o7⟩
        · have o1 : Own Ent.enc 31 2 w.heap.size (z2.val.alloc (.cells #[.int .i64 (-1), .int .i64 5] 31)) (.slice (some ⟨z2.val.heap.size, 0, none⟩) 1 1) [⟨-1, 5⟩] := Own.lit rfl HG.out.size rfl rfl Ent.enc_length (by simp)
          have O1 := Lib.hid o1; clear o1
          go_wp2_with (at_builtin; refine wpList_catA fEnt rfl (.tmp 29) (.tmp 30) rfl Ent.enc Ent.enc_length w0 (lo := w.heap.size) out [⟨-1, 5⟩] rfl O1.out (H3.out.alloc _).ext hLe (by have := HG.out.size; simp; omega) rfl ((HO2.out.sl Ent.enc_length).up (by repeat (first | (with_reducible exact Ext.refl _) | (with_reducible refine Ext.up ?_ _) | (with_reducible refine Ext.alloc ?_ _) | (with_reducible refine Ext.drew ?_) | (with_reducible refine Ext.setRow ?_ (by first | exact LeS.le | exact LeS.add _ | (simp; done) | (simp; omega)) _) | (with_reducible refine Ext.setCell ?_ (by first | exact LeS.le | exact LeS.add _ | (simp; done) | (simp; omega)) _)))) (oneEs' _) (by simp; omega) (by simp; omega) ?_; intro v7 z7 o7 g7 b7; clear b7)
          obtain ⟨R7, E7⟩ := rd_cat (w := w) (H3.out.alloc _) (GB.alloc HG.out _) O1.out hlt (Nat.le_refl _) z7.ext g7; clear g7
          go_ret
          exact ⟨_, _, rfl, by rw [List.length_append]; simp; omega, fun e => absurd e hn, E7, R7.mono (by omega), o7⟩
end Go.Proofs.Ytkboefmkfpnpjaa
namespace Go.Proofs.Ytkboefmkfpnpjaa
open Go Go.RowKit Go.Proofs

theorem litSL (w : World) (g : Nat) (l : List Int) (e : TypeId) (hg : g = w.heap.size) (n : Nat) (hn : n = l.length) (hm : l.length ≤ 9223372036854775807) : SL (RF encI) 1 (w.alloc (.cells (vA l) e)) (.slice (some ⟨g, 0, none⟩) n n) l := by
  have hcs : (vA l).toList = l.flatMap encI := by
    simp only [vA]
    clear hn hm
    induction l with
    | nil => rfl
    | cons x l ih => simpa [encI, List.flatMap_cons] using ih
  exact (Own.lit (lo := w.heap.size) (w := w) hg (Nat.le_refl _) hn hcs encI_length hm).sl encI_length
theorem iNode_any (a b : Int) (v : Value) (w : World) (h : SL (RF encI) 1 w v [a, b]) (a0 : 0 ≤ a) (a1 : a < 1000003) (b0 : 0 ≤ b) (b1 : b < 1000003) :
    Calls Try.prog 67 #[.int .i64 2, v] w fun e w' => e = .returned (.int .i64 (nodeOf a b)) ∧ Up w w' := by
  have hs := sumOf_yes (tag := 2) (by decide) (by decide) (summed_two (a := a) (b := b) ⟨a0, by omega⟩ ⟨b0, by omega⟩)
  have h1 := sumOf_any 2 [a, b] v w h
  rw [hs] at h1
  exact h1
theorem row5_one (v : List Int) : (treeRow v 5)[0]? = some (rootV v) := by
  have h : (treeRow v 5).length = 1 := treeRow_length v 5 (by decide)
  obtain ⟨x, hx⟩ := getElem?_some_of_lt (l := treeRow v 5) (k := 0) (by omega)
  rw [rootV, getD_of hx, hx]
end Go.Proofs.Ytkboefmkfpnpjaa
