/- Plain ground: effects as lists; slices of effects in memory. Walks: actions over a store, effects that are applied, runs: the reference's side. Walks: drawn stores. Plain ground: trees of the call's own that grow by a block and by a number. Plain ground: the tree in a box of its own while it grows, beside the reader. Plain ground: the blocks of a tree of the call's own, cell for cell. -/
import Derived.Test.YtphkimbhjfjjkaaGBSTop08
import Derived.Test.YtphkimbhjfjjkaaGBSTop03
set_option linter.unusedSimpArgs false
set_option linter.unusedVariables false
namespace Go.Proofs.Ytphkimbhjfjjkaa
open Go Go.RowKit

structure TE where
  d : Bool
  vr : Value
  vw : Value
  r : List Ent
  w : List Ent
def TE.enc (x : TE) : List Value := [.bool x.d, x.vr, x.vw]
theorem TE.enc_length (x : TE) : x.enc.length = 3 := rfl
def TE.core (x : TE) : Eff := ⟨x.d, x.r, x.w⟩
def SE (w : World) (v : Value) (es : List Eff) : Prop := ∃ ts : List TE, es = ts.map TE.core ∧ SL (RF TE.enc) 3 w v ts ∧ ∀ x ∈ ts, SL (RF Ent.enc) 2 w x.vr x.r ∧ SL (RF Ent.enc) 2 w x.vw x.w
theorem SE.up {w w' : World} {v : Value} {es : List Eff} (h : SE w v es) (hE : Ext w w') : SE w' v es := by
  obtain ⟨ts, h1, h2, h3⟩ := h
  exact ⟨ts, h1, h2.up hE, fun x hx => ⟨(h3 x hx).1.up hE, (h3 x hx).2.up hE⟩⟩
theorem SE.nil (w : World) (a : Option Addr) (c : Nat) : SE w (.slice a 0 c) [] := ⟨[], rfl, SL.nil _ _ _ _ _, by simp⟩
theorem SE.open {w : World} {v : Value} {es : List Eff} (h : SE w v es) : ∃ a cap, v = .slice a es.length cap ∧ es.length ≤ 9223372036854775807 ∧ es.length ≤ cap ∧ ∀ (k : Nat) x, es[k]? = some x → ∃ b off p c p' c', a = some ⟨b, off, none⟩ ∧ LtS b w ∧
    w.cell? ⟨b, off + k * 3, none⟩ = some (.bool x.d) ∧ w.cell? ⟨b, off + k * 3 + 1, none⟩ = some (.slice p x.r.length c) ∧ w.cell? ⟨b, off + k * 3 + 2, none⟩ = some (.slice p' x.w.length c') ∧ SL (RF Ent.enc) 2 w (.slice p x.r.length c) x.r ∧ SL (RF Ent.enc) 2 w (.slice p' x.w.length c') x.w := by
  obtain ⟨ts, rfl, h2, h3⟩ := h
  obtain ⟨a, cap, rfl, hl, hcap⟩ := h2.openc
  obtain ⟨a', cap', e', _, hc⟩ := h2.open
  cases e'
  refine ⟨a, cap, by rw [List.length_map], by rw [List.length_map]; exact hl, by rw [List.length_map]; exact hcap, fun k x hx => ?_⟩
  rw [List.getElem?_map, Option.map_eq_some_iff] at hx
  obtain ⟨y, hy, rfl⟩ := hx
  obtain ⟨b, off, ha, hb, hcc⟩ := hc k y hy
  obtain ⟨s1, s2⟩ := h3 y (List.mem_of_getElem? hy)
  obtain ⟨p, c, hv, _, _⟩ := s1.openc
  obtain ⟨p', c', hv', _, _⟩ := s2.openc
  have hd : w.cell? ⟨b, off + k * 3 + 1, none⟩ = some y.vr := hcc 1 _ rfl
  have hd' : w.cell? ⟨b, off + k * 3 + 2, none⟩ = some y.vw := hcc 2 _ rfl
  rw [hv] at hd s1
  rw [hv'] at hd' s2
  exact ⟨b, off, p, c, p', c', ha, hb, hcc 0 _ rfl, hd, hd', s1, s2⟩
/-- Effects of the call's own. -/
def OE (eT eE lo : Nat) (w : World) (v : Value) (ts : List TE) : Prop := Own TE.enc eT 3 lo w v ts ∧ ∀ x ∈ ts, (Own Ent.enc eE 2 lo w x.vr x.r ∧ Apart x.vr v) ∧ (Own Ent.enc eE 2 lo w x.vw x.w ∧ Apart x.vw v)
theorem OE.se {eT eE lo : Nat} {w : World} {v : Value} {ts : List TE} (h : OE eT eE lo w v ts) : SE w v (ts.map TE.core) := ⟨ts, rfl, h.1.sl TE.enc_length, fun x hx => ⟨(h.2 x hx).1.1.sl Ent.enc_length, (h.2 x hx).2.1.sl Ent.enc_length⟩⟩
theorem OE.up {eT eE lo : Nat} {w w' : World} {v : Value} {ts : List TE} (h : OE eT eE lo w v ts) (hE : Ext w w') : OE eT eE lo w' v ts := ⟨h.1.up hE, fun x hx => ⟨⟨(h.2 x hx).1.1.up hE, (h.2 x hx).1.2⟩, ⟨(h.2 x hx).2.1.up hE, (h.2 x hx).2.2⟩⟩⟩
theorem OE.lo {eT eE lo lo' : Nat} {w : World} {v : Value} {ts : List TE} (h : OE eT eE lo w v ts) (hl : lo' ≤ lo) : OE eT eE lo' w v ts := ⟨h.1.lo hl, fun x hx => ⟨⟨(h.2 x hx).1.1.lo hl, (h.2 x hx).1.2⟩, ⟨(h.2 x hx).2.1.lo hl, (h.2 x hx).2.2⟩⟩⟩
/-- One effect more. -/
theorem OE.snoc {eT eE lo : Nat} {w w' : World} {v v' : Value} {ts : List TE} {x : TE} (h : OE eT eE lo w v ts) (hg : w.grownBy w' v.ownBlock) (hb : v'.ownBlock = v.ownBlock ∨ v'.ownBlock = some w.heap.size)
    (ho : Own TE.enc eT 3 lo w' v' (ts ++ [x])) (hr : Own Ent.enc eE 2 lo w x.vr x.r) (ar : Apart x.vr v) (hw : Own Ent.enc eE 2 lo w x.vw x.w) (aw : Apart x.vw v) : OE eT eE lo w' v' (ts ++ [x]) := by
  refine ⟨ho, fun y hy => ?_⟩
  rcases List.mem_append.1 hy with hy | hy
  · obtain ⟨⟨a1, a2⟩, ⟨a3, a4⟩⟩ := h.2 y hy
    exact ⟨⟨a1.keep hg a2, Apart.grown a1 a2 (Nat.le_refl _) hb⟩, ⟨a3.keep hg a4, Apart.grown a3 a4 (Nat.le_refl _) hb⟩⟩
  · rw [List.mem_singleton] at hy; subst hy
    exact ⟨⟨hr.keep hg ar, Apart.grown hr ar (Nat.le_refl _) hb⟩, ⟨hw.keep hg aw, Apart.grown hw aw (Nat.le_refl _) hb⟩⟩
/-! ### Sums of effects -/
def entNums (l : List Ent) : List Int := l.flatMap fun x => [x.k, x.v]
theorem entNums_length (l : List Ent) : (entNums l).length = 2 * l.length := by
  induction l with
  | nil => rfl
  | cons x l ih => unfold entNums at *; rw [List.flatMap_cons, List.length_append, ih]; simp; omega
theorem entNums_snoc {l : List Ent} {k : Nat} {x : Ent} (h : l[k]? = some x) : entNums (l.take (k + 1)) = entNums (l.take k) ++ [x.k, x.v] := by
  rw [List.take_add_one, h]; simp [entNums]
def effNums (e : Eff) : List Int := [if e.d = true then 1 else 0, (e.r.length : Int)] ++ entNums e.r ++ entNums e.w
def effSum (e : Eff) : Int := sumOf 3 (effNums e)
def effsSum (l : List Eff) : Int := if l.length ≤ 10 then sumOf 4 (l.map effSum) else -1
theorem effSums_snoc {l : List Eff} {k : Nat} {x : Eff} (h : l[k]? = some x) : (l.take (k + 1)).map effSum = (l.take k).map effSum ++ [effSum x] := by
  rw [List.take_add_one, h]; simp
end Go.Proofs.Ytphkimbhjfjjkaa
namespace Go.Proofs.Ytphkimbhjfjjkaa
open Go Go.RowKit Go.Proofs

theorem fEff : AppFacts Try.prog 72 103 3 56 := by
  have h : (Try.prog.info? 103).map (fun i => (i.zero, i.size, i.bytes)) = some (some (.agg #[.bool false, .slice none 0 0, .slice none 0 0]), 3, 56) := by kernel_rfl
  obtain ⟨i0, hi, hz0, hz1, hz2⟩ := info_parts h
  exact ⟨Try.underlying72, ⟨i0, _, hi, hz0, hz1, hz2, rfl⟩, by decide⟩
theorem oneTE (ts : List TE) (h : ∀ x ∈ ts, (∃ p n c, x.vr = .slice p n c) ∧ ∃ p n c, x.vw = .slice p n c) : ∀ u ∈ ts.flatMap TE.enc, u.oneCell' = true := by
  intro u hu
  obtain ⟨x, hx, h1⟩ := List.mem_flatMap.1 hu
  obtain ⟨⟨p, n, c, e1⟩, ⟨p', n', c', e2⟩⟩ := h x hx
  simp only [TE.enc, e1, e2, List.mem_cons, List.not_mem_nil, or_false] at h1
  rcases h1 with rfl | rfl | rfl <;> rfl
theorem putAll_le {s u : List Ent} (hs : entsOk 1 s = true) (hu : entsOk 0 u = true) (k : Nat) : (putAll s (u.take k)).length ≤ 32 := by
  have hv : valsIn (valsOf s) := valsOf_in (entsOk_least (by decide) hs)
  rw [← storeOf_valsOf hs, putAll_store hv (fun e he => by have := entsOk_mem hu (List.mem_of_mem_take he); omega)]
  exact storeOf_le _
set_option maxRecDepth 100000 in
set_option maxHeartbeats 1000000 in
theorem sPutValue_yes (l : List Ent) (v : Value) (key val : Int) (w : World) (h : SL (RF Ent.enc) 2 w v l) (hok : entsOk 1 l = true) (k0 : 0 ≤ key) (k1 : key ≤ 31) (v0 : 0 ≤ val) (v1 : val ≤ 1000000) :
    Calls Try.prog 93 #[v, .int .i64 key, .int .i64 val] w fun e w' => ∃ v', e = .returned (.tuple #[v', .bool true]) ∧ Up w w' ∧ Own Ent.enc 75 2 w.heap.size w' v' (putF (decide (val = 0)) key val l) := by
  have H := Lib.hid h
  obtain ⟨p, c, rfl, _, _⟩ := h.openc
  have hlen := entsOk_len hok
  have kv := fun w (h : SL (RF Ent.enc) 2 w (.slice p l.length c) l) => sStoreValid_any l _ w h
  simp only [hok] at kv
  have kk := fun w => l1In_any key 0 31 w
  simp only [inR_iff.2 ⟨k0, k1⟩] at kk
  have kw := fun w => l1In_any val 0 1000000 w
  simp only [inR_iff.2 ⟨v0, v1⟩] at kw
  clear h
  go_enter Try.func93, Try.ntmps93
  go_wp2_with (first | (go_at_call 19; refine (kv _ (H.out.up (by repeat (first | (with_reducible exact Ext.refl _) | (with_reducible refine Ext.up ?_ _) | (with_reducible refine Ext.alloc ?_ _) | (with_reducible refine Ext.drew ?_) | (with_reducible refine Ext.setRow ?_ (by first | exact LeS.le | exact LeS.add _ | (simp; done) | (simp; omega)) _) | (with_reducible refine Ext.setCell ?_ (by first | exact LeS.le | exact LeS.add _ | (simp; done) | (simp; omega)) _))))).mono ?_; rintro e w' ⟨rfl, z1, rfl⟩) | (go_at_call 64; (with_reducible refine (kk _).mono ?_); rintro e w' ⟨rfl, rfl⟩) | (go_at_call 64; (with_reducible refine (kw _).mono ?_); rintro e w' ⟨rfl, rfl⟩))
  refine (l2Put_any l _ key val _ (H.out.up (by repeat (first | (with_reducible exact Ext.refl _) | (with_reducible refine Ext.up ?_ _) | (with_reducible refine Ext.alloc ?_ _) | (with_reducible refine Ext.drew ?_) | (with_reducible refine Ext.setRow ?_ (by first | exact LeS.le | exact LeS.add _ | (simp; done) | (simp; omega)) _) | (with_reducible refine Ext.setCell ?_ (by first | exact LeS.le | exact LeS.add _ | (simp; done) | (simp; omega)) _)))) (by omega)).mono ?_; rintro e w' ⟨v', rfl, ⟨z2, rfl⟩, hown⟩
  go_wp2_with fail
  refine bodyPost_ret (v := .tuple #[v', .bool true]) (by simp [results, Try.results93, go_sem]) rfl ?_
  exact ⟨_, rfl, (.of (by repeat (first | (with_reducible exact Ext.refl _) | (with_reducible refine Ext.up ?_ _) | (with_reducible refine Ext.alloc ?_ _) | (with_reducible refine Ext.drew ?_) | (with_reducible refine Ext.setRow ?_ (by first | exact LeS.le | exact LeS.add _ | (simp; done) | (simp; omega)) _) | (with_reducible refine Ext.setCell ?_ (by first | exact LeS.le | exact LeS.add _ | (simp; done) | (simp; omega)) _)))), hown.lo LeS.le⟩
set_option maxRecDepth 100000 in
set_option maxHeartbeats 2000000 in
theorem sApplyEffect_yes (s u : List Ent) (d : Bool) (v vr vw : Value) (w : World) (h : SL (RF Ent.enc) 2 w v s) (hu : SL (RF Ent.enc) 2 w vw u) (hr : ∃ p n c, vr = .slice p n c) (hok : entsOk 1 s = true) (huo : entsOk 0 u = true) :
    Calls Try.prog 142 #[v, .agg #[.bool d, vr, vw]] w fun e w' => ∃ v', e = .returned v' ∧ Up w w' ∧ Own Ent.enc 75 2 w.heap.size w' v' (putAll s u) := by
  have H := Lib.hid h; have HU := Lib.hid hu
  obtain ⟨p2, n2, c2, rfl⟩ := hr
  obtain ⟨p, c, rfl, _, _⟩ := h.openc
  obtain ⟨p3, c3, rfl, hlu, hcu⟩ := hu.open
  have hls := entsOk_len hok
  have kv := fun w (h : SL (RF Ent.enc) 2 w (.slice p s.length c) s) => sStoreValid_any s _ w h
  simp only [hok] at kv
  have kw := fun w (h : SL (RF Ent.enc) 2 w (.slice p3 u.length c3) u) => l4Writes_any u _ w h
  simp only [huo] at kw
  have hlu2 := entsOk_len huo
  clear h hu
  have Hok := Lib.hid hok; have Huo := Lib.hid huo
  clear hok huo
  go_enter Try.func142, Try.ntmps142
  go_wp2_with (first | (go_at_call 19; refine (kv _ (H.out.up (by repeat (first | (with_reducible exact Ext.refl _) | (with_reducible refine Ext.up ?_ _) | (with_reducible refine Ext.alloc ?_ _) | (with_reducible refine Ext.drew ?_) | (with_reducible refine Ext.setRow ?_ (by first | exact LeS.le | exact LeS.add _ | (simp; done) | (simp; omega)) _) | (with_reducible refine Ext.setCell ?_ (by first | exact LeS.le | exact LeS.add _ | (simp; done) | (simp; omega)) _))))).mono ?_; rintro e w' ⟨rfl, z1, rfl⟩) | (go_at_call 144; refine (kw _ (HU.out.up (by repeat (first | (with_reducible exact Ext.refl _) | (with_reducible refine Ext.up ?_ _) | (with_reducible refine Ext.alloc ?_ _) | (with_reducible refine Ext.drew ?_) | (with_reducible refine Ext.setRow ?_ (by first | exact LeS.le | exact LeS.add _ | (simp; done) | (simp; omega)) _) | (with_reducible refine Ext.setCell ?_ (by first | exact LeS.le | exact LeS.add _ | (simp; done) | (simp; omega)) _))))).mono ?_; rintro e w' ⟨rfl, z2, rfl⟩) | (at_builtin; refine wpList_catA fEnt rfl (.tmp 17) (.tmp 18) rfl Ent.enc Ent.enc_length (w.alloc (.cells #[.bool d, .slice p2 n2 c2, .slice p3 u.length c3] 103)) (lo := (w.alloc (.cells #[.bool d, .slice p2 n2 c2, .slice p3 u.length c3] 103)).heap.size) s [] rfl (Own.lit rfl LeS.le rfl rfl Ent.enc_length (by simp)) (by repeat (first | (with_reducible exact Ext.refl _) | (with_reducible refine Ext.up ?_ _) | (with_reducible refine Ext.alloc ?_ _) | (with_reducible refine Ext.drew ?_) | (with_reducible refine Ext.setRow ?_ (by first | exact LeS.le | exact LeS.add _ | (simp; done) | (simp; omega)) _) | (with_reducible refine Ext.setCell ?_ (by first | exact LeS.le | exact LeS.add _ | (simp; done) | (simp; omega)) _))) (Nat.le_refl _) LeS.le rfl (H.out.up (by repeat (first | (with_reducible exact Ext.refl _) | (with_reducible refine Ext.up ?_ _) | (with_reducible refine Ext.alloc ?_ _) | (with_reducible refine Ext.drew ?_) | (with_reducible refine Ext.setRow ?_ (by first | exact LeS.le | exact LeS.add _ | (simp; done) | (simp; omega)) _) | (with_reducible refine Ext.setCell ?_ (by first | exact LeS.le | exact LeS.add _ | (simp; done) | (simp; omega)) _)))) (oneEs' _) (by simp; omega) (by simp; omega) ?_; intro v1 z3 o1 g1 b1; clear g1 b1))
  have O1 := Lib.hid o1; clear o1
  go_loopw [5, 6] (fun s5 s6 wr => ∃ k : Nat, s6 = .int .i64 k ∧ k ≤ u.length ∧ Up (w.alloc (.cells #[.bool d, .slice p2 n2 c2, .slice p3 u.length c3] 103)) wr ∧ Own Ent.enc 75 2 (w.alloc (.cells #[.bool d, .slice p2 n2 c2, .slice p3 u.length c3] 103)).heap.size wr s5 (putAll s (u.take k))) (fun _ s6 _ => u.length - (intOf s6).toNat)
  case atStart => exact ⟨0, rfl, Nat.zero_le _, ⟨z3, rfl⟩, O1.out⟩
  case round =>
    obtain ⟨k, rfl, hk, ⟨z, rfl⟩, hown⟩ := hrel
    have Hown := Lib.hid hown; clear hown
    by_cases hlt : k < u.length
    · obtain ⟨x, hxk⟩ := getElem?_some_of_lt hlt
      obtain ⟨b, off, rfl, hb, hcc⟩ := hcu k x hxk
      have e0 : w.cell? ⟨b, off + k * 2, none⟩ = some (.int .i64 x.k) := hcc 0 _ rfl
      have e1 : w.cell? ⟨b, off + k * 2 + 1, none⟩ = some (.int .i64 x.v) := hcc 1 _ rfl
      have kk : (0 : Int) ≤ (k : Int) := by omega
      have kl : (k : Int) < u.length := by omega
      have Hx := Lib.hid (putAll_snoc s hxk)
      have hpl := putAll_le Hok.out Huo.out k
      clear hcu hcc hxk
      go_wp2_with fail
      (go_region_held3 (fun w' => (∀ n i, ∀ [LtS n (w.alloc (.cells #[.bool d, .slice p2 n2 c2, .slice (some ⟨b, off, none⟩) u.length c3] 103))], w'.cell? ⟨n, i, none⟩ = World.cell? (w.alloc (.cells #[.bool d, .slice p2 n2 c2, .slice (some ⟨b, off, none⟩) u.length c3] 103)) ⟨n, i, none⟩) ∧ Ext (w.alloc (.cells #[.bool d, .slice p2 n2 c2, .slice (some ⟨b, off, none⟩) u.length c3] 103)) w') ((refine S_of_ext ?_; (repeat (first | exact Ext.refl _ | refine Ext.up ?_ _ | refine Ext.alloc ?_ _ | refine Ext.drew ?_ | refine Ext.setRow ?_ (by first | (dsimp only; omega) | exact LeS.le | exact LeS.add _ | (simp; done) | (simp; omega)) _ | refine Ext.setCell ?_ (by first | (dsimp only; omega) | exact LeS.le | exact LeS.add _ | (simp; done) | (simp; omega)) _)); done)) ((go_at_call 124; refine (l2Put_any (putAll s (u.take k)) _ x.k x.v _ ((Hown.out.sl Ent.enc_length).up (by repeat (first | (with_reducible exact Ext.refl _) | (with_reducible refine Ext.up ?_ _) | (with_reducible refine Ext.alloc ?_ _) | (with_reducible refine Ext.drew ?_) | (with_reducible refine Ext.setRow ?_ (by first | exact LeS.le | exact LeS.add _ | (simp; done) | (simp; omega)) _) | (with_reducible refine Ext.setCell ?_ (by first | exact LeS.le | exact LeS.add _ | (simp; done) | (simp; omega)) _)))) (by omega)).mono ?_; rintro e w' ⟨v7, rfl, ⟨z7, rfl⟩, o7⟩)))
      have O7 := Lib.hid o7; clear o7
      go_wp2_with fail
      go_roundw
      case rel => exact ⟨k + 1, by go_num, by omega, (.of (by repeat (first | (with_reducible exact Ext.refl _) | (with_reducible refine Ext.up ?_ _) | (with_reducible refine Ext.alloc ?_ _) | (with_reducible refine Ext.drew ?_) | (with_reducible refine Ext.setRow ?_ (by first | exact LeS.le | exact LeS.add _ | (simp; done) | (simp; omega)) _) | (with_reducible refine Ext.setCell ?_ (by first | exact LeS.le | exact LeS.add _ | (simp; done) | (simp; omega)) _)))), by rw [Hx.out]; exact O7.out.lo LeS.le⟩
      case measure => simp [intOf]; omega
    · obtain rfl : k = u.length := by omega
      rw [List.take_length] at Hown
      clear hcu
      go_wp2_with fail
      go_ret
      exact ⟨_, rfl, (.of (by repeat (first | (with_reducible exact Ext.refl _) | (with_reducible refine Ext.up ?_ _) | (with_reducible refine Ext.alloc ?_ _) | (with_reducible refine Ext.drew ?_) | (with_reducible refine Ext.setRow ?_ (by first | exact LeS.le | exact LeS.add _ | (simp; done) | (simp; omega)) _) | (with_reducible refine Ext.setCell ?_ (by first | exact LeS.le | exact LeS.add _ | (simp; done) | (simp; omega)) _)))), Hown.out.lo LeS.le⟩
end Go.Proofs.Ytphkimbhjfjjkaa
namespace Go.Proofs.Ytphkimbhjfjjkaa
open Go Go.RowKit Go.Proofs

theorem rd_cat {α : Type} {enc : α → List Value} {e sz lo rb : Nat} {lim : Int} {w0 w W w7 : World} {v : Value} {l : List α} (hR : Rd w0 W rb lim) (hG : w.grownBy W (some rb)) (hown : Own enc e sz lo W v l) (hlo : rb < lo) (hw : w.heap.size ≤ lo) (hE : Ext w0 w7) (g7 : W.grownBy w7 v.ownBlock) :
    Rd w0 w7 rb lim ∧ (∃ z : ExtR rb w, w7 = z.val) := by
  refine ⟨hR.grown hE (g7.block rb hR.lt (fun e => ?_)), ExtR.of ?_⟩
  · rcases hown.ne_rb hlo with h | h
    · rw [h] at e; cases e
    · exact h e.symm
  · refine ⟨g7.os.trans hG.os, g7.tape.trans hG.tape, g7.output.trans hG.output, Nat.le_trans hG.size g7.size, fun n hn hne => ?_⟩
    refine (g7.block n (Nat.lt_of_lt_of_le hn hG.size) (fun e => ?_)).trans (hG.block n hn hne)
    have := (World.ownsRow.lt hown n e.symm).1
    omega
set_option maxRecDepth 100000 in
set_option maxHeartbeats 4000000 in
theorem drawStore_any (w0 w : World) (rb : Nat) (lim n : Int) (h : Rd w0 w rb lim) (hl : lim ≤ 100000) (hn0 : 0 ≤ n) (hn1 : n ≤ 1000000) :
    Calls Try.prog 57 #[.pointer (some ⟨rb, 0, none⟩), .int .i64 n] w fun e w' => ∃ v' l, e = .returned v' ∧ l.length ≤ 33 ∧ (n = 0 → entsOk 1 l = true) ∧ (∃ z : ExtR rb w, w' = z.val) ∧ Rd w0 w' rb (lim + 100) ∧ Own Ent.enc 75 2 w.heap.size w' v' l := by
  have H := Lib.hid h
  have hL : LtS rb w := ⟨h.lt⟩
  have hLe : w0.heap.size ≤ w.heap.size := h.ext.size
  have hlt := h.lt
  clear h
  go_enter Try.func57, Try.ntmps57
  go_wp2_with fail
  refine (pick_any w0 _ rb lim 7 (H.out.up (by repeat (first | (with_reducible exact Ext.refl _) | (with_reducible refine Ext.up ?_ _) | (with_reducible refine Ext.alloc ?_ _) | (with_reducible refine Ext.drew ?_) | (with_reducible refine Ext.setRow ?_ (by first | exact LeS.le | exact LeS.add _ | (simp; done) | (simp; omega)) _) | (with_reducible refine Ext.setCell ?_ (by first | exact LeS.le | exact LeS.add _ | (simp; done) | (simp; omega)) _)))) (by omega) (by omega) (by omega)).mono ?_; rintro e w' ⟨j0, rfl, j00, j01, j02, ⟨z0, rfl⟩, hr⟩
  have H0 := Lib.hid hr
  have hj := j01 (by omega)
  clear hr j01 j02
  go_wp2_with fail
  go_loopw [5, 6] (fun s5 s6 wr => ∃ (j : Int) (out : List Ent), s6 = .int .i64 j ∧ 0 ≤ j ∧ j ≤ 6 ∧ entsOk 1 out = true ∧ (∃ z : ExtR rb w, wr = z.val) ∧ Rd w0 wr rb (lim + 60 - 8 * j) ∧ Own Ent.enc 75 2 w.heap.size wr s5 out) (fun _ s6 _ => (intOf s6).toNat)
  case atStart =>
    refine ⟨j0, [], rfl, j00, by omega, rfl, ExtR.of (by repeat (first | (with_reducible exact grownBy_refl _ _) | (with_reducible refine GB.setNew ?_ (by first | exact LeS.le | exact LeS.add _ | (simp; done) | (simp; omega)) _ _) | (with_reducible refine GB.alloc ?_ _) | (with_reducible refine GB.drew ?_) | (with_reducible refine GB.upR ?_ _) | (with_reducible refine GB.up ?_ _))), H0.out.mono (by omega), ?_⟩
    have o0 : Own Ent.enc 75 2 w.heap.size (w.alloc (.cells #[] 75)) (.slice (some ⟨w.heap.size, 0, none⟩) 0 0) [] := Own.lit rfl (Nat.le_refl _) rfl rfl Ent.enc_length (by simp)
    exact Own.upR o0 hlt z0
  case round =>
    obtain ⟨j, out, rfl, jj0, jj6, hok, ⟨z, rfl⟩, hr, hown⟩ := hrel
    have hol := entsOk_len hok
    have H1 := Lib.hid hr; have HO := Lib.hid hown; have Hok := Lib.hid hok
    have hLz : LtS rb z.val := ⟨hr.lt⟩
    clear hr hown hok
    by_cases hjz : 0 < j
    · go_wp2_with fail
      refine (key_any w0 _ rb _ H1.out (by omega)).mono ?_; rintro e w' ⟨key, rfl, y0, y1, ⟨z1, rfl⟩, hr⟩
      have H2 := Lib.hid hr; clear hr
      go_wp2_with fail
      refine (value_any w0 _ rb _ H2.out (by omega)).mono ?_; rintro e w' ⟨val, rfl, x0, x1, ⟨z2, rfl⟩, hr⟩
      have H3 := Lib.hid hr; clear hr
      have HO2 := Lib.hid ((HO.out.upR hlt z1).upR hlt z2)
      go_wp2_with fail
      refine (sPutValue_yes out _ key val _ (HO2.out.sl Ent.enc_length) Hok.out y0 y1 x0 x1).mono ?_; rintro e w' ⟨v7, rfl, ⟨z3, rfl⟩, o7⟩
      have O7 := Lib.hid o7; clear o7
      have hsz : w.heap.size ≤ z2.val.heap.size := Nat.le_trans (Nat.le_trans z.grown.size z1.grown.size) z2.grown.size
      go_wp2_with fail
      go_roundw
      case rel =>
        refine ⟨j - 1, _, by go_num, by omega, by omega, ?_, ExtR.of (GB.up (GB.upR (GB.upR z.grown z1) z2) z3), (H3.out.up z3.ext).mono (by omega), O7.out.lo hsz⟩
        rw [putF_asc (asc_of Hok.out)]
        exact putS_ok Hok.out y0 y1 (fun hp => by simp at hp; omega)
      case measure => simp [intOf]; omega
    · obtain rfl : j = 0 := by omega
      go_wp2_with fail
      refine (odd_any w0 _ rb _ n H1.out (by omega) (by omega) (by omega)).mono ?_; rintro e w' ⟨bo, rfl, hbo, ⟨z1, rfl⟩, hr⟩
      have H2 := Lib.hid hr; clear hr
      have HO1 := Lib.hid (HO.out.upR hlt z1)
      rcases bo with _ | _
      · go_wp2_with fail
        go_ret
        exact ⟨_, out, rfl, by omega, fun _ => Hok.out, ExtR.of (GB.upR z.grown z1), H2.out.mono (by omega), HO1.out⟩
      · have hn : n ≠ 0 := fun e => by cases hbo e
        clear hbo
        go_wp2_with fail
        refine (pick_any w0 _ rb _ 4 H2.out (by omega) (by omega) (by omega)).mono ?_; rintro e w' ⟨q, rfl, q0, q1, q2, ⟨z2, rfl⟩, hr⟩
        have H3 := Lib.hid hr; clear hr
        have HO2 := Lib.hid (HO1.out.upR hlt z2)
        have hq1 := q1 (by omega)
        clear q1 q2
        have HG := Lib.hid (GB.upR (GB.upR z.grown z1) z2)
        have hLz2 : LtS rb z2.val := ⟨H3.out.lt⟩
        have hLeq : LeS w z2.val := ⟨HG.out.size⟩
        have hq : q = 0 ∨ q = 1 ∨ q = 2 ∨ q = 3 := by omega
        rcases hq with rfl | rfl | rfl | rfl
        · go_wp2_with (at_builtin; refine wpList_pushG fEnt rfl (.tmp 34) (.tmp 36) rfl Ent.enc Ent.enc_length w0 (lo := w.heap.size) [⟨32, 1⟩] out rfl HO2.out H3.out.ext hLe LeS.le rfl rfl (by go_simp) rfl (oneEs' _) (by simp; omega) (by simp; omega) ?_; intro v7 z7 o7 g7 b7; clear b7)
          obtain ⟨R7, E7⟩ := rd_push (w := w) H3.out HG.out HO2.out hlt (Nat.le_refl _) z7.ext g7; clear g7
          go_ret
          exact ⟨_, _, rfl, by rw [List.length_append]; simp; omega, fun e => absurd e hn, E7, R7.mono (by omega), o7⟩
        · have o1 : Own Ent.enc 75 2 w.heap.size (z2.val.alloc (.cells #[.int .i64 31, .int .i64 1] 75)) (.slice (some ⟨z2.val.heap.size, 0, none⟩) 1 1) [⟨31, 1⟩] := Own.lit rfl HG.out.size rfl rfl Ent.enc_length (by simp)
          have O1 := Lib.hid o1; clear o1
          go_wp2_with (at_builtin; refine wpList_pushG fEnt rfl (.tmp 41) (.tmp 43) rfl Ent.enc Ent.enc_length w0 (lo := w.heap.size) [⟨0, 1⟩] [⟨31, 1⟩] rfl O1.out (H3.out.alloc _).ext hLe (by have := HG.out.size; simp; omega) rfl rfl (by go_simp) rfl (oneEs' _) (by simp) (by simp) ?_; intro v7 z7 o7 g7 b7; clear b7)
          obtain ⟨R7, E7⟩ := rd_push (w := w) (H3.out.alloc _) (GB.alloc HG.out _) O1.out hlt (Nat.le_refl _) z7.ext g7; clear g7
          go_ret
          exact ⟨_, _, rfl, by simp, fun e => absurd e hn, E7, R7.mono (by omega), o7⟩
        · have o1 : Own Ent.enc 75 2 w.heap.size (z2.val.alloc (.cells #[] 75)) (.slice (some ⟨z2.val.heap.size, 0, none⟩) 0 0) [] := Own.lit rfl HG.out.size rfl rfl Ent.enc_length (by simp)
          have O1 := Lib.hid o1; clear o1
          go_wp2_with fail
          refine (pick_any w0 _ rb _ 3 ((H3.out.alloc _).alloc _) (by omega) (by omega) (by omega)).mono ?_; rintro e w' ⟨q, rfl, q0, q1, q2, ⟨z4, rfl⟩, hr⟩
          have H4 := Lib.hid hr; clear hr
          have hq1 := q1 (by omega)
          clear q1 q2
          have hLz4 : LtS z2.val.heap.size ((z2.val.alloc (.cells #[] 75)).alloc (.cells #[.int .i64 0, .int .i64 (-1), .int .i64 1000001] 3)) := ⟨by simp; omega⟩
          have HO4 := Lib.hid ((O1.out.up (w' := (z2.val.alloc (.cells #[] 75)).alloc (.cells #[.int .i64 0, .int .i64 (-1), .int .i64 1000001] 3)) (by repeat (first | (with_reducible exact Ext.refl _) | (with_reducible refine Ext.up ?_ _) | (with_reducible refine Ext.alloc ?_ _) | (with_reducible refine Ext.drew ?_) | (with_reducible refine Ext.setRow ?_ (by first | exact LeS.le | exact LeS.add _ | (simp; done) | (simp; omega)) _) | (with_reducible refine Ext.setCell ?_ (by first | exact LeS.le | exact LeS.add _ | (simp; done) | (simp; omega)) _)))).upR hlt z4)
          have HG4 := Lib.hid (GB.upR (GB.alloc (GB.alloc HG.out (.cells #[] 75)) (.cells #[.int .i64 0, .int .i64 (-1), .int .i64 1000001] 3)) z4)
          have hqq : q = 0 ∨ q = 1 ∨ q = 2 := by omega
          rcases hqq with rfl | rfl | rfl
          · go_wp2_with (at_builtin; refine wpList_pushG fEnt rfl (.tmp 47) (.tmp 54) rfl Ent.enc Ent.enc_length w0 (lo := w.heap.size) [⟨1, 0⟩] [] rfl HO4.out H4.out.ext hLe (by have := HG4.out.size; omega) rfl rfl (by go_simp) rfl (oneEs' _) (by simp) (by simp) ?_; intro v7 z7 o7 g7 b7; clear b7)
            obtain ⟨R7, E7⟩ := rd_push (w := w) H4.out HG4.out HO4.out hlt (Nat.le_refl _) z7.ext g7; clear g7
            go_ret
            exact ⟨_, _, rfl, by simp, fun e => absurd e hn, E7, R7.mono (by omega), o7⟩
          · go_wp2_with (at_builtin; refine wpList_pushG fEnt rfl (.tmp 47) (.tmp 54) rfl Ent.enc Ent.enc_length w0 (lo := w.heap.size) [⟨1, -1⟩] [] rfl HO4.out H4.out.ext hLe (by have := HG4.out.size; omega) rfl rfl (by go_simp) rfl (oneEs' _) (by simp) (by simp) ?_; intro v7 z7 o7 g7 b7; clear b7)
            obtain ⟨R7, E7⟩ := rd_push (w := w) H4.out HG4.out HO4.out hlt (Nat.le_refl _) z7.ext g7; clear g7
            go_ret
            exact ⟨_, _, rfl, by simp, fun e => absurd e hn, E7, R7.mono (by omega), o7⟩
          · go_wp2_with (at_builtin; refine wpList_pushG fEnt rfl (.tmp 47) (.tmp 54) rfl Ent.enc Ent.enc_length w0 (lo := w.heap.size) [⟨1, 1000001⟩] [] rfl HO4.out H4.out.ext hLe (by have := HG4.out.size; omega) rfl rfl (by go_simp) rfl (oneEs' _) (by simp) (by simp) ?_; intro v7 z7 o7 g7 b7; clear b7)
            obtain ⟨R7, E7⟩ := rd_push (w := w) H4.out HG4.out HO4.out hlt (Nat.le_refl _) z7.ext g7; clear g7
            go_ret
            exact ⟨_, _, rfl, by simp, fun e => absurd e hn, E7, R7.mono (by omega), o7⟩
        · have o1 : Own Ent.enc 75 2 w.heap.size (z2.val.alloc (.cells #[.int .i64 (-1), .int .i64 5] 75)) (.slice (some ⟨z2.val.heap.size, 0, none⟩) 1 1) [⟨-1, 5⟩] := Own.lit rfl HG.out.size rfl rfl Ent.enc_length (by simp)
          have O1 := Lib.hid o1; clear o1
          go_wp2_with (at_builtin; refine wpList_catA fEnt rfl (.tmp 29) (.tmp 30) rfl Ent.enc Ent.enc_length w0 (lo := w.heap.size) out [⟨-1, 5⟩] rfl O1.out (H3.out.alloc _).ext hLe (by have := HG.out.size; simp; omega) rfl ((HO2.out.sl Ent.enc_length).up (by repeat (first | (with_reducible exact Ext.refl _) | (with_reducible refine Ext.up ?_ _) | (with_reducible refine Ext.alloc ?_ _) | (with_reducible refine Ext.drew ?_) | (with_reducible refine Ext.setRow ?_ (by first | exact LeS.le | exact LeS.add _ | (simp; done) | (simp; omega)) _) | (with_reducible refine Ext.setCell ?_ (by first | exact LeS.le | exact LeS.add _ | (simp; done) | (simp; omega)) _)))) (oneEs' _) (by simp; omega) (by simp; omega) ?_; intro v7 z7 o7 g7 b7; clear b7)
          obtain ⟨R7, E7⟩ := rd_cat (w := w) (H3.out.alloc _) (GB.alloc HG.out _) O1.out hlt (Nat.le_refl _) z7.ext g7; clear g7
          go_ret
          exact ⟨_, _, rfl, by rw [List.length_append]; simp; omega, fun e => absurd e hn, E7, R7.mono (by omega), o7⟩
end Go.Proofs.Ytphkimbhjfjjkaa
namespace Go.Proofs.Ytphkimbhjfjjkaa
open Go Go.RowKit Go.Proofs

section
variable {eE eB eA eI lo : Nat} {w w' : World} {v0 v1 v2 : Value} {base : List Ent} {bs : List TB} {pr : List Int}
theorem off_row {α : Type} {enc : α → List Value} {e sz : Nat} {v : Value} {l : List α} (h : Own enc e sz lo w v l) {X : Nat} (hX : X < lo ∨ w.heap.size ≤ X) : v.ownBlock ≠ some X := by
  intro e
  have := World.ownsRow.lt h X e
  omega
theorem OTA.set (h : OTA eE eB eA eI lo w v0 v1 v2 base bs pr) {X : Nat} (i : Nat) (u : Value) (h0 : v0.ownBlock ≠ some X) (h1 : v1.ownBlock ≠ some X) (h2 : v2.ownBlock ≠ some X) (hb : ∀ x ∈ bs, x.v.ownBlock ≠ some X) :
    OTA eE eB eA eI lo (w.setCell ⟨X, i, none⟩ u) v0 v1 v2 base bs pr :=
  ⟨h.obase.setApart i u (.inr h0), ⟨h.obs.1.setApart i u (.inr h1), fun x hx => ⟨(h.obs.2.1 x hx).1.setApart i u (.inr (hb x hx)), (h.obs.2.1 x hx).2⟩, h.obs.2.2⟩, h.opr.setApart i u (.inr h2), h.a01, h.a21, h.a02, h.in0, h.in2⟩
theorem OTA.setOld (h : OTA eE eB eA eI lo w v0 v1 v2 base bs pr) (a : Addr) (u : Value) (hlt : a.block < lo) : OTA eE eB eA eI lo (w.setCell a u) v0 v1 v2 base bs pr :=
  ⟨h.obase.setOld a u hlt, h.obs.setOld a u hlt, h.opr.setOld a u hlt, h.a01, h.a21, h.a02, h.in0, h.in2⟩
theorem OTA.off (h : OTA eE eB eA eI lo w v0 v1 v2 base bs pr) {X : Nat} (hX : X < lo ∨ w.heap.size ≤ X) : v0.ownBlock ≠ some X ∧ v1.ownBlock ≠ some X ∧ v2.ownBlock ≠ some X ∧ ∀ x ∈ bs, x.v.ownBlock ≠ some X :=
  ⟨off_row h.obase hX, off_row h.obs.1 hX, off_row h.opr hX, fun x hx => off_row (h.obs.2.1 x hx).1 hX⟩
theorem OTA.new {α : Type} {enc : α → List Value} {e sz lo' : Nat} {w2 : World} {v : Value} {l : List α} (h : OTA eE eB eA eI lo w v0 v1 v2 base bs pr) (o : Own enc e sz lo' w2 v l) (hl : w.heap.size ≤ lo') : Apart v0 v ∧ Apart v1 v ∧ Apart v2 v ∧ ∀ x ∈ bs, Apart x.v v :=
  ⟨Apart.of_lt h.obase o hl, Apart.of_lt h.obs.1 o hl, Apart.of_lt h.opr o hl, fun x hx => Apart.of_lt (h.obs.2.1 x hx).1 o hl⟩
theorem OTA.snocB {v1' : Value} {x : TB} (h : OTA eE eB eA eI lo w v0 v1 v2 base bs pr) (hg : w.grownBy w' v1.ownBlock) (hb : v1'.ownBlock = v1.ownBlock ∨ v1'.ownBlock = some w.heap.size)
    (ho : Own TB.enc eB 6 lo w' v1' (bs ++ [x])) (hx : Own Actn.enc eA 4 lo w x.v x.l) (a0 : Apart v0 x.v) (a1 : Apart v1 x.v) (a2 : Apart v2 x.v) (ab : ∀ y ∈ bs, Apart y.v x.v) : OTA eE eB eA eI lo w' v0 v1' v2 base (bs ++ [x]) pr := by
  refine ⟨h.obase.keep hg h.a01, h.obs.snoc hg hb ho hx a1.symm ab, h.opr.keep hg h.a21, Apart.grown h.obase h.a01 (Nat.le_refl _) hb, Apart.grown h.opr h.a21 (Nat.le_refl _) hb, h.a02, fun y hy => ?_, fun y hy => ?_⟩
  · rcases List.mem_append.1 hy with hy | hy
    · exact h.in0 y hy
    · rw [List.mem_singleton] at hy; subst hy; exact a0.symm
  · rcases List.mem_append.1 hy with hy | hy
    · exact h.in2 y hy
    · rw [List.mem_singleton] at hy; subst hy; exact a2.symm
theorem OTA.snocI {v2' : Value} {n : Int} (h : OTA eE eB eA eI lo w v0 v1 v2 base bs pr) (hg : w.grownBy w' v2.ownBlock) (hb : v2'.ownBlock = v2.ownBlock ∨ v2'.ownBlock = some w.heap.size)
    (ho : Own encI eI 1 lo w' v2' (pr ++ [n])) : OTA eE eB eA eI lo w' v0 v1 v2' base bs (pr ++ [n]) := by
  refine ⟨h.obase.keep hg h.a02, ⟨h.obs.1.keep hg h.a21.symm, fun x hx => ⟨(h.obs.2.1 x hx).1.keep hg (h.in2 x hx), (h.obs.2.1 x hx).2⟩, h.obs.2.2⟩, ho, h.a01, ?_, Apart.grown h.obase h.a02 (Nat.le_refl _) hb, h.in0, fun x hx => Apart.grown (h.obs.2.1 x hx).1 (h.in2 x hx) (Nat.le_refl _) hb⟩
  exact (Apart.grown h.obs.1 h.a21.symm (Nat.le_refl _) hb).symm
theorem OTA.upR {rb : Nat} (h : OTA eE eB eA eI lo w v0 v1 v2 base bs pr) (hlt : rb < lo) (z : ExtR rb w) : OTA eE eB eA eI lo z.val v0 v1 v2 base bs pr :=
  ⟨h.obase.upR hlt z, ⟨h.obs.1.upR hlt z, fun x hx => ⟨(h.obs.2.1 x hx).1.upR hlt z, (h.obs.2.1 x hx).2⟩, h.obs.2.2⟩, h.opr.upR hlt z, h.a01, h.a21, h.a02, h.in0, h.in2⟩
theorem OT.ota {hi : Nat} (h : OT eE eB eA eI lo hi w v0 v1 v2 base bs pr) : OTA eE eB eA eI lo w v0 v1 v2 base bs pr := by
  obtain ⟨s1, s2, a, b, c, h1, h2, h3, h4, h5, h6, h7⟩ := h
  exact ⟨h1, h3.lo a, h6.lo (by omega), (h3.1.apartU h2 (Nat.le_refl _)).symm, h6.apartU h4 (Nat.le_refl _), (h6.apartU (h2.le b) (Nat.le_refl _)).symm, fun x hx => (h3.2.1 x hx).1.apartU h2 (Nat.le_refl _), fun x hx => (h6.apartU (h5 x hx) (Nat.le_refl _)).symm⟩
end
end Go.Proofs.Ytphkimbhjfjjkaa
namespace Go.Proofs.Ytphkimbhjfjjkaa
open Go Go.RowKit Go.Proofs

theorem S_of_gb {W w' : World} {rb : Nat} (h : W.grownBy w' (some rb)) : (∀ n i, ∀ [LtS n W] [NeS n rb], w'.cell? ⟨n, i, none⟩ = W.cell? ⟨n, i, none⟩) ∧ W.grownBy w' (some rb) := ⟨fun n i => (⟨w', h⟩ : ExtR rb W).cell n i, h⟩
theorem S_of_gbX {W w' : World} {rb G : Nat} (h : W.grownBy w' (some rb)) : ∀ n i, ∀ [LtS n W] [NeS n rb] [NeS n G], w'.cell? ⟨n, i, none⟩ = W.cell? ⟨n, i, none⟩ := fun n i => (⟨w', h⟩ : ExtR rb W).cell n i
theorem cell_setX (W : World) (G j : Nat) (a : Value) (n i : Nat) [h : NeS n G] : (W.setCell ⟨G, j, none⟩ a).cell? ⟨n, i, none⟩ = W.cell? ⟨n, i, none⟩ := by
  simp only [World.cell?, Below.heap_setCell W ⟨G, j, none⟩ a n h.ne]
/-- The tree in the box G while it grows; the result's box stands empty at the call's first number. -/
structure LT (eT eE eB eA eI rb G : Nat) (w wr : World) (u0 u1 u2 : Value) (t : Tree) (bs : List TB) : Prop where
  gb : w.grownBy wr (some rb)
  box : wr.heap[G]? = some (.cells #[u0, u1, u2] eT (0, 0))
  res : wr.heap[w.heap.size]? = some (.cells #[.slice none 0 0, .slice none 0 0, .slice none 0 0] eT (0, 0))
  ot : OTA eE eB eA eI (w.heap.size + 1) wr u0 u1 u2 t.base bs t.pr
  core : bs.map TB.core = t.bs
  ok : t.ok = true
  off : u0.ownBlock ≠ some G ∧ u1.ownBlock ≠ some G ∧ u2.ownBlock ≠ some G ∧ ∀ x ∈ bs, x.v.ownBlock ≠ some G
section
variable {eT eE eB eA eI rb G : Nat} {w wr : World} {u0 u1 u2 : Value} {t : Tree} {bs : List TB}
theorem LT.ltG (h : LT eT eE eB eA eI rb G w wr u0 u1 u2 t bs) : G < wr.heap.size := (Array.getElem?_eq_some_iff.1 h.box).1
theorem LT.ltR (h : LT eT eE eB eA eI rb G w wr u0 u1 u2 t bs) : w.heap.size < wr.heap.size := (Array.getElem?_eq_some_iff.1 h.res).1
theorem LT.st (h : LT eT eE eB eA eI rb G w wr u0 u1 u2 t bs) : ST wr u0 u1 u2 t := h.ot.st' h.core
theorem LT.upR (h : LT eT eE eB eA eI rb G w wr u0 u1 u2 t bs) (hrb : rb < w.heap.size) (hG : w.heap.size < G) (z : ExtR rb wr) : LT eT eE eB eA eI rb G w z.val u0 u1 u2 t bs :=
  ⟨grownBy_trans h.gb z.grown, (z.block h.ltG (by omega)).trans h.box, (z.block h.ltR (by omega)).trans h.res, h.ot.upR (by omega) z, h.core, h.ok, h.off⟩
theorem LT.up {w' : World} (h : LT eT eE eB eA eI rb G w wr u0 u1 u2 t bs) (hE : Ext wr w') : LT eT eE eB eA eI rb G w w' u0 u1 u2 t bs :=
  ⟨grownBy_trans h.gb (grownBy_ext hE), (hE.block h.ltG).trans h.box, (hE.block h.ltR).trans h.res, h.ot.up hE, h.core, h.ok, h.off⟩
theorem LT.setOff {B : Nat} (h : LT eT eE eB eA eI rb G w wr u0 u1 u2 t bs) (i : Nat) (u : Value) (hB : B ≠ G) (hR : w.heap.size < B) (hoff : u0.ownBlock ≠ some B ∧ u1.ownBlock ≠ some B ∧ u2.ownBlock ≠ some B ∧ ∀ x ∈ bs, x.v.ownBlock ≠ some B) :
    LT eT eE eB eA eI rb G w (wr.setCell ⟨B, i, none⟩ u) u0 u1 u2 t bs :=
  ⟨GB.setNew h.gb (by omega) i u, (Below.heap_setCell _ _ _ _ (Ne.symm hB)).trans h.box, (Below.heap_setCell _ _ _ _ (by dsimp only; omega)).trans h.res, h.ot.set i u hoff.1 hoff.2.1 hoff.2.2.1 hoff.2.2.2, h.core, h.ok, h.off⟩
theorem LT.put {lo : Nat} {y0 y1 y2 : Value} {t' : Tree} {bs' : List TB} (h : LT eT eE eB eA eI rb G w wr u0 u1 u2 t bs) (hG : w.heap.size < G) (ho : OTA eE eB eA eI lo wr y0 y1 y2 t'.base bs' t'.pr) (hlo : G < lo) (hc : bs'.map TB.core = t'.bs) (hk : t'.ok = true) :
    LT eT eE eB eA eI rb G w (((wr.setCell ⟨G, 0, none⟩ y0).setCell ⟨G, 1, none⟩ y1).setCell ⟨G, 2, none⟩ y2) y0 y1 y2 t' bs' := by
  have of := ho.off (X := G) (.inl hlo)
  refine ⟨GB.setNew (GB.setNew (GB.setNew h.gb (by omega) _ _) (by omega) _ _) (by omega) _ _, ?_, ?_, ?_, hc, hk, of⟩
  · exact (heap_setCell_same _ _ 2 _ _ _ ((heap_setCell_same _ _ 1 _ _ _ ((heap_setCell_same _ _ 0 _ _ _ h.box).trans rfl)).trans rfl)).trans rfl
  · exact (Below.heap_setCell _ _ _ _ (by dsimp only; omega)).trans ((Below.heap_setCell _ _ _ _ (by dsimp only; omega)).trans ((Below.heap_setCell _ _ _ _ (by dsimp only; omega)).trans h.res))
  · exact (((ho.set 0 y0 of.1 of.2.1 of.2.2.1 of.2.2.2).set 1 y1 of.1 of.2.1 of.2.2.1 of.2.2.2).set 2 y2 of.1 of.2.1 of.2.2.1 of.2.2.2).lo (by omega)
theorem LT.start {lo : Nat} {y0 y1 y2 : Value} (gb : w.grownBy wr (some rb)) (hres : wr.heap[w.heap.size]? = some (.cells #[.slice none 0 0, .slice none 0 0, .slice none 0 0] eT (0, 0))) (ho : OTA eE eB eA eI lo wr y0 y1 y2 t.base bs t.pr) (hlo : w.heap.size + 1 ≤ lo) (hc : bs.map TB.core = t.bs) (hk : t.ok = true) :
    LT eT eE eB eA eI rb wr.heap.size w (wr.alloc (.cells #[y0, y1, y2] eT)) y0 y1 y2 t bs := by
  have of := ho.off (X := wr.heap.size) (.inr (Nat.le_refl _))
  have hlt : w.heap.size < wr.heap.size := (Array.getElem?_eq_some_iff.1 hres).1
  exact ⟨GB.alloc gb _, heap_alloc_new _ _, (heap_alloc_old _ _ hlt).trans hres, (ho.up ((Ext.refl _).alloc _)).lo hlo, hc, hk, of⟩
/-- The tree's block number m, cell for cell. -/
theorem LT.blk (h : LT eT eE eB eA eI rb G w wr u0 u1 u2 t bs) (hrb : rb < w.heap.size) {m : Nat} (hm : m < t.bs.length) : ∃ (xb : Blk) (xl : List Actn) (pv : Option Addr) (cv : Nat) (b off c1 : Nat), u1 = .slice (some ⟨b, off, none⟩) t.bs.length c1 ∧ LtS b wr ∧ NeS b rb ∧ NeS b G ∧
    wr.cell? ⟨b, off + m * 6, none⟩ = some (.int .i64 xb.bf) ∧ wr.cell? ⟨b, off + m * 6 + 1, none⟩ = some (.int .i64 xb.ht) ∧ wr.cell? ⟨b, off + m * 6 + 2, none⟩ = some (.int .i64 xb.vw) ∧ wr.cell? ⟨b, off + m * 6 + 3, none⟩ = some (.slice pv xl.length cv) ∧ wr.cell? ⟨b, off + m * 6 + 4, none⟩ = some (.int .i64 xb.rt) ∧ wr.cell? ⟨b, off + m * 6 + 5, none⟩ = some (.int .i64 xb.ef) ∧
    Own Actn.enc eA 4 (w.heap.size + 1) wr (.slice pv xl.length cv) xl ∧ (Value.slice pv xl.length cv).ownBlock ≠ some G := by
  have hlen : bs.length = t.bs.length := by rw [← h.core, List.length_map]
  obtain ⟨x, hx⟩ := getElem?_some_of_lt (l := bs) (k := m) (by omega)
  obtain ⟨a, c1, hv, _, hc⟩ := (h.ot.obs.1.sl TB.enc_length).open
  obtain ⟨b, off, rfl, hb, hcell⟩ := hc m x hx
  have hmem := List.mem_of_getElem? hx
  have hown := (h.ot.obs.2.1 x hmem).1
  have hoffx := h.off.2.2.2 x hmem
  obtain ⟨xb, xv, xl⟩ := x
  obtain ⟨pv, cv, hpv, _, _⟩ := (hown.sl Actn.enc_length).openc
  simp only at hpv hown hoffx
  subst hpv
  have hrow : u1.ownBlock = some b := by rw [hv]; rfl
  refine ⟨xb, xl, pv, cv, b, off, c1, by rw [hv, hlen], hb, ⟨by have := (World.ownsRow.lt h.ot.obs.1 b hrow).1; omega⟩, ⟨fun e => h.off.2.1 (by rw [hrow, e])⟩, ?_, ?_, ?_, ?_, ?_, ?_, hown, hoffx⟩
  · simpa using hcell 0 _ rfl
  · exact hcell 1 _ rfl
  · exact hcell 2 _ rfl
  · exact hcell 3 _ rfl
  · exact hcell 4 _ rfl
  · exact hcell 5 _ rfl
end
theorem Rd.put {w0 w : World} {rb G : Nat} {lim : Int} (h : Rd w0 w rb lim) (y0 y1 y2 : Value) (hG : G ≠ rb) (h0 : w0.heap.size ≤ G) : Rd w0 (((w.setCell ⟨G, 0, none⟩ y0).setCell ⟨G, 1, none⟩ y1).setCell ⟨G, 2, none⟩ y2) rb lim :=
  ((h.set 0 y0 hG h0).set 1 y1 hG h0).set 2 y2 hG h0
end Go.Proofs.Ytphkimbhjfjjkaa
namespace Go.Proofs.Ytphkimbhjfjjkaa
open Go Go.RowKit Go.Proofs

theorem OTA.blks {eE eB eA eI lo : Nat} {w : World} {u0 u1 u2 : Value} {t : Tree} {bs : List TB} (h : OTA eE eB eA eI lo w u0 u1 u2 t.base bs t.pr) (hc : bs.map TB.core = t.bs) (h1 : 1 ≤ t.bs.length) : ∃ (b off c1 : Nat), u1 = .slice (some ⟨b, off, none⟩) t.bs.length c1 ∧ LtS b w ∧ lo ≤ b ∧
    ∀ m, m < t.bs.length → ∃ (xb : Blk) (xl : List Actn) (pv : Option Addr) (cv : Nat), t.bs[m]? = some (xb, xl) ∧ w.cell? ⟨b, off + m * 6, none⟩ = some (.int .i64 xb.bf) ∧ w.cell? ⟨b, off + m * 6 + 1, none⟩ = some (.int .i64 xb.ht) ∧ w.cell? ⟨b, off + m * 6 + 2, none⟩ = some (.int .i64 xb.vw) ∧ w.cell? ⟨b, off + m * 6 + 3, none⟩ = some (.slice pv xl.length cv) ∧ w.cell? ⟨b, off + m * 6 + 4, none⟩ = some (.int .i64 xb.rt) ∧ w.cell? ⟨b, off + m * 6 + 5, none⟩ = some (.int .i64 xb.ef) ∧
    Own Actn.enc eA 4 lo w (.slice pv xl.length cv) xl := by
  have hlen : bs.length = t.bs.length := by rw [← hc, List.length_map]
  obtain ⟨a, c1, hv, _, hcc⟩ := (h.obs.1.sl TB.enc_length).open
  obtain ⟨x0, hx0⟩ := getElem?_some_of_lt (l := bs) (k := 0) (by omega)
  obtain ⟨b, off, rfl, hb, _⟩ := hcc 0 x0 hx0
  have hrow : u1.ownBlock = some b := by rw [hv]; rfl
  refine ⟨b, off, c1, by rw [hv, hlen], hb, (World.ownsRow.lt h.obs.1 b hrow).1, fun m hm => ?_⟩
  obtain ⟨x, hx⟩ := getElem?_some_of_lt (l := bs) (k := m) (by omega)
  obtain ⟨b', off', he, _, hcell⟩ := hcc m x hx
  cases he
  have hown := (h.obs.2.1 x (List.mem_of_getElem? hx)).1
  obtain ⟨xb, xv, xl⟩ := x
  obtain ⟨pv, cv, hpv, _, _⟩ := (hown.sl Actn.enc_length).openc
  simp only at hpv hown
  subst hpv
  refine ⟨xb, xl, pv, cv, by rw [← hc, List.getElem?_map, hx]; rfl, ?_, ?_, ?_, ?_, ?_, ?_, hown⟩
  · simpa using hcell 0 _ rfl
  · exact hcell 1 _ rfl
  · exact hcell 2 _ rfl
  · exact hcell 3 _ rfl
  · exact hcell 4 _ rfl
  · exact hcell 5 _ rfl
end Go.Proofs.Ytphkimbhjfjjkaa
