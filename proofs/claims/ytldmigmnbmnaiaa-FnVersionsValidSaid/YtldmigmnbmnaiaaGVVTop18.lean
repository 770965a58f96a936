/- The law FnVersionsValid's walk. The decoder of codes. -/
import Derived.Test.YtldmigmnbmnaiaaGVVTop17
import Derived.Test.YtldmigmnbmnaiaaGVVTop09
namespace Go.Proofs.Ytldmigmnbmnaiaa
open Go Go.RowKit Go.Proofs

set_option maxRecDepth 100000 in
set_option maxHeartbeats 2000000 in
theorem FnVersionsValid_any (bs : List Int) (v : Value) (w : World) (h : SL (RF encU) 1 w v bs) (hb : ∀ b ∈ bs, 0 ≤ b ∧ b ≤ 255) :
    Calls Try.prog 4 #[v] w fun e w' => e = .returned (.bool true) ∧ Up w w' := by
  have H := Lib.hid h
  obtain ⟨p, c, rfl, _, _⟩ := h.openc
  clear h
  by_cases hl : 1048576 < bs.length
  · go_enter Try.func4, Try.ntmps4
    go_wp2_with fail
    go_ret
    exact ⟨rfl, (.of (by repeat (first | (with_reducible exact Ext.refl _) | (with_reducible refine Ext.up ?_ _) | (with_reducible refine Ext.alloc ?_ _) | (with_reducible refine Ext.drew ?_) | (with_reducible refine Ext.setRow ?_ (by first | exact LeS.le | exact LeS.add _ | (simp; done) | (simp; omega)) _) | (with_reducible refine Ext.setCell ?_ (by first | exact LeS.le | exact LeS.add _ | (simp; done) | (simp; omega)) _))))⟩
  go_enter Try.func4, Try.ntmps4
  go_wp2_with fail
  refine (drawVersionsValid_any bs _ _ (H.out.up (by repeat (first | (with_reducible exact Ext.refl _) | (with_reducible refine Ext.up ?_ _) | (with_reducible refine Ext.alloc ?_ _) | (with_reducible refine Ext.drew ?_) | (with_reducible refine Ext.setRow ?_ (by first | exact LeS.le | exact LeS.add _ | (simp; done) | (simp; omega)) _) | (with_reducible refine Ext.setCell ?_ (by first | exact LeS.le | exact LeS.add _ | (simp; done) | (simp; omega)) _)))) hb).mono ?_; rintro e w' ⟨v1, l, rfl, ⟨z0, rfl⟩, hll, ho⟩
  obtain ⟨p1, c1, rfl, hlm, hcap⟩ := (ho.sl Ver.enc_length).openc
  have HO := Lib.hid ho; clear ho
  have kv := fun w h => iVersionsValid_any l (.slice p1 l.length c1) w h
  have ks := fun w h => sVersionsValid_any l (.slice p1 l.length c1) w h
  rcases hok : versOk l with _ | _
  · simp only [hok] at kv ks
    clear hok
    go_wp2_with (first | (go_at_call 19; refine (kv _ ((HO.out.sl Ver.enc_length).up (by repeat (first | (with_reducible exact Ext.refl _) | (with_reducible refine Ext.up ?_ _) | (with_reducible refine Ext.alloc ?_ _) | (with_reducible refine Ext.drew ?_) | (with_reducible refine Ext.setRow ?_ (by first | exact LeS.le | exact LeS.add _ | (simp; done) | (simp; omega)) _) | (with_reducible refine Ext.setCell ?_ (by first | exact LeS.le | exact LeS.add _ | (simp; done) | (simp; omega)) _))))).mono ?_; rintro e w' ⟨rfl, z1, rfl⟩) | (go_at_call 20; refine (ks _ ((HO.out.sl Ver.enc_length).up (by repeat (first | (with_reducible exact Ext.refl _) | (with_reducible refine Ext.up ?_ _) | (with_reducible refine Ext.alloc ?_ _) | (with_reducible refine Ext.drew ?_) | (with_reducible refine Ext.setRow ?_ (by first | exact LeS.le | exact LeS.add _ | (simp; done) | (simp; omega)) _) | (with_reducible refine Ext.setCell ?_ (by first | exact LeS.le | exact LeS.add _ | (simp; done) | (simp; omega)) _))))).mono ?_; rintro e w' ⟨rfl, z2, rfl⟩) | (go_at_call 16; refine (alive_any _).mono ?_; rintro e w' ⟨rfl, z3, rfl⟩))
    go_ret
    exact ⟨rfl, (.of (by repeat (first | (with_reducible exact Ext.refl _) | (with_reducible refine Ext.up ?_ _) | (with_reducible refine Ext.alloc ?_ _) | (with_reducible refine Ext.drew ?_) | (with_reducible refine Ext.setRow ?_ (by first | exact LeS.le | exact LeS.add _ | (simp; done) | (simp; omega)) _) | (with_reducible refine Ext.setCell ?_ (by first | exact LeS.le | exact LeS.add _ | (simp; done) | (simp; omega)) _))))⟩
  simp only [hok] at kv ks
  by_cases h0 : l.length = 0
  · have h0' : ((l.length : Int) == 0) = true := by simpa using h0
    clear hok h0
    go_wp2_with (first | (go_at_call 19; refine (kv _ ((HO.out.sl Ver.enc_length).up (by repeat (first | (with_reducible exact Ext.refl _) | (with_reducible refine Ext.up ?_ _) | (with_reducible refine Ext.alloc ?_ _) | (with_reducible refine Ext.drew ?_) | (with_reducible refine Ext.setRow ?_ (by first | exact LeS.le | exact LeS.add _ | (simp; done) | (simp; omega)) _) | (with_reducible refine Ext.setCell ?_ (by first | exact LeS.le | exact LeS.add _ | (simp; done) | (simp; omega)) _))))).mono ?_; rintro e w' ⟨rfl, z1, rfl⟩) | (go_at_call 20; refine (ks _ ((HO.out.sl Ver.enc_length).up (by repeat (first | (with_reducible exact Ext.refl _) | (with_reducible refine Ext.up ?_ _) | (with_reducible refine Ext.alloc ?_ _) | (with_reducible refine Ext.drew ?_) | (with_reducible refine Ext.setRow ?_ (by first | exact LeS.le | exact LeS.add _ | (simp; done) | (simp; omega)) _) | (with_reducible refine Ext.setCell ?_ (by first | exact LeS.le | exact LeS.add _ | (simp; done) | (simp; omega)) _))))).mono ?_; rintro e w' ⟨rfl, z2, rfl⟩) | (go_at_call 16; refine (alive_any _).mono ?_; rintro e w' ⟨rfl, z3, rfl⟩))
    go_ret
    exact ⟨rfl, (.of (by repeat (first | (with_reducible exact Ext.refl _) | (with_reducible refine Ext.up ?_ _) | (with_reducible refine Ext.alloc ?_ _) | (with_reducible refine Ext.drew ?_) | (with_reducible refine Ext.setRow ?_ (by first | exact LeS.le | exact LeS.add _ | (simp; done) | (simp; omega)) _) | (with_reducible refine Ext.setCell ?_ (by first | exact LeS.le | exact LeS.add _ | (simp; done) | (simp; omega)) _))))⟩
  have h0' : ((l.length : Int) == 0) = false := by rw [beq_eq_false_iff_ne]; omega
  go_wp2_with (first | (go_at_call 19; refine (kv _ ((HO.out.sl Ver.enc_length).up (by repeat (first | (with_reducible exact Ext.refl _) | (with_reducible refine Ext.up ?_ _) | (with_reducible refine Ext.alloc ?_ _) | (with_reducible refine Ext.drew ?_) | (with_reducible refine Ext.setRow ?_ (by first | exact LeS.le | exact LeS.add _ | (simp; done) | (simp; omega)) _) | (with_reducible refine Ext.setCell ?_ (by first | exact LeS.le | exact LeS.add _ | (simp; done) | (simp; omega)) _))))).mono ?_; rintro e w' ⟨rfl, z1, rfl⟩) | (go_at_call 20; refine (ks _ ((HO.out.sl Ver.enc_length).up (by repeat (first | (with_reducible exact Ext.refl _) | (with_reducible refine Ext.up ?_ _) | (with_reducible refine Ext.alloc ?_ _) | (with_reducible refine Ext.drew ?_) | (with_reducible refine Ext.setRow ?_ (by first | exact LeS.le | exact LeS.add _ | (simp; done) | (simp; omega)) _) | (with_reducible refine Ext.setCell ?_ (by first | exact LeS.le | exact LeS.add _ | (simp; done) | (simp; omega)) _))))).mono ?_; rintro e w' ⟨rfl, z2, rfl⟩))
  clear kv ks
  obtain ⟨g, cap, cur, hv, hlo, hgr, _⟩ : ∃ g cap cur, Value.slice p1 l.length c1 = .slice (some ⟨g, 0, none⟩) l.length cap ∧ w.heap.size ≤ g ∧ z0.val.heap[g]? = some (Obj.cells cur 38) ∧ True := by
    rcases HO.out.2 with ⟨_, hz⟩ | ⟨g, cap, cur, hv, hlo, hgr, _⟩
    · exact absurd hz h0
    · exact ⟨g, cap, cur, hv, hlo, hgr, trivial⟩
  cases hv
  obtain ⟨m1, hm1⟩ : ∃ m1, l.length = m1 + 1 := ⟨l.length - 1, by omega⟩
  obtain ⟨x, hx⟩ := getElem?_some_of_lt (l := l) (k := m1) (by omega)
  have hmem := List.mem_of_getElem? hx
  obtain ⟨_, _, e0, _, hcc⟩ := (HO.out.sl Ver.enc_length).open
  cases e0
  obtain ⟨_, _, ee, hLg, hxc⟩ := hcc _ x hx
  obtain ⟨n2, hn2⟩ : ∃ n2, n2 = l.length / 2 := ⟨_, rfl⟩
  have hw2 : IntKind.i64.wrap ((l.length : Int) / 2) = (n2 : Int) := by rw [IntWalk.i64_in _ (by omega)]; omega
  have hw1 : IntKind.i64.wrap ((l.length : Int) - 1) = (m1 : Int) := by rw [IntWalk.i64_in _ (by omega)]; omega
  have n2a : n2 < l.length := by omega
  have n2c : ¬ c1 = n2 := by omega
  have n2g : n2 ≤ l.length := by omega
  have n2d : n2 ≤ c1 := by omega
  have n2e : (0 : Int) ≤ (m1 : Int) := by omega
  have n2f : (m1 : Int) < (l.length : Int) := by omega
  have kr := fun v w h => iVersionsValid_any (l.drop n2) v w h
  simp only [versOk_drop hok] at kr
  have kt := fun v w h => iVersionsValid_any (l ++ [x]) v w h
  simp only [versOk_twice hmem] at kt
  cases ee
  have f0 : z0.val.cell? ⟨g, m1 * 3, none⟩ = some (.int .i64 x.k) := by simpa using hxc 0 _ rfl
  have f1 : z0.val.cell? ⟨g, m1 * 3 + 1, none⟩ = some (.int .i64 x.b) := by simpa using hxc 1 _ rfl
  have f2 : z0.val.cell? ⟨g, m1 * 3 + 2, none⟩ = some (.int .i64 x.v) := by simpa using hxc 2 _ rfl
  have HX := Lib.hid hx
  have hz0 : w.heap.size ≤ z0.val.heap.size := z0.ext.size
  clear hok hx hmem hxc hgr hn2 h0 hcc hm1
  have K40a := fun W : World => (Own.lit (lo := W.heap.size) rfl (Nat.le_refl _) rfl rfl Ver.enc_length (by simp) : Own Ver.enc 38 3 W.heap.size (W.alloc (.cells #[.int .i64 x.k, .int .i64 x.b, .int .i64 x.v] 38)) (.slice (some ⟨W.heap.size, 0, none⟩) 1 1) [x])
  have K31a := fun W : World => (Own.lit (lo := W.heap.size) rfl (Nat.le_refl _) rfl rfl Ver.enc_length (by simp) : Own Ver.enc 38 3 W.heap.size (W.alloc (.cells #[] 38)) (.slice (some ⟨W.heap.size, 0, none⟩) 0 0) [])
  have K1t := fun (A B : World) (g7 : World.grownBy ((A.alloc (.cells #[.int .i64 x.k, .int .i64 x.b, .int .i64 x.v] 38)).alloc (.cells #[] 38)) B (Value.slice (some ⟨A.heap.size + 1, 0, none⟩) 0 0).ownBlock) => ((K40a A).up ((Ext.refl _).alloc (.cells #[] 38))).keep g7 (.inr (by simp [Value.ownBlock]))
  have K2t := fun (A B : World) (g7 : World.grownBy ((A.alloc (.cells #[] 38)).alloc (.cells #[.int .i64 x.k, .int .i64 x.b, .int .i64 x.v] 38)) B (Value.slice (some ⟨A.heap.size, 0, none⟩) 0 0).ownBlock) => (Own.lit (lo := A.heap.size) (by simp) (by simp) rfl rfl Ver.enc_length (by simp) : Own Ver.enc 38 3 A.heap.size ((A.alloc (.cells #[] 38)).alloc (.cells #[.int .i64 x.k, .int .i64 x.b, .int .i64 x.v] 38)) (.slice (some ⟨A.heap.size + 1, 0, none⟩) 1 1) [x]).keep g7 (.inr (by simp [Value.ownBlock]))
  (go_region_held3 (fun w' => (∀ n i, ∀ [LtS n z0.val], w'.cell? ⟨n, i, none⟩ = World.cell? z0.val ⟨n, i, none⟩) ∧ Ext z0.val w') ((refine S_of_ext ?_; (repeat (first | exact Ext.refl _ | refine Ext.up ?_ _ | refine Ext.alloc ?_ _ | refine Ext.drew ?_ | refine Ext.setRow ?_ (by first | (dsimp only; omega) | exact LeS.le | exact LeS.add _ | (simp; done) | (simp; omega)) _ | refine Ext.setCell ?_ (by first | (dsimp only; omega) | exact LeS.le | exact LeS.add _ | (simp; done) | (simp; omega)) _)); done)) (first | (go_at_call 19; refine (kt _ _ ((O8.out.sl Ver.enc_length).up (by repeat (first | (with_reducible exact Ext.refl _) | (with_reducible refine Ext.up ?_ _) | (with_reducible refine Ext.alloc ?_ _) | (with_reducible refine Ext.drew ?_) | (with_reducible refine Ext.setRow ?_ (by first | exact LeS.le | exact LeS.add _ | (simp; done) | (simp; omega)) _) | (with_reducible refine Ext.setCell ?_ (by first | exact LeS.le | exact LeS.add _ | (simp; done) | (simp; omega)) _))))).mono ?_; rintro e w' ⟨rfl, ⟨z9, rfl⟩⟩) | (go_at_call 19; refine (kr _ _ ((SL.rest (HO.out.sl Ver.enc_length) n2g (by omega) (by omega) (by omega)).up (by repeat (first | (with_reducible exact Ext.refl _) | (with_reducible refine Ext.up ?_ _) | (with_reducible refine Ext.alloc ?_ _) | (with_reducible refine Ext.drew ?_) | (with_reducible refine Ext.setRow ?_ (by first | exact LeS.le | exact LeS.add _ | (simp; done) | (simp; omega)) _) | (with_reducible refine Ext.setCell ?_ (by first | exact LeS.le | exact LeS.add _ | (simp; done) | (simp; omega)) _))))).mono ?_; rintro e w' ⟨rfl, ⟨z5, rfl⟩⟩) | (refine step_catW fVer (by rfl) (.tmp 31) (.tmp 32) (by rfl) Ver.enc Ver.enc_length z0.val (lo := z0.val.heap.size) l [] (by rfl) (by rfl) (Own.lit (by simp) LeS.le rfl rfl Ver.enc_length (by simp)) (by repeat (first | (with_reducible exact Ext.refl _) | (with_reducible refine Ext.up ?_ _) | (with_reducible refine Ext.alloc ?_ _) | (with_reducible refine Ext.drew ?_) | (with_reducible refine Ext.setRow ?_ (by first | exact LeS.le | exact LeS.add _ | (simp; done) | (simp; omega)) _) | (with_reducible refine Ext.setCell ?_ (by first | exact LeS.le | exact LeS.add _ | (simp; done) | (simp; omega)) _))) (Nat.le_refl _) LeS.le ((HO.out.sl Ver.enc_length).up (by repeat (first | (with_reducible exact Ext.refl _) | (with_reducible refine Ext.up ?_ _) | (with_reducible refine Ext.alloc ?_ _) | (with_reducible refine Ext.drew ?_) | (with_reducible refine Ext.setRow ?_ (by first | exact LeS.le | exact LeS.add _ | (simp; done) | (simp; omega)) _) | (with_reducible refine Ext.setCell ?_ (by first | exact LeS.le | exact LeS.add _ | (simp; done) | (simp; omega)) _)))) (oneVs _) (by simp; omega) (by simp; omega) ?_; intro v7 z7 o7 g7 b7; have O7 := Lib.hid o7; (first | (have O40 := Lib.hid (K1t z5.val z7.val g7)) | skip); clear o7 g7 b7) | (refine step_catW fVer (by rfl) (.tmp 31) (.tmp 32) (by rfl) Ver.enc Ver.enc_length z0.val (lo := z0.val.heap.size) l [] (by rfl) (by rfl) (Own.lo (Own.up (K31a z5.val) ((Ext.refl _).alloc (.cells #[.int .i64 x.k, .int .i64 x.b, .int .i64 x.v] 38))) LeS.le) (by repeat (first | (with_reducible exact Ext.refl _) | (with_reducible refine Ext.up ?_ _) | (with_reducible refine Ext.alloc ?_ _) | (with_reducible refine Ext.drew ?_) | (with_reducible refine Ext.setRow ?_ (by first | exact LeS.le | exact LeS.add _ | (simp; done) | (simp; omega)) _) | (with_reducible refine Ext.setCell ?_ (by first | exact LeS.le | exact LeS.add _ | (simp; done) | (simp; omega)) _))) (Nat.le_refl _) LeS.le ((HO.out.sl Ver.enc_length).up (by repeat (first | (with_reducible exact Ext.refl _) | (with_reducible refine Ext.up ?_ _) | (with_reducible refine Ext.alloc ?_ _) | (with_reducible refine Ext.drew ?_) | (with_reducible refine Ext.setRow ?_ (by first | exact LeS.le | exact LeS.add _ | (simp; done) | (simp; omega)) _) | (with_reducible refine Ext.setCell ?_ (by first | exact LeS.le | exact LeS.add _ | (simp; done) | (simp; omega)) _)))) (oneVs _) (by simp; omega) (by simp; omega) ?_; intro v7 z7 o7 g7 b7; have O7 := Lib.hid o7; have O40 := Lib.hid (K2t z5.val z7.val g7); clear o7 g7 b7) | (refine step_catW fVer (by rfl) (.tmp 33) (.tmp 40) (by rfl) Ver.enc Ver.enc_length z0.val (lo := z0.val.heap.size) [x] l (by rfl) (by rfl) (O7.out.up (by repeat (first | (with_reducible exact Ext.refl _) | (with_reducible refine Ext.up ?_ _) | (with_reducible refine Ext.alloc ?_ _) | (with_reducible refine Ext.drew ?_) | (with_reducible refine Ext.setRow ?_ (by first | exact LeS.le | exact LeS.add _ | (simp; done) | (simp; omega)) _) | (with_reducible refine Ext.setCell ?_ (by first | exact LeS.le | exact LeS.add _ | (simp; done) | (simp; omega)) _)))) (by repeat (first | (with_reducible exact Ext.refl _) | (with_reducible refine Ext.up ?_ _) | (with_reducible refine Ext.alloc ?_ _) | (with_reducible refine Ext.drew ?_) | (with_reducible refine Ext.setRow ?_ (by first | exact LeS.le | exact LeS.add _ | (simp; done) | (simp; omega)) _) | (with_reducible refine Ext.setCell ?_ (by first | exact LeS.le | exact LeS.add _ | (simp; done) | (simp; omega)) _))) (Nat.le_refl _) LeS.le (O40.out.sl Ver.enc_length) (oneVs _) (by simp; omega) (by simp; omega) ?_; intro v8 z8 o8 g8 b8; have O8 := Lib.hid o8; clear o8 g8 b8) | (refine step_catW fVer (by rfl) (.tmp 33) (.tmp 40) (by rfl) Ver.enc Ver.enc_length z0.val (lo := z0.val.heap.size) [x] l (by rfl) (by rfl) (O7.out.up (by repeat (first | (with_reducible exact Ext.refl _) | (with_reducible refine Ext.up ?_ _) | (with_reducible refine Ext.alloc ?_ _) | (with_reducible refine Ext.drew ?_) | (with_reducible refine Ext.setRow ?_ (by first | exact LeS.le | exact LeS.add _ | (simp; done) | (simp; omega)) _) | (with_reducible refine Ext.setCell ?_ (by first | exact LeS.le | exact LeS.add _ | (simp; done) | (simp; omega)) _)))) (by repeat (first | (with_reducible exact Ext.refl _) | (with_reducible refine Ext.up ?_ _) | (with_reducible refine Ext.alloc ?_ _) | (with_reducible refine Ext.drew ?_) | (with_reducible refine Ext.setRow ?_ (by first | exact LeS.le | exact LeS.add _ | (simp; done) | (simp; omega)) _) | (with_reducible refine Ext.setCell ?_ (by first | exact LeS.le | exact LeS.add _ | (simp; done) | (simp; omega)) _))) (Nat.le_refl _) LeS.le (Own.sl Ver.enc_length (K40a z7.val)) (oneVs _) (by simp; omega) (by simp; omega) ?_; intro v8 z8 o8 g8 b8; have O8 := Lib.hid o8; clear o8 g8 b8) | fail))
  all_goals
    go_wp2_with fail
    go_ret
    exact ⟨rfl, (.of (by repeat (first | (with_reducible exact Ext.refl _) | (with_reducible refine Ext.up ?_ _) | (with_reducible refine Ext.alloc ?_ _) | (with_reducible refine Ext.drew ?_) | (with_reducible refine Ext.setRow ?_ (by first | exact LeS.le | exact LeS.add _ | (simp; done) | (simp; omega)) _) | (with_reducible refine Ext.setCell ?_ (by first | exact LeS.le | exact LeS.add _ | (simp; done) | (simp; omega)) _))))⟩
end Go.Proofs.Ytldmigmnbmnaiaa
namespace Go.Proofs.Ytldmigmnbmnaiaa
open Go.ChangeShapes Go.WideShapes Go.ChangeAt Go.RowKit

def RByte (_ : World) (cs : List Value) (n : Int) : Prop := cs = encU n ∧ 0 ≤ n ∧ n ≤ 255
theorem SL.of_byte {w : World} {v : Value} {l : List Int} (h : SL RByte 1 w v l) : SL (RF encU) 1 w v l ∧ ∀ b ∈ l, 0 ≤ b ∧ b ≤ 255 := by
  obtain ⟨a, cap, hv, hl, hc⟩ := h
  refine ⟨⟨a, cap, hv, hl, fun hne => ?_⟩, fun b hb => ?_⟩
  · obtain ⟨b, off, ha, hb, hx⟩ := hc hne
    refine ⟨b, off, ha, hb, fun i x hi => ?_⟩
    obtain ⟨cs, h1, h2, h3⟩ := hx i x hi
    exact ⟨cs, h1, h2, h3.1⟩
  · obtain ⟨i, hi⟩ := List.getElem?_of_mem hb
    obtain ⟨_, _, _, _, hx⟩ := hc (by intro e; subst e; simp at hb)
    obtain ⟨_, _, _, h3⟩ := hx i b hi
    exact h3.2
theorem dec_Byte : Dec Try.prog 5 1 RByte := by
  intro H enc W sp held fuel cs x h
  obtain ⟨n, rfl, _, hw⟩ := DataW.trod_int (k := .u8) Try.underlying5 h
  have hb : 0 ≤ n ∧ n ≤ 255 := by
    simp [Lit.wf, IntKind.min, IntKind.max, IntKind.signed, IntKind.bits] at hw
    omega
  exact ⟨rfl, n, rfl, hb.1, hb.2⟩
theorem dec_Bytes : Dec Try.prog 22 1 (RSl RByte 1) := dec_slice Try.underlying22 (by kernel_rfl) (by decide) dec_Byte
end Go.Proofs.Ytldmigmnbmnaiaa
