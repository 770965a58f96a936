/- Walks: roots of stores. -/
import Derived.Test.YteiemjebdhmnaaaGSoTop02
import Derived.Test.YteiemjebdhmnaaaGSoTop04
import Derived.Test.YteiemjebdhmnaaaGSoTop05
import Derived.Test.YteiemjebdhmnaaaGSoTop01
set_option linter.unusedSimpArgs false
set_option linter.unusedVariables false
namespace Go.Proofs.Yteiemjebdhmnaaa
open Go Go.RowKit Go.Proofs

theorem litSL (w : World) (g : Nat) (l : List Int) (e : TypeId) (hg : g = w.heap.size) (n : Nat) (hn : n = l.length) (hm : l.length ≤ 9223372036854775807) : SL (RF encI) 1 (w.alloc (.cells (vA l) e)) (.slice (some ⟨g, 0, none⟩) n n) l := by
  have hcs : (vA l).toList = l.flatMap encI := by
    simp only [vA]
    clear hn hm
    induction l with
    | nil => rfl
    | cons x l ih => simpa [encI, List.flatMap_cons] using ih
  exact (Own.lit (lo := w.heap.size) (w := w) hg (Nat.le_refl _) hn hcs encI_length hm).sl encI_length
theorem iLeafSum_any (key v : Int) (w : World) (k0 : 0 ≤ key) (k1 : key ≤ 31) (v0 : 0 ≤ v) (v1 : v ≤ 1000000) :
    Calls Try.prog 82 #[.int .i64 key, .int .i64 v] w fun e w' => e = .returned (.int .i64 (leafOf key v)) ∧ Up w w' := by
  have h1 : inR key 0 31 = true := inR_iff.2 ⟨k0, k1⟩
  have h2 : inR v 0 1000000 = true := inR_iff.2 ⟨v0, v1⟩
  have Hs := Lib.hid (sumOf_yes (tag := 1) (by decide) (by decide) (summed_two (a := key) (b := v) ⟨k0, by omega⟩ ⟨v0, by omega⟩))
  go_enter Try.func82, Try.ntmps82
  go_wp2_with (first | (go_at_call 103; refine (isKey_any _ _).mono ?_; rintro e w' ⟨rfl, rfl⟩) | (go_at_call 104; refine (isValue_any _ _).mono ?_; rintro e w' ⟨rfl, rfl⟩) | (go_at_call 42; refine (sumOf_any 1 [key, v] _ _ (litSL _ _ [key, v] _ rfl _ rfl (by simp))).mono ?_; rintro e w' ⟨rfl, z, rfl⟩))
  go_ret
  exact ⟨by rw [Hs.out]; rfl, (.of (by repeat (first | exact Ext.refl _ | refine Ext.up ?_ _ | refine Ext.alloc ?_ _ | refine Ext.drew ?_ | refine Ext.setRow ?_ (by first | (dsimp only; omega) | exact LeS.le | exact LeS.add _ | (simp; done) | (simp; omega)) _ | refine Ext.setCell ?_ (by first | (dsimp only; omega) | exact LeS.le | exact LeS.add _ | (simp; done) | (simp; omega)) _)))⟩
theorem sLeafSum_any (key v : Int) (w : World) (k0 : 0 ≤ key) (k1 : key ≤ 31) (v0 : 0 ≤ v) (v1 : v ≤ 1000000) :
    Calls Try.prog 109 #[.int .i64 key, .int .i64 v] w fun e w' => e = .returned (.int .i64 (leafOf key v)) ∧ Up w w' := by
  have h1 : inR key 0 31 = true := inR_iff.2 ⟨k0, k1⟩
  have h2 : inR v 0 1000000 = true := inR_iff.2 ⟨v0, v1⟩
  have Hs := Lib.hid (summed_two (a := key) (b := v) ⟨k0, by omega⟩ ⟨v0, by omega⟩)
  go_enter Try.func109, Try.ntmps109
  go_wp2_with (first | (go_at_call 36; refine (l1In_any _ _ _ _).mono ?_; rintro e w' ⟨rfl, rfl⟩) | (go_at_call 68; refine (l1Sum_any 1 [key, v] _ _ (litSL _ _ [key, v] _ rfl _ rfl (by simp)) (by decide) (by decide) Hs.out).mono ?_; rintro e w' ⟨rfl, rfl⟩))
  go_ret
  exact ⟨rfl, (.of (by repeat (first | exact Ext.refl _ | refine Ext.up ?_ _ | refine Ext.alloc ?_ _ | refine Ext.drew ?_ | refine Ext.setRow ?_ (by first | (dsimp only; omega) | exact LeS.le | exact LeS.add _ | (simp; done) | (simp; omega)) _ | refine Ext.setCell ?_ (by first | (dsimp only; omega) | exact LeS.le | exact LeS.add _ | (simp; done) | (simp; omega)) _)))⟩
theorem l3Node_any (a b : Int) (w : World) (a0 : 0 ≤ a) (a1 : a < 1000003) (b0 : 0 ≤ b) (b1 : b < 1000003) :
    Calls Try.prog 110 #[.int .i64 a, .int .i64 b] w fun e w' => e = .returned (.int .i64 (nodeOf a b)) ∧ Up w w' := by
  have Hs := Lib.hid (summed_two (a := a) (b := b) ⟨a0, by omega⟩ ⟨b0, by omega⟩)
  go_enter Try.func110, Try.ntmps110
  go_wp2_with (go_at_call 68; refine (l1Sum_any 2 [a, b] _ _ (litSL _ _ [a, b] _ rfl _ rfl (by simp)) (by decide) (by decide) Hs.out).mono ?_; rintro e w' ⟨rfl, rfl⟩)
  go_ret
  exact ⟨rfl, (.of (by repeat (first | exact Ext.refl _ | refine Ext.up ?_ _ | refine Ext.alloc ?_ _ | refine Ext.drew ?_ | refine Ext.setRow ?_ (by first | (dsimp only; omega) | exact LeS.le | exact LeS.add _ | (simp; done) | (simp; omega)) _ | refine Ext.setCell ?_ (by first | (dsimp only; omega) | exact LeS.le | exact LeS.add _ | (simp; done) | (simp; omega)) _)))⟩
theorem iNode_any (a b : Int) (v : Value) (w : World) (h : SL (RF encI) 1 w v [a, b]) (a0 : 0 ≤ a) (a1 : a < 1000003) (b0 : 0 ≤ b) (b1 : b < 1000003) :
    Calls Try.prog 42 #[.int .i64 2, v] w fun e w' => e = .returned (.int .i64 (nodeOf a b)) ∧ Up w w' := by
  have hs := sumOf_yes (tag := 2) (by decide) (by decide) (summed_two (a := a) (b := b) ⟨a0, by omega⟩ ⟨b0, by omega⟩)
  have h1 := sumOf_any 2 [a, b] v w h
  rw [hs] at h1
  exact h1
theorem fVV : AppFacts Try.prog 74 25 1 24 := by
  have h : (Try.prog.info? 25).map (fun i => (i.zero, i.size, i.bytes)) = some (some (.slice none 0 0), 1, 24) := by kernel_rfl
  obtain ⟨i0, hi, hz0, hz1, hz2⟩ := info_parts h
  exact ⟨Try.underlying74, ⟨i0, _, hi, hz0, hz1, hz2, rfl⟩, by decide⟩
set_option maxRecDepth 100000 in
set_option maxHeartbeats 800000 in
theorem levels_any (s : List Ent) (v : Value) (w : World) (h : SL (RF Ent.enc) 2 w v s) (hok : entsOk 1 s = true) :
    Calls Try.prog 50 #[v] w fun e w' => ∃ v' vs r, e = .returned v' ∧ Up w w' ∧ SL (RF encV) 1 w' v' vs ∧ vs.length = 6 ∧ vs[5]? = some r ∧ SL (RF encI) 1 w' r (treeRow (valsOf s) 5) := by
  have H := Lib.hid h; clear h
  have Hok := Lib.hid hok
  have hv := valsOf_in (entsOk_least (by decide) hok)
  clear hok
  go_enter Try.func50, Try.ntmps50
  go_wp2_with (go_at_call 45; refine (valuesOf_any 1 s _ _ H.out Hok.out).mono ?_; rintro e w' ⟨rfl, z0, rfl⟩)
  have Hvl := Lib.hid (valsOf_length s)
  generalize hV : valsOf s = V at hv Hvl
  go_loopw [3, 4, 5, 11] (fun s3 _ _ s11 wr => ∃ k : Nat, s11 = .int .i64 k ∧ k ≤ 32 ∧ Up w wr ∧ Own encI 3 1 w.heap.size wr s3 (leafTo V k)) (fun _ _ _ s11 _ => 32 - (intOf s11).toNat)
  case atStart => exact ⟨0, rfl, Nat.zero_le _, (.of (by repeat (first | exact Ext.refl _ | refine Ext.up ?_ _ | refine Ext.alloc ?_ _ | refine Ext.drew ?_ | refine Ext.setRow ?_ (by first | (dsimp only; omega) | exact LeS.le | exact LeS.add _ | (simp; done) | (simp; omega)) _ | refine Ext.setCell ?_ (by first | (dsimp only; omega) | exact LeS.le | exact LeS.add _ | (simp; done) | (simp; omega)) _))), Own.nil _ _ _ _ _⟩
  case round =>
    obtain ⟨k, rfl, hk, ⟨z, rfl⟩, hown⟩ := hrel
    by_cases hlt : k < 32
    · obtain ⟨x, hx⟩ := getElem?_some_of_lt (l := V) (k := k) (by rw [Hvl.out]; exact hlt)
      have hix := run_index_vA Try.underlying57 Try.underlying3 Try.sInt (i := (k : Int)) (by omega) (by omega) hx
      have hxin := hv.2 x (List.mem_of_getElem? hx)
      obtain ⟨x0, x1⟩ := hxin
      have k0 : (0 : Int) ≤ k := by omega
      have k1 : (k : Int) < 32 := by omega
      have hle : (leafTo V k).length ≤ 32 := by rw [leafTo_length]; omega
      have Hx := Lib.hid (getD_of hx)
      have Hown := Lib.hid hown
      clear hown hx
      go_wp2_with (first | (go_at_call 82; refine (iLeafSum_any (k : Int) x _ (by omega) (by omega) x0 x1).mono ?_; rintro e w' ⟨rfl, z1, rfl⟩) | (at_builtin; refine wpList_push1 fI rfl (.tmp 15) (.tmp 19) rfl encI w (leafOf (k : Int) x) (leafTo V k) rfl (Hown.out.up (by repeat (first | exact Ext.refl _ | refine Ext.up ?_ _ | refine Ext.alloc ?_ _ | refine Ext.drew ?_ | refine Ext.setRow ?_ (by first | (dsimp only; omega) | exact LeS.le | exact LeS.add _ | (simp; done) | (simp; omega)) _ | refine Ext.setCell ?_ (by first | (dsimp only; omega) | exact LeS.le | exact LeS.add _ | (simp; done) | (simp; omega)) _))) (by repeat (first | exact Ext.refl _ | refine Ext.up ?_ _ | refine Ext.alloc ?_ _ | refine Ext.drew ?_ | refine Ext.setRow ?_ (by first | (dsimp only; omega) | exact LeS.le | exact LeS.add _ | (simp; done) | (simp; omega)) _ | refine Ext.setCell ?_ (by first | (dsimp only; omega) | exact LeS.le | exact LeS.add _ | (simp; done) | (simp; omega)) _)) rfl (by go_simp) rfl rfl (oneI _) (by omega) (by omega) ?_; intro v1 z2 hown1))
      have hown2 := Lib.hid hown1; clear hown1
      go_wp2_with fail
      go_roundw
      case rel => exact ⟨k + 1, by go_num, by omega, (.of (by repeat (first | exact Ext.refl _ | refine Ext.up ?_ _ | refine Ext.alloc ?_ _ | refine Ext.drew ?_ | refine Ext.setRow ?_ (by first | (dsimp only; omega) | exact LeS.le | exact LeS.add _ | (simp; done) | (simp; omega)) _ | refine Ext.setCell ?_ (by first | (dsimp only; omega) | exact LeS.le | exact LeS.add _ | (simp; done) | (simp; omega)) _))), by rw [leafTo, Hx.out]; exact hown2.out⟩
      case measure => simp [intOf]; omega
    · obtain rfl : k = 32 := by omega
      obtain ⟨p3, c3, rfl, _, _⟩ := (hown.sl encI_length).openc
      rw [show ((32 : Nat) : Int) = 32 from rfl]
      clear hk hlt
      have hlen : (leafTo V 32).length = 32 := leafTo_length V 32
      rw [hlen] at hown ⊢
      have Hown := Lib.hid hown; clear hown hlen
      go_wp2_with fail
      go_loopw [3, 6, 7, 8, 24] (fun s3 s6 _ _ s24 wr => ∃ (n : Nat) (vs : List Value), s24 = .int .i64 n ∧ n ≤ 5 ∧ Up w wr ∧ Own encV 25 1 w.heap.size wr s6 vs ∧ vs.length = n + 1 ∧ vs[n]? = some s3 ∧ Own encI 3 1 w.heap.size wr s3 (treeRow V n) ∧ Apart s3 s6) (fun _ _ _ _ s24 _ => 5 - (intOf s24).toNat)
      case atStart => exact ⟨0, [.slice p3 32 c3], rfl, Nat.zero_le _, (.of (by repeat (first | exact Ext.refl _ | refine Ext.up ?_ _ | refine Ext.alloc ?_ _ | refine Ext.drew ?_ | refine Ext.setRow ?_ (by first | (dsimp only; omega) | exact LeS.le | exact LeS.add _ | (simp; done) | (simp; omega)) _ | refine Ext.setCell ?_ (by first | (dsimp only; omega) | exact LeS.le | exact LeS.add _ | (simp; done) | (simp; omega)) _))), Own.lit rfl LeS.le rfl rfl encV_length (by simp), rfl, rfl, Hown.out.up (by repeat (first | exact Ext.refl _ | refine Ext.up ?_ _ | refine Ext.alloc ?_ _ | refine Ext.drew ?_ | refine Ext.setRow ?_ (by first | (dsimp only; omega) | exact LeS.le | exact LeS.add _ | (simp; done) | (simp; omega)) _ | refine Ext.setCell ?_ (by first | (dsimp only; omega) | exact LeS.le | exact LeS.add _ | (simp; done) | (simp; omega)) _)), Apart.lit Hown.out (Nat.le_refl _)⟩
      case round =>
        obtain ⟨n, vs, rfl, hn, ⟨z2, rfl⟩, ho6, hvl, hvn, ho3, hap⟩ := hrel
        obtain ⟨p4, c4, rfl, h4a, h4b⟩ := (ho3.sl encI_length).openc
        have hrl := treeRow_length V n (by omega)
        have hin := treeRow_in V n
        generalize hR : treeRow V n = row at *
        have HR := Lib.hid hR; have Hrl := Lib.hid hrl; have Hin := Lib.hid hin; have Hvl2 := Lib.hid hvl; have Hvn := Lib.hid hvn; have O3 := Lib.hid ho3; have O6 := Lib.hid ho6; have Hap := Lib.hid hap
        clear hR hrl hin hvl hvn ho3 ho6 hap
        by_cases hnt : n < 5
        · have hnt2 : decide ((n : Int) < 5) = true := by simp; omega
          have Hev := Lib.hid (show row.length = 2 * (row.length / 2) by rw [← HR.out]; exact treeRow_even V hnt)
          go_wp2_with fail
          clear hnt2
          go_loopw [7, 8] (fun s7 s8 wr => ∃ (j k : Nat), s8 = .int .i64 j ∧ j = 2 * k ∧ j ≤ row.length ∧ Up w wr ∧ Own encV 25 1 w.heap.size wr u6 vs ∧ Own encI 3 1 w.heap.size wr (.slice p4 row.length c4) row ∧ Own encI 3 1 w.heap.size wr s7 (upTo2 row k) ∧ Apart s7 (.slice p4 row.length c4) ∧ Apart s7 u6) (fun _ s8 _ => row.length - (intOf s8).toNat)
          case atStart => exact ⟨0, 0, rfl, rfl, Nat.zero_le _, ⟨z2, rfl⟩, O6.out, O3.out, Own.nil _ _ _ _ _, Apart.nil _ _ _, Apart.nil _ _ _⟩
          case round =>
            obtain ⟨j, k, rfl, hjk, hj, ⟨z5, rfl⟩, q6, q3, q7, ap3, ap6⟩ := hrel
            have Hjk := Lib.hid hjk; have Q6 := Lib.hid q6; have Q3 := Lib.hid q3; have Q7 := Lib.hid q7; have A3 := Lib.hid ap3; have A6 := Lib.hid ap6
            clear hjk q6 q3 q7 ap3 ap6
            by_cases hjt : j < row.length
            · have hjt2 : decide ((j : Int) < (row.length : Int)) = true := by simpa using hjt
              obtain ⟨a, ha⟩ := getElem?_some_of_lt hjt
              obtain ⟨b, hb⟩ := getElem?_some_of_lt (show j + 1 < row.length by have := Hev.out; have := Hjk.out; omega)
              have hsub : (row.drop j).take 2 = [a, b] := by
                apply List.ext_getElem?
                intro q
                match q with
                | 0 => simp [ha]
                | 1 => simp [hb]
                | q + 2 => simp; omega
              obtain ⟨a0, a1⟩ := Hin.out a (List.mem_of_getElem? ha)
              obtain ⟨b0, b1⟩ := Hin.out b (List.mem_of_getElem? hb)
              have Hn := Lib.hid (show upTo2 row (k + 1) = upTo2 row k ++ [nodeOf a b] by rw [upTo2, ← Hjk.out, getD_of ha, getD_of hb])
              have Hsub := Lib.hid hsub
              obtain ⟨p9, c9, e9, _, hc9⟩ := (Q3.out.sl encI_length).open
              cases e9
              obtain ⟨g4, off4, hp4, _, _⟩ := hc9 j a ha
              subst hp4
              clear hc9
              have hjr : j + 2 ≤ row.length := by have := Hev.out; have := Hjk.out; omega
              have s0 : (0 : Int) ≤ (j : Int) := by omega
              have s1 : (j : Int) ≤ (j : Int) + 2 := by omega
              have s2 : (j : Int) + 2 ≤ (c4 : Int) := by omega
              have s3 : (j : Int) + 2 ≤ 9223372036854775807 := by omega
              have s4 : ((j : Int) + 2).toNat = j + 2 := by omega
              have Hsl := Lib.hid (show SL (RF encI) 1 z5.val (.slice (some ⟨g4, off4 + j, none⟩) 2 (c4 - j)) [a, b] by have h := SL.sub (Q3.out.sl encI_length) (i := j) (m := 2) (by omega) (cap' := c4 - j) (by omega); rw [Nat.mul_one, Hsub.out] at h; exact h)
              have Hlen := Lib.hid (show (upTo2 row k).length ≤ 32 by rw [upTo2_length]; have := Hrl.out; have h2 : 32 / 2 ^ n ≤ 32 := Nat.div_le_self _ _; have := Hjk.out; omega)
              clear ha hb hsub
              go_wp2_with (first | (go_at_call 42; refine (iNode_any a b _ _ Hsl.out a0 a1 b0 b1).mono ?_; rintro e w' ⟨rfl, z6, rfl⟩) | (at_builtin; refine wpList_pushG fI rfl (.tmp 32) (.tmp 39) rfl encI encI_length w [nodeOf a b] (upTo2 row k) rfl (Q7.out.up (by repeat (first | exact Ext.refl _ | refine Ext.up ?_ _ | refine Ext.alloc ?_ _ | refine Ext.drew ?_ | refine Ext.setRow ?_ (by first | (dsimp only; omega) | exact LeS.le | exact LeS.add _ | (simp; done) | (simp; omega)) _ | refine Ext.setCell ?_ (by first | (dsimp only; omega) | exact LeS.le | exact LeS.add _ | (simp; done) | (simp; omega)) _))) (by repeat (first | exact Ext.refl _ | refine Ext.up ?_ _ | refine Ext.alloc ?_ _ | refine Ext.drew ?_ | refine Ext.setRow ?_ (by first | (dsimp only; omega) | exact LeS.le | exact LeS.add _ | (simp; done) | (simp; omega)) _ | refine Ext.setCell ?_ (by first | (dsimp only; omega) | exact LeS.le | exact LeS.add _ | (simp; done) | (simp; omega)) _)) (Nat.le_refl _) LeS.le rfl rfl rfl rfl (oneIs _) (by have := Hlen.out; simp; omega) (by have := Hlen.out; simp; omega) ?_; intro v7 z7 o7 g7 b7))
              have N7 := Lib.hid o7; have N6 := Lib.hid (Own.keep (Q6.out.up (by repeat (first | exact Ext.refl _ | refine Ext.up ?_ _ | refine Ext.alloc ?_ _ | refine Ext.drew ?_ | refine Ext.setRow ?_ (by first | (dsimp only; omega) | exact LeS.le | exact LeS.add _ | (simp; done) | (simp; omega)) _ | refine Ext.setCell ?_ (by first | (dsimp only; omega) | exact LeS.le | exact LeS.add _ | (simp; done) | (simp; omega)) _))) g7 A6.out.symm); have N3 := Lib.hid (Own.keep (Q3.out.up (by repeat (first | exact Ext.refl _ | refine Ext.up ?_ _ | refine Ext.alloc ?_ _ | refine Ext.drew ?_ | refine Ext.setRow ?_ (by first | (dsimp only; omega) | exact LeS.le | exact LeS.add _ | (simp; done) | (simp; omega)) _ | refine Ext.setCell ?_ (by first | (dsimp only; omega) | exact LeS.le | exact LeS.add _ | (simp; done) | (simp; omega)) _))) g7 A3.out.symm)
              have B3 := Lib.hid (Apart.grown (w := World.alloc _ _) (Q3.out.up (by repeat (first | exact Ext.refl _ | refine Ext.up ?_ _ | refine Ext.alloc ?_ _ | refine Ext.drew ?_ | refine Ext.setRow ?_ (by first | (dsimp only; omega) | exact LeS.le | exact LeS.add _ | (simp; done) | (simp; omega)) _ | refine Ext.setCell ?_ (by first | (dsimp only; omega) | exact LeS.le | exact LeS.add _ | (simp; done) | (simp; omega)) _))) A3.out.symm (Nat.le_refl _) b7).symm
              have B6 := Lib.hid (Apart.grown (w := World.alloc _ _) (Q6.out.up (by repeat (first | exact Ext.refl _ | refine Ext.up ?_ _ | refine Ext.alloc ?_ _ | refine Ext.drew ?_ | refine Ext.setRow ?_ (by first | (dsimp only; omega) | exact LeS.le | exact LeS.add _ | (simp; done) | (simp; omega)) _ | refine Ext.setCell ?_ (by first | (dsimp only; omega) | exact LeS.le | exact LeS.add _ | (simp; done) | (simp; omega)) _))) A6.out.symm (Nat.le_refl _) b7).symm
              clear o7 g7 b7
              go_wp2_with fail
              go_roundw
              case rel => exact ⟨j + 2, k + 1, by go_num, by have := Hjk.out; omega, by omega, ⟨z7, rfl⟩, N6.out, N3.out, by rw [Hn.out]; exact N7.out, B3.out, B6.out⟩
              case measure => simp [intOf]; omega
            · have hjt2 : decide ((j : Int) < (row.length : Int)) = false := by simpa using hjt
              have Hke := Lib.hid (show upTo2 row k = treeRow V (n + 1) by
                rw [treeRow, HR.out, lvlUp]
                congr 1
                have := Hjk.out; have := Hev.out; omega)
              generalize hU : upTo2 row k = U at *
              have HU := Lib.hid hU; clear hU
              obtain ⟨p7, c7, rfl, _, _⟩ := (Q7.out.sl encI_length).openc
              have Hvs := Lib.hid (show vs.length ≤ 5 by have := Hvl2.out; omega)
              go_wp2_with (at_builtin; refine wpList_pushG fVV rfl (.tmp 41) (.tmp 43) rfl encV encV_length w [.slice p7 U.length c7] vs rfl (Q6.out.up (by repeat (first | exact Ext.refl _ | refine Ext.up ?_ _ | refine Ext.alloc ?_ _ | refine Ext.drew ?_ | refine Ext.setRow ?_ (by first | (dsimp only; omega) | exact LeS.le | exact LeS.add _ | (simp; done) | (simp; omega)) _ | refine Ext.setCell ?_ (by first | (dsimp only; omega) | exact LeS.le | exact LeS.add _ | (simp; done) | (simp; omega)) _))) (by repeat (first | exact Ext.refl _ | refine Ext.up ?_ _ | refine Ext.alloc ?_ _ | refine Ext.drew ?_ | refine Ext.setRow ?_ (by first | (dsimp only; omega) | exact LeS.le | exact LeS.add _ | (simp; done) | (simp; omega)) _ | refine Ext.setCell ?_ (by first | (dsimp only; omega) | exact LeS.le | exact LeS.add _ | (simp; done) | (simp; omega)) _)) (Nat.le_refl _) LeS.le rfl rfl rfl rfl (by simp [encV, Value.oneCell']) (by have := Hvs.out; simp; omega) (by have := Hvs.out; simp; omega) ?_; intro v8 z8 o8 g8 b8)
              have N8 := Lib.hid o8; have N7 := Lib.hid (Own.keep (Q7.out.up (by repeat (first | exact Ext.refl _ | refine Ext.up ?_ _ | refine Ext.alloc ?_ _ | refine Ext.drew ?_ | refine Ext.setRow ?_ (by first | (dsimp only; omega) | exact LeS.le | exact LeS.add _ | (simp; done) | (simp; omega)) _ | refine Ext.setCell ?_ (by first | (dsimp only; omega) | exact LeS.le | exact LeS.add _ | (simp; done) | (simp; omega)) _))) g8 A6.out)
              have B8 := Lib.hid (Apart.grown (w := World.alloc _ _) (Q7.out.up (by repeat (first | exact Ext.refl _ | refine Ext.up ?_ _ | refine Ext.alloc ?_ _ | refine Ext.drew ?_ | refine Ext.setRow ?_ (by first | (dsimp only; omega) | exact LeS.le | exact LeS.add _ | (simp; done) | (simp; omega)) _ | refine Ext.setCell ?_ (by first | (dsimp only; omega) | exact LeS.le | exact LeS.add _ | (simp; done) | (simp; omega)) _))) A6.out (Nat.le_refl _) b8)
              clear o8 g8 b8
              go_wp2_with fail
              go_roundw
              case rel => exact ⟨n + 1, vs ++ [.slice p7 U.length c7], by go_num, by omega, ⟨z8, rfl⟩, N8.out, by have := Hvl2.out; simp; omega, by rw [List.getElem?_append_right (by rw [Hvl2.out]; exact Nat.le_refl _), Hvl2.out]; simp, by rw [← Hke.out]; exact N7.out, B8.out⟩
              case measure => simp [intOf]; omega
        · obtain rfl : n = 5 := by omega
          have e5 : decide (((5 : Nat) : Int) < 5) = false := rfl
          go_wp2_with fail
          go_ret
          refine ⟨_, vs, .slice p4 row.length c4, rfl, ⟨z2, rfl⟩, O6.out.sl encV_length, Hvl2.out, Hvn.out, ?_⟩
          rw [hV, HR.out]
          exact O3.out.sl encI_length
theorem row5_one (v : List Int) : (treeRow v 5)[0]? = some (rootV v) := by
  have h : (treeRow v 5).length = 1 := treeRow_length v 5 (by decide)
  obtain ⟨x, hx⟩ := getElem?_some_of_lt (l := treeRow v 5) (k := 0) (by omega)
  rw [rootV, getD_of hx, hx]
set_option maxHeartbeats 800000 in
theorem iRootOf_any (s : List Ent) (v : Value) (w : World) (h : SL (RF Ent.enc) 2 w v s) :
    Calls Try.prog 19 #[v] w fun e w' => e = .returned (.int .i64 (rootOf s)) ∧ Up w w' := by
  have H := Lib.hid h; clear h
  rcases hok : entsOk 1 s with _ | _
  · rw [rootOf_no hok]
    go_enter Try.func19, Try.ntmps19
    go_wp2_with (go_at_call 14; refine (iStoreValid_any s _ _ H.out).mono ?_; rintro e w' ⟨rfl, z1, rfl⟩)
    go_ret
    exact ⟨rfl, (.of (by repeat (first | exact Ext.refl _ | refine Ext.up ?_ _ | refine Ext.alloc ?_ _ | refine Ext.drew ?_ | refine Ext.setRow ?_ (by first | (dsimp only; omega) | exact LeS.le | exact LeS.add _ | (simp; done) | (simp; omega)) _ | refine Ext.setCell ?_ (by first | (dsimp only; omega) | exact LeS.le | exact LeS.add _ | (simp; done) | (simp; omega)) _)))⟩
  · rw [rootOf_yes hok]
    have Hok := Lib.hid hok
    go_enter Try.func19, Try.ntmps19
    go_wp2_with fail
    refine (iStoreValid_any s _ _ H.out).mono ?_; rintro e w' ⟨rfl, z1, rfl⟩
    rw [Hok.out]
    go_wp2_with fail
    refine (levels_any s _ _ (H.out.up (by repeat (first | exact Ext.refl _ | refine Ext.up ?_ _ | refine Ext.alloc ?_ _ | refine Ext.drew ?_ | refine Ext.setRow ?_ (by first | (dsimp only; omega) | exact LeS.le | exact LeS.add _ | (simp; done) | (simp; omega)) _ | refine Ext.setCell ?_ (by first | (dsimp only; omega) | exact LeS.le | exact LeS.add _ | (simp; done) | (simp; omega)) _))) Hok.out).mono ?_; rintro e w' ⟨v', vs, r, rfl, ⟨z2, rfl⟩, hvs, hl, hr, hsr⟩
    obtain ⟨pv, cv, rfl, _, hcv⟩ := hvs.open
    obtain ⟨pr, cr, rfl, _, hcr⟩ := hsr.open
    obtain ⟨g1, off1, rfl, hL1, hc1⟩ := hcv 5 _ hr
    obtain ⟨g2, off2, rfl, hL2, hc2⟩ := hcr 0 _ (row5_one (valsOf s))
    have d1 : z2.val.cell? ⟨g1, off1 + 5, none⟩ = some (.slice (some ⟨g2, off2, none⟩) (treeRow (valsOf s) 5).length cr) := by have := hc1 0 _ rfl; simpa using this
    have d2 : z2.val.cell? ⟨g2, off2, none⟩ = some (.int .i64 (rootV (valsOf s))) := by have := hc2 0 _ rfl; simpa using this
    have hlen : (treeRow (valsOf s) 5).length = 1 := treeRow_length _ 5 (by decide)
    rw [hlen] at d1
    clear hcv hcr hc1 hc2 hr hvs hsr hlen
    rw [hl]
    clear hl
    go_wp2_with fail
    go_ret
    exact ⟨rfl, (.of (by repeat (first | exact Ext.refl _ | refine Ext.up ?_ _ | refine Ext.alloc ?_ _ | refine Ext.drew ?_ | refine Ext.setRow ?_ (by first | (dsimp only; omega) | exact LeS.le | exact LeS.add _ | (simp; done) | (simp; omega)) _ | refine Ext.setCell ?_ (by first | (dsimp only; omega) | exact LeS.le | exact LeS.add _ | (simp; done) | (simp; omega)) _)))⟩
set_option maxRecDepth 100000 in
set_option maxHeartbeats 800000 in
theorem l3Level_any (s : List Ent) (v : Value) (w : World) (h : SL (RF Ent.enc) 2 w v s) (hok : entsOk 1 s = true) :
    Calls Try.prog 87 #[v, .int .i64 5] w fun e w' => ∃ v', e = .returned v' ∧ Up w w' ∧ Own encI 3 1 w.heap.size w' v' (treeRow (valsOf s) 5) := by
  have H := Lib.hid h; clear h
  have Hok := Lib.hid hok
  have hv := valsOf_in (entsOk_least (by decide) hok)
  have Hvl := Lib.hid (valsOf_length s)
  have Hv := Lib.hid hv
  have Hat := Lib.hid (fun n hn => valsOf_getD (n := n) hok hn)
  clear hok hv
  go_enter Try.func87, Try.ntmps87
  go_wp2_with fail
  go_loopw [5, 6] (fun s5 s6 wr => ∃ k : Nat, s6 = .int .i64 k ∧ k ≤ 32 ∧ Up w wr ∧ Own encI 3 1 w.heap.size wr s5 (leafTo (valsOf s) k)) (fun _ s6 _ => 32 - (intOf s6).toNat)
  case atStart => exact ⟨0, rfl, Nat.zero_le _, (.of (by repeat (first | exact Ext.refl _ | refine Ext.up ?_ _ | refine Ext.alloc ?_ _ | refine Ext.drew ?_ | refine Ext.setRow ?_ (by first | (dsimp only; omega) | exact LeS.le | exact LeS.add _ | (simp; done) | (simp; omega)) _ | refine Ext.setCell ?_ (by first | (dsimp only; omega) | exact LeS.le | exact LeS.add _ | (simp; done) | (simp; omega)) _))), Own.lit rfl LeS.le rfl rfl encI_length (Nat.zero_le _)⟩
  case round =>
    obtain ⟨k, rfl, hk, ⟨z, rfl⟩, hown⟩ := hrel
    by_cases hlt : k < 32
    · have hd : decide ((k : Int) ≤ 31) = true := by simp; omega
      have Hx := Lib.hid (Hat.out k hlt)
      have hxin := valsIn_get Hv.out k
      rw [Hat.out k hlt] at hxin
      obtain ⟨x0, x1⟩ := hxin
      have Hle := Lib.hid (show (leafTo (valsOf s) k).length ≤ 32 by rw [leafTo_length]; omega)
      have Hown := Lib.hid hown
      clear hown
      go_wp2_with (first | (go_at_call 98; refine (l2At_any s _ (k : Int) _ (H.out.up (by repeat (first | exact Ext.refl _ | refine Ext.up ?_ _ | refine Ext.alloc ?_ _ | refine Ext.drew ?_ | refine Ext.setRow ?_ (by first | (dsimp only; omega) | exact LeS.le | exact LeS.add _ | (simp; done) | (simp; omega)) _ | refine Ext.setCell ?_ (by first | (dsimp only; omega) | exact LeS.le | exact LeS.add _ | (simp; done) | (simp; omega)) _)))).mono ?_; rintro e w' ⟨rfl, rfl⟩) | (go_at_call 109; refine (sLeafSum_any (k : Int) (atK s k) _ (by omega) (by omega) x0 x1).mono ?_; rintro e w' ⟨rfl, z1, rfl⟩) | (at_builtin; refine wpList_push1 fI rfl (.tmp 15) (.tmp 21) rfl encI w (leafOf (k : Int) (atK s k)) (leafTo (valsOf s) k) rfl (Hown.out.up (by repeat (first | exact Ext.refl _ | refine Ext.up ?_ _ | refine Ext.alloc ?_ _ | refine Ext.drew ?_ | refine Ext.setRow ?_ (by first | (dsimp only; omega) | exact LeS.le | exact LeS.add _ | (simp; done) | (simp; omega)) _ | refine Ext.setCell ?_ (by first | (dsimp only; omega) | exact LeS.le | exact LeS.add _ | (simp; done) | (simp; omega)) _))) (by repeat (first | exact Ext.refl _ | refine Ext.up ?_ _ | refine Ext.alloc ?_ _ | refine Ext.drew ?_ | refine Ext.setRow ?_ (by first | (dsimp only; omega) | exact LeS.le | exact LeS.add _ | (simp; done) | (simp; omega)) _ | refine Ext.setCell ?_ (by first | (dsimp only; omega) | exact LeS.le | exact LeS.add _ | (simp; done) | (simp; omega)) _)) rfl (by go_simp) rfl rfl (oneI _) (by have := Hle.out; omega) (by have := Hle.out; omega) ?_; intro v1 z2 hown1))
      have hown2 := Lib.hid hown1; clear hown1
      go_wp2_with fail
      go_roundw
      case rel => exact ⟨k + 1, by go_num, by omega, (.of (by repeat (first | exact Ext.refl _ | refine Ext.up ?_ _ | refine Ext.alloc ?_ _ | refine Ext.drew ?_ | refine Ext.setRow ?_ (by first | (dsimp only; omega) | exact LeS.le | exact LeS.add _ | (simp; done) | (simp; omega)) _ | refine Ext.setCell ?_ (by first | (dsimp only; omega) | exact LeS.le | exact LeS.add _ | (simp; done) | (simp; omega)) _))), by rw [leafTo, Hx.out]; exact hown2.out⟩
      case measure => simp [intOf]; omega
    · obtain rfl : k = 32 := by omega
      have hd : decide (((32 : Nat) : Int) ≤ 31) = false := rfl
      have Hown := Lib.hid hown; clear hown
      rw [show ((32 : Nat) : Int) = 32 from rfl]
      clear hk hlt
      go_wp2_with fail
      clear hd
      go_loopw [5, 7, 8, 9] (fun s5 s7 _ _ wr => ∃ (n : Nat), s7 = .int .i64 n ∧ n ≤ 5 ∧ Up w wr ∧ Own encI 3 1 w.heap.size wr s5 (treeRow (valsOf s) n)) (fun _ s7 _ _ _ => 5 - (intOf s7).toNat)
      case atStart => exact ⟨0, rfl, Nat.zero_le _, ⟨z, rfl⟩, Hown.out⟩
      case round =>
        obtain ⟨n, rfl, hn, ⟨z2, rfl⟩, ho3⟩ := hrel
        obtain ⟨p4, c4, rfl, h4a, h4b⟩ := (ho3.sl encI_length).openc
        have hrl := treeRow_length (valsOf s) n (by omega)
        have hin := treeRow_in (valsOf s) n
        generalize hR : treeRow (valsOf s) n = row at *
        have HR := Lib.hid hR; have Hrl := Lib.hid hrl; have Hin := Lib.hid hin; have O3 := Lib.hid ho3
        clear hR hrl hin ho3
        by_cases hnt : n < 5
        · have hnt2 : decide ((n : Int) < 5) = true := by simp; omega
          have Hev := Lib.hid (show row.length = 2 * (row.length / 2) by rw [← HR.out]; exact treeRow_even (valsOf s) hnt)
          go_wp2_with fail
          clear hnt2
          go_loopw [8, 9] (fun s8 s9 wr => ∃ (j k : Nat), s9 = .int .i64 j ∧ j = 2 * k ∧ j ≤ row.length ∧ Up w wr ∧ Own encI 3 1 w.heap.size wr (.slice p4 row.length c4) row ∧ Own encI 3 1 w.heap.size wr s8 (upTo2 row k) ∧ Apart s8 (.slice p4 row.length c4)) (fun _ s9 _ => row.length - (intOf s9).toNat)
          case atStart => exact ⟨0, 0, rfl, rfl, Nat.zero_le _, (.of (by repeat (first | exact Ext.refl _ | refine Ext.up ?_ _ | refine Ext.alloc ?_ _ | refine Ext.drew ?_ | refine Ext.setRow ?_ (by first | (dsimp only; omega) | exact LeS.le | exact LeS.add _ | (simp; done) | (simp; omega)) _ | refine Ext.setCell ?_ (by first | (dsimp only; omega) | exact LeS.le | exact LeS.add _ | (simp; done) | (simp; omega)) _))), O3.out.up (by repeat (first | exact Ext.refl _ | refine Ext.up ?_ _ | refine Ext.alloc ?_ _ | refine Ext.drew ?_ | refine Ext.setRow ?_ (by first | (dsimp only; omega) | exact LeS.le | exact LeS.add _ | (simp; done) | (simp; omega)) _ | refine Ext.setCell ?_ (by first | (dsimp only; omega) | exact LeS.le | exact LeS.add _ | (simp; done) | (simp; omega)) _)), Own.lit rfl LeS.le rfl rfl encI_length (Nat.zero_le _), (Apart.lit O3.out (Nat.le_refl _)).symm⟩
          case round =>
            obtain ⟨j, k, rfl, hjk, hj, ⟨z5, rfl⟩, q3, q7, ap3⟩ := hrel
            have Hjk := Lib.hid hjk; have Q3 := Lib.hid q3; have Q7 := Lib.hid q7; have A3 := Lib.hid ap3
            clear hjk q3 q7 ap3
            by_cases hjt : j < row.length
            · have hj2 : j + 1 < row.length := by have := Hev.out; have := Hjk.out; omega
              have hjt2 : decide ((j : Int) + 1 < (row.length : Int)) = true := by simp; omega
              obtain ⟨a, ha⟩ := getElem?_some_of_lt hjt
              obtain ⟨b, hb⟩ := getElem?_some_of_lt hj2
              obtain ⟨a0, a1⟩ := Hin.out a (List.mem_of_getElem? ha)
              obtain ⟨b0, b1⟩ := Hin.out b (List.mem_of_getElem? hb)
              have Hn := Lib.hid (show upTo2 row (k + 1) = upTo2 row k ++ [nodeOf a b] by rw [upTo2, ← Hjk.out, getD_of ha, getD_of hb])
              obtain ⟨p9, c9, e9, _, hc9⟩ := (Q3.out.sl encI_length).open
              cases e9
              obtain ⟨g4, off4, hp4, hL4, hca⟩ := hc9 j a ha
              subst hp4
              obtain ⟨g5, off5, hp5, _, hcb⟩ := hc9 (j + 1) b hb
              simp only [Option.some.injEq, Addr.mk.injEq, and_true] at hp5
              obtain ⟨rfl, rfl⟩ := hp5
              have ca : z5.val.cell? ⟨g4, off4 + j, none⟩ = some (.int .i64 a) := by have := hca 0 _ rfl; simpa using this
              have cb : z5.val.cell? ⟨g4, off4 + (j + 1), none⟩ = some (.int .i64 b) := by have := hcb 0 _ rfl; simpa using this
              have s0 : (0 : Int) ≤ (j : Int) := by omega
              have s1 : (j : Int) < (row.length : Int) := by omega
              have s2 : (j : Int) + 1 < (row.length : Int) := by omega
              have s3 : (0 : Int) ≤ (j : Int) + 1 := by omega
              have s4 : ((j : Int) + 1).toNat = j + 1 := by omega
              have s5 : IntKind.i64.wrap ((j : Int) + 1) = (j : Int) + 1 := IntWalk.i64_in _ (by omega)
              have Hlen := Lib.hid (show (upTo2 row k).length ≤ 32 by rw [upTo2_length]; have := Hrl.out; have h2 : 32 / 2 ^ n ≤ 32 := Nat.div_le_self _ _; have := Hjk.out; omega)
              have Ha := Lib.hid ha; have Hb := Lib.hid hb
              clear ha hb hc9 hca hcb
              go_wp2_with fail
              go_region_held3 (fun w' => w'.cell? ⟨g4, off4 + j, none⟩ = some (.int .i64 a) ∧ w'.cell? ⟨g4, off4 + (j + 1), none⟩ = some (.int .i64 b) ∧ Ext w w')
                ((first | exact ⟨c7a, c7b, z7.ext⟩ | (refine ⟨by go_simp, by go_simp, ?_⟩; repeat (first | exact Ext.refl _ | refine Ext.up ?_ _ | refine Ext.alloc ?_ _ | refine Ext.drew ?_ | refine Ext.setRow ?_ (by first | (dsimp only; omega) | exact LeS.le | exact LeS.add _ | (simp; done) | (simp; omega)) _ | refine Ext.setCell ?_ (by first | (dsimp only; omega) | exact LeS.le | exact LeS.add _ | (simp; done) | (simp; omega)) _))))
                (first | (go_at_call 110; refine (l3Node_any a b _ a0 a1 b0 b1).mono ?_; rintro e w' ⟨rfl, z6, rfl⟩) | ((refine step_pushG fI (by rfl) (.tmp 36) (.tmp 47) (by rfl) encI encI_length w [nodeOf a b] (upTo2 row k) (by rfl) (by rfl) (heap_alloc_new _ _) (Q7.out.up (by repeat (first | exact Ext.refl _ | refine Ext.up ?_ _ | refine Ext.alloc ?_ _ | refine Ext.drew ?_ | refine Ext.setRow ?_ (by first | (dsimp only; omega) | exact LeS.le | exact LeS.add _ | (simp; done) | (simp; omega)) _ | refine Ext.setCell ?_ (by first | (dsimp only; omega) | exact LeS.le | exact LeS.add _ | (simp; done) | (simp; omega)) _))) (by repeat (first | exact Ext.refl _ | refine Ext.up ?_ _ | refine Ext.alloc ?_ _ | refine Ext.drew ?_ | refine Ext.setRow ?_ (by first | (dsimp only; omega) | exact LeS.le | exact LeS.add _ | (simp; done) | (simp; omega)) _ | refine Ext.setCell ?_ (by first | (dsimp only; omega) | exact LeS.le | exact LeS.add _ | (simp; done) | (simp; omega)) _)) (Nat.le_refl _) LeS.le (by rfl) (by decide) (by rfl) (oneIs _) (by have := Hlen.out; simp; omega) (by have := Hlen.out; simp; omega) ?_; intro v7 z7 o7 g7 b7; have n3 := Own.keep (Q3.out.up (by repeat (first | exact Ext.refl _ | refine Ext.up ?_ _ | refine Ext.alloc ?_ _ | refine Ext.drew ?_ | refine Ext.setRow ?_ (by first | (dsimp only; omega) | exact LeS.le | exact LeS.add _ | (simp; done) | (simp; omega)) _ | refine Ext.setCell ?_ (by first | (dsimp only; omega) | exact LeS.le | exact LeS.add _ | (simp; done) | (simp; omega)) _))) g7 A3.out.symm; have c7a := Own.cellI n3 Ha.out; have c7b := Own.cellI n3 Hb.out; have N3 := Lib.hid n3; have N7 := Lib.hid o7; have B3 := Lib.hid (Apart.grown (w := World.alloc _ _) (Q3.out.up (by repeat (first | exact Ext.refl _ | refine Ext.up ?_ _ | refine Ext.alloc ?_ _ | refine Ext.drew ?_ | refine Ext.setRow ?_ (by first | (dsimp only; omega) | exact LeS.le | exact LeS.add _ | (simp; done) | (simp; omega)) _ | refine Ext.setCell ?_ (by first | (dsimp only; omega) | exact LeS.le | exact LeS.add _ | (simp; done) | (simp; omega)) _))) A3.out.symm (Nat.le_refl _) b7).symm; clear n3 o7 g7 b7)))
              clear hjt2
              go_wp2_with fail
              go_roundw
              case rel => exact ⟨j + 2, k + 1, by go_num, by have := Hjk.out; omega, by omega, ⟨z7, rfl⟩, N3.out, by rw [Hn.out]; exact N7.out, B3.out⟩
              case measure => simp [intOf]; omega
            · have hj2 : ¬ j + 1 < row.length := by omega
              have hjt2 : decide ((j : Int) + 1 < (row.length : Int)) = false := by simp; omega
              have Hke := Lib.hid (show upTo2 row k = treeRow (valsOf s) (n + 1) by
                rw [treeRow, HR.out, lvlUp]
                congr 1
                have := Hjk.out; have := Hev.out; omega)
              have hj64 : (j : Int) + 1 ≤ 9223372036854775807 := by have := Hrl.out; have h2 : 32 / 2 ^ n ≤ 32 := Nat.div_le_self _ _; omega
              go_wp2_with fail
              go_roundw
              case rel => exact ⟨n + 1, by go_num, by omega, ⟨z5, rfl⟩, by rw [← Hke.out]; exact Q7.out⟩
              case measure => simp [intOf]; omega
        · obtain rfl : n = 5 := by omega
          have e5 : decide (((5 : Nat) : Int) < 5) = false := rfl
          go_wp2_with fail
          go_ret
          refine ⟨_, rfl, ⟨z2, rfl⟩, ?_⟩
          rw [HR.out]
          exact O3.out
set_option maxHeartbeats 800000 in
theorem sRootOf_any (s : List Ent) (v : Value) (w : World) (h : SL (RF Ent.enc) 2 w v s) :
    Calls Try.prog 56 #[v] w fun e w' => e = .returned (.int .i64 (rootOf s)) ∧ Up w w' := by
  have H := Lib.hid h; clear h
  rcases hok : entsOk 1 s with _ | _
  · rw [rootOf_no hok]
    go_enter Try.func56, Try.ntmps56
    go_wp2_with (go_at_call 35; refine (sStoreValid_any s _ _ H.out).mono ?_; rintro e w' ⟨rfl, z1, rfl⟩)
    go_ret
    exact ⟨rfl, (.of (by repeat (first | exact Ext.refl _ | refine Ext.up ?_ _ | refine Ext.alloc ?_ _ | refine Ext.drew ?_ | refine Ext.setRow ?_ (by first | (dsimp only; omega) | exact LeS.le | exact LeS.add _ | (simp; done) | (simp; omega)) _ | refine Ext.setCell ?_ (by first | (dsimp only; omega) | exact LeS.le | exact LeS.add _ | (simp; done) | (simp; omega)) _)))⟩
  · rw [rootOf_yes hok]
    have Hok := Lib.hid hok
    go_enter Try.func56, Try.ntmps56
    go_wp2_with fail
    refine (sStoreValid_any s _ _ H.out).mono ?_; rintro e w' ⟨rfl, z1, rfl⟩
    rw [Hok.out]
    go_wp2_with fail
    refine (l3Level_any s _ _ (H.out.up (by repeat (first | exact Ext.refl _ | refine Ext.up ?_ _ | refine Ext.alloc ?_ _ | refine Ext.drew ?_ | refine Ext.setRow ?_ (by first | (dsimp only; omega) | exact LeS.le | exact LeS.add _ | (simp; done) | (simp; omega)) _ | refine Ext.setCell ?_ (by first | (dsimp only; omega) | exact LeS.le | exact LeS.add _ | (simp; done) | (simp; omega)) _))) Hok.out).mono ?_; rintro e w' ⟨v', rfl, ⟨z2, rfl⟩, hsr⟩
    obtain ⟨pr, cr, rfl, _, hcr⟩ := (hsr.sl encI_length).open
    obtain ⟨g2, off2, rfl, hL2, hc2⟩ := hcr 0 _ (row5_one (valsOf s))
    have d2 : z2.val.cell? ⟨g2, off2, none⟩ = some (.int .i64 (rootV (valsOf s))) := by have := hc2 0 _ rfl; simpa using this
    have hlen : (treeRow (valsOf s) 5).length = 1 := treeRow_length _ 5 (by decide)
    rw [hlen]
    clear hcr hc2 hsr hlen
    go_wp2_with fail
    go_ret
    exact ⟨rfl, (.of (by repeat (first | exact Ext.refl _ | refine Ext.up ?_ _ | refine Ext.alloc ?_ _ | refine Ext.drew ?_ | refine Ext.setRow ?_ (by first | (dsimp only; omega) | exact LeS.le | exact LeS.add _ | (simp; done) | (simp; omega)) _ | refine Ext.setCell ?_ (by first | (dsimp only; omega) | exact LeS.le | exact LeS.add _ | (simp; done) | (simp; omega)) _)))⟩
end Go.Proofs.Yteiemjebdhmnaaa
