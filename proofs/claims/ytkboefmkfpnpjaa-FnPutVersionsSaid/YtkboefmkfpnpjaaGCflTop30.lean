/- Walks: runs in an order, the program's side. The law FnRunOrder's walk. The law FnLevelsOf's walk, and its plain law. -/
import Derived.Test.YtkboefmkfpnpjaaGCflTop28
import Derived.Test.YtkboefmkfpnpjaaGCflTop18
import Derived.Test.YtkboefmkfpnpjaaGCflTop26
import Derived.Test.YtkboefmkfpnpjaaGCflTop29
import Derived.Test.YtkboefmkfpnpjaaGCflTop12
import Derived.Test.YtkboefmkfpnpjaaGCflTop24
set_option linter.unusedSimpArgs false
set_option linter.unusedVariables false
namespace Go.Proofs.Ytkboefmkfpnpjaa
open Go Go.RowKit Go.Proofs

theorem effZ_mem {α : Type} {p : Nat} {x : α} : ∀ (Z : List (Int × α)) (acc : List α), (effZ acc Z)[p]? = some x → acc[p]? = some x ∨ ∃ (i : Nat) (q : Int), Z[i]? = some (q, x) ∧ q.toNat = p
  | [], acc, h => .inl h
  | z :: Z, acc, h => by
    rcases effZ_mem Z (acc.set z.1.toNat z.2) h with h1 | ⟨i, q, h1, h2⟩
    · rw [List.getElem?_set] at h1
      split at h1
      · rename_i e
        split at h1
        · cases h1; exact .inr ⟨0, z.1, rfl, e⟩
        · cases h1
      · exact .inl h1
    · exact .inr ⟨i + 1, q, h1, h2⟩
theorem PW.effZ {ts : List TE} {o : List Int} (h : PW ts) (n : Nat) : PW (effZ (List.replicate n zeroTE) (o.zip ts)) := by
  have key : ∀ (p : Nat) (x : TE), (Go.Proofs.Ytkboefmkfpnpjaa.effZ (List.replicate n zeroTE) (o.zip ts))[p]? = some x → x = zeroTE ∨ ∃ (i : Nat) (q : Int), o[i]? = some q ∧ ts[i]? = some x ∧ q.toNat = p := by
    intro p x hx
    rcases effZ_mem _ _ hx with h1 | ⟨i, q, h1, h2⟩
    · rw [List.getElem?_replicate] at h1
      split at h1
      · cases h1; exact .inl rfl
      · cases h1
    · rw [List.getElem?_zip_eq_some] at h1
      exact .inr ⟨i, q, h1.1, h1.2, h2⟩
  refine ⟨fun x hx => ?_, ?_⟩
  · obtain ⟨p, hp⟩ := List.getElem?_of_mem hx
    rcases key p x hp with rfl | ⟨i, q, _, h2, _⟩
    · exact Apart.nil _ _ _
    · exact h.1 x (List.mem_of_getElem? h2)
  · rw [List.pairwise_iff_getElem]
    intro i j hi hj hij
    rcases key i _ (List.getElem?_eq_getElem hi) with e | ⟨a, q, h1, h2, h3⟩
    · rw [e]; exact ⟨⟨Apart.nil _ _ _, Apart.nil _ _ _⟩, ⟨Apart.nil _ _ _, Apart.nil _ _ _⟩⟩
    rcases key j _ (List.getElem?_eq_getElem hj) with e | ⟨b, r, h4, h5, h6⟩
    · rw [e]; exact ⟨⟨Apart.nil' _ _ _, Apart.nil' _ _ _⟩, ⟨Apart.nil' _ _ _, Apart.nil' _ _ _⟩⟩
    have hab : a ≠ b := by
      intro e; subst e
      rw [h1] at h4; cases h4; omega
    obtain ⟨a1, a2⟩ := List.getElem?_eq_some_iff.1 h2
    obtain ⟨b1, b2⟩ := List.getElem?_eq_some_iff.1 h5
    have hp := h.2
    rw [List.pairwise_iff_getElem] at hp
    rcases Nat.lt_or_gt_of_ne hab with h7 | h7
    · have := hp a b a1 b1 h7; rw [a2, b2] at this; exact this
    · have := hp b a b1 a1 h7; rw [a2, b2] at this
      exact ⟨⟨this.1.1.symm, this.2.1.symm⟩, ⟨this.1.2.symm, this.2.2.symm⟩⟩
theorem effZ_take {α : Type} (acc : List α) {Z : List (Int × α)} {k : Nat} {p : Int × α} (h : Z[k]? = some p) : effZ acc (Z.take (k + 1)) = (effZ acc (Z.take k)).set p.1.toNat p.2 := by
  rw [List.take_add_one, h]; exact effZ_append _ _ _
theorem take_snocA {l : List Actn} {k : Nat} {y : Actn} (h : l[k]? = some y) : l.take (k + 1) = l.take k ++ [y] := by
  rw [List.take_add_one, h]; rfl
set_option maxRecDepth 100000 in
set_option maxHeartbeats 2000000 in
theorem iRunOrder_any (s : List Ent) (l : List Actn) (o : List Int) (v vl vo : Value) (w : World) (h : SL (RF Ent.enc) 2 w v s) (hl : SL (RF Actn.enc) 4 w vl l) (ho : SL (RF encI) 1 w vo o) :
    Calls Try.prog 23 #[v, vl, vo] w fun e w' => ∃ v1 v2 acc, e = .returned (.tuple #[v1, v2]) ∧ Up w w' ∧ Own Ent.enc 31 2 w.heap.size w' v1 (roS s l o) ∧ OE 40 31 w.heap.size w' v2 acc ∧ acc.map TE.core = roEs s l o ∧ PW acc ∧ (Apart v2 v1 ∧ ∀ x ∈ acc, Apart x.vr v1 ∧ Apart x.vw v1) := by
  have H := Lib.hid h; have HL := Lib.hid hl; have HO := Lib.hid ho
  obtain ⟨p, c, rfl, _, _⟩ := h.openc
  obtain ⟨p3, c3, rfl, hll, hcl⟩ := hl.open
  obtain ⟨p4, c4, rfl, hlo, hco⟩ := ho.open
  have kv := fun w (h : SL (RF Ent.enc) 2 w (.slice p s.length c) s) => iStoreValid_any s _ w h
  have kf := fun w h h' => iOrderFits_any l o (.slice p3 l.length c3) (.slice p4 o.length c4) w h h'
  have Hcl := Lib.hid hcl; have Hco := Lib.hid hco
  clear h hl ho hcl hco
  unfold roS roEs
  rcases guards2 (entsOk 1 s) (ordOk l o) with h1 | ⟨h1, h2⟩ | ⟨h1, h2⟩
  · have hr : roOk s l o = false := by unfold roOk; rw [h1]; rfl
    rw [hr, if_neg (by decide), if_neg (by decide)]
    simp only [h1] at kv
    clear h1 hr
    go_enter Try.func23, Try.ntmps23
    go_wp2_with (first | (go_at_call 68; refine (kv _ (H.out.up (by repeat (first | (with_reducible exact Ext.refl _) | (with_reducible refine Ext.up ?_ _) | (with_reducible refine Ext.alloc ?_ _) | (with_reducible refine Ext.drew ?_) | (with_reducible refine Ext.setRow ?_ (by first | exact LeS.le | exact LeS.add _ | (simp; done) | (simp; omega)) _) | (with_reducible refine Ext.setCell ?_ (by first | exact LeS.le | exact LeS.add _ | (simp; done) | (simp; omega)) _))))).mono ?_; rintro e w' ⟨rfl, z1, rfl⟩) | (go_at_call 46; refine (kf _ (HL.out.up (by repeat (first | (with_reducible exact Ext.refl _) | (with_reducible refine Ext.up ?_ _) | (with_reducible refine Ext.alloc ?_ _) | (with_reducible refine Ext.drew ?_) | (with_reducible refine Ext.setRow ?_ (by first | exact LeS.le | exact LeS.add _ | (simp; done) | (simp; omega)) _) | (with_reducible refine Ext.setCell ?_ (by first | exact LeS.le | exact LeS.add _ | (simp; done) | (simp; omega)) _)))) (HO.out.up (by repeat (first | (with_reducible exact Ext.refl _) | (with_reducible refine Ext.up ?_ _) | (with_reducible refine Ext.alloc ?_ _) | (with_reducible refine Ext.drew ?_) | (with_reducible refine Ext.setRow ?_ (by first | exact LeS.le | exact LeS.add _ | (simp; done) | (simp; omega)) _) | (with_reducible refine Ext.setCell ?_ (by first | exact LeS.le | exact LeS.add _ | (simp; done) | (simp; omega)) _))))).mono ?_; rintro e w' ⟨rfl, z2, rfl⟩))
    refine bodyPost_ret (v := .tuple #[.slice none 0 0, .slice none 0 0]) (by simp [results, Try.results23, go_sem]) rfl ?_
    exact ⟨_, _, [], rfl, (.of (by repeat (first | (with_reducible exact Ext.refl _) | (with_reducible refine Ext.up ?_ _) | (with_reducible refine Ext.alloc ?_ _) | (with_reducible refine Ext.drew ?_) | (with_reducible refine Ext.setRow ?_ (by first | exact LeS.le | exact LeS.add _ | (simp; done) | (simp; omega)) _) | (with_reducible refine Ext.setCell ?_ (by first | exact LeS.le | exact LeS.add _ | (simp; done) | (simp; omega)) _)))), Own.nil _ _ _ _ _, ⟨Own.nil _ _ _ _ _, by simp⟩, rfl, PW.nil, Apart.nil _ _ _, by simp⟩
  · have hr : roOk s l o = false := by unfold roOk; rw [h1, h2]; rfl
    rw [hr, if_neg (by decide), if_neg (by decide)]
    simp only [h1] at kv
    simp only [h2] at kf
    clear h1 h2 hr
    go_enter Try.func23, Try.ntmps23
    go_wp2_with (first | (go_at_call 68; refine (kv _ (H.out.up (by repeat (first | (with_reducible exact Ext.refl _) | (with_reducible refine Ext.up ?_ _) | (with_reducible refine Ext.alloc ?_ _) | (with_reducible refine Ext.drew ?_) | (with_reducible refine Ext.setRow ?_ (by first | exact LeS.le | exact LeS.add _ | (simp; done) | (simp; omega)) _) | (with_reducible refine Ext.setCell ?_ (by first | exact LeS.le | exact LeS.add _ | (simp; done) | (simp; omega)) _))))).mono ?_; rintro e w' ⟨rfl, z1, rfl⟩) | (go_at_call 46; refine (kf _ (HL.out.up (by repeat (first | (with_reducible exact Ext.refl _) | (with_reducible refine Ext.up ?_ _) | (with_reducible refine Ext.alloc ?_ _) | (with_reducible refine Ext.drew ?_) | (with_reducible refine Ext.setRow ?_ (by first | exact LeS.le | exact LeS.add _ | (simp; done) | (simp; omega)) _) | (with_reducible refine Ext.setCell ?_ (by first | exact LeS.le | exact LeS.add _ | (simp; done) | (simp; omega)) _)))) (HO.out.up (by repeat (first | (with_reducible exact Ext.refl _) | (with_reducible refine Ext.up ?_ _) | (with_reducible refine Ext.alloc ?_ _) | (with_reducible refine Ext.drew ?_) | (with_reducible refine Ext.setRow ?_ (by first | exact LeS.le | exact LeS.add _ | (simp; done) | (simp; omega)) _) | (with_reducible refine Ext.setCell ?_ (by first | exact LeS.le | exact LeS.add _ | (simp; done) | (simp; omega)) _))))).mono ?_; rintro e w' ⟨rfl, z2, rfl⟩))
    refine bodyPost_ret (v := .tuple #[.slice none 0 0, .slice none 0 0]) (by simp [results, Try.results23, go_sem]) rfl ?_
    exact ⟨_, _, [], rfl, (.of (by repeat (first | (with_reducible exact Ext.refl _) | (with_reducible refine Ext.up ?_ _) | (with_reducible refine Ext.alloc ?_ _) | (with_reducible refine Ext.drew ?_) | (with_reducible refine Ext.setRow ?_ (by first | exact LeS.le | exact LeS.add _ | (simp; done) | (simp; omega)) _) | (with_reducible refine Ext.setCell ?_ (by first | exact LeS.le | exact LeS.add _ | (simp; done) | (simp; omega)) _)))), Own.nil _ _ _ _ _, ⟨Own.nil _ _ _ _ _, by simp⟩, rfl, PW.nil, Apart.nil _ _ _, by simp⟩
  have hr : roOk s l o = true := by unfold roOk; rw [h1, h2]; rfl
  rw [hr, if_pos rfl, if_pos rfl]
  simp only [h1] at kv
  simp only [h2] at kf
  obtain ⟨hlk, hol, hoi⟩ := ordOk_parts h2
  have hlen := actsOk_len hlk
  have hvi : valsIn (valsOf s) := valsOf_in (entsOk_least (by decide) h1)
  have hoL := ordL_len l o
  have hl10 : o.length ≤ 10 := by omega
  have kr := fun v w h => runAll_anyP (valsOf s) (ordL l o) v w h (valsOf_length s) hvi (ordL_ok h2) (by omega)
  have hRl : (runAll (valsOf s) (ordL l o)).1.length = 32 := runStep_len (valsOf_length s)
  have hRn : (runAll (valsOf s) (ordL l o)).2.length = o.length := by rw [runAll_len, hoL]
  have Hok := Lib.hid h1; have Hoi := Lib.hid hoi
  have Hol := Lib.hid hol; have HoL := Lib.hid hoL
  unfold roE roP
  generalize hOL : ordL l o = ol at *
  generalize runAll (valsOf s) ol = R at *
  have HOL := Lib.hid hOL
  have HRn := Lib.hid hRn
  have tok : True := trivial
  clear h1 h2 hr hlk hoi hol hoL hvi hOL hRn
  go_enter Try.func23, Try.ntmps23
  go_wp2_with (first | (go_at_call 68; refine (kv _ (H.out.up (by repeat (first | (with_reducible exact Ext.refl _) | (with_reducible refine Ext.up ?_ _) | (with_reducible refine Ext.alloc ?_ _) | (with_reducible refine Ext.drew ?_) | (with_reducible refine Ext.setRow ?_ (by first | exact LeS.le | exact LeS.add _ | (simp; done) | (simp; omega)) _) | (with_reducible refine Ext.setCell ?_ (by first | exact LeS.le | exact LeS.add _ | (simp; done) | (simp; omega)) _))))).mono ?_; rintro e w' ⟨rfl, z1, rfl⟩) | (go_at_call 46; refine (kf _ (HL.out.up (by repeat (first | (with_reducible exact Ext.refl _) | (with_reducible refine Ext.up ?_ _) | (with_reducible refine Ext.alloc ?_ _) | (with_reducible refine Ext.drew ?_) | (with_reducible refine Ext.setRow ?_ (by first | exact LeS.le | exact LeS.add _ | (simp; done) | (simp; omega)) _) | (with_reducible refine Ext.setCell ?_ (by first | exact LeS.le | exact LeS.add _ | (simp; done) | (simp; omega)) _)))) (HO.out.up (by repeat (first | (with_reducible exact Ext.refl _) | (with_reducible refine Ext.up ?_ _) | (with_reducible refine Ext.alloc ?_ _) | (with_reducible refine Ext.drew ?_) | (with_reducible refine Ext.setRow ?_ (by first | exact LeS.le | exact LeS.add _ | (simp; done) | (simp; omega)) _) | (with_reducible refine Ext.setCell ?_ (by first | exact LeS.le | exact LeS.add _ | (simp; done) | (simp; omega)) _))))).mono ?_; rintro e w' ⟨rfl, z2, rfl⟩))
  go_loopw [8, 27] (fun s8 s27 wr => ∃ k : Nat, s27 = .int .i64 k ∧ k ≤ o.length ∧ Up w wr ∧ Own Actn.enc 24 4 w.heap.size wr s8 (ol.take k)) (fun _ s27 _ => o.length - (intOf s27).toNat)
  case atStart => exact ⟨0, rfl, Nat.zero_le _, (.of (by repeat (first | (with_reducible exact Ext.refl _) | (with_reducible refine Ext.up ?_ _) | (with_reducible refine Ext.alloc ?_ _) | (with_reducible refine Ext.drew ?_) | (with_reducible refine Ext.setRow ?_ (by first | exact LeS.le | exact LeS.add _ | (simp; done) | (simp; omega)) _) | (with_reducible refine Ext.setCell ?_ (by first | exact LeS.le | exact LeS.add _ | (simp; done) | (simp; omega)) _)))), Own.nil _ _ _ _ _⟩
  case round =>
    obtain ⟨k, rfl, hk, ⟨z, rfl⟩, hown⟩ := hrel
    have Hown := Lib.hid hown; clear hown
    by_cases hlt : k < o.length
    · obtain ⟨n, hn⟩ := getElem?_some_of_lt hlt
      obtain ⟨n0, n1⟩ := Hoi.out k n hn
      obtain ⟨x, hx⟩ := getElem?_some_of_lt (l := l) (k := n.toNat) (by omega)
      obtain ⟨b4, off4, rfl, hb4, hcc4⟩ := Hco.out k n hn
      have e0 : w.cell? ⟨b4, off4 + k, none⟩ = some (.int .i64 n) := by have := hcc4 0 _ rfl; simpa using this
      obtain ⟨b3, off3, hp3, hb3, _⟩ := Hcl.out n.toNat x hx
      obtain ⟨c0, c1, c2, c3'⟩ := acell Hcl.out hp3 hx
      subst hp3
      have hog := ordL_get hn hx
      rw [HOL.out] at hog
      have Hs := Lib.hid (take_snocA hog)
      have hle : (ol.take k).length ≤ 10 := by rw [List.length_take]; omega
      have k0 : (0 : Int) ≤ (k : Int) := by omega
      have k1 : (k : Int) < o.length := by omega
      clear hn hx hcc4 hog
      go_wp2_with (at_builtin; refine wpList_push1 fActn rfl (.tmp 31) (.tmp 36) rfl Actn.enc w x (ol.take k) rfl (Hown.out.up (by repeat (first | (with_reducible exact Ext.refl _) | (with_reducible refine Ext.up ?_ _) | (with_reducible refine Ext.alloc ?_ _) | (with_reducible refine Ext.drew ?_) | (with_reducible refine Ext.setRow ?_ (by first | exact LeS.le | exact LeS.add _ | (simp; done) | (simp; omega)) _) | (with_reducible refine Ext.setCell ?_ (by first | exact LeS.le | exact LeS.add _ | (simp; done) | (simp; omega)) _)))) (by repeat (first | (with_reducible exact Ext.refl _) | (with_reducible refine Ext.up ?_ _) | (with_reducible refine Ext.alloc ?_ _) | (with_reducible refine Ext.drew ?_) | (with_reducible refine Ext.setRow ?_ (by first | exact LeS.le | exact LeS.add _ | (simp; done) | (simp; omega)) _) | (with_reducible refine Ext.setCell ?_ (by first | exact LeS.le | exact LeS.add _ | (simp; done) | (simp; omega)) _))) rfl (by go_simp) rfl rfl (oneA x) (by omega) (by omega) ?_; intro v7 z7 o7)
      have O7 := Lib.hid o7; clear o7
      go_wp2_with fail
      go_roundw
      case rel => exact ⟨k + 1, by go_num, by omega, ⟨z7, rfl⟩, by rw [Hs.out]; exact O7.out⟩
      case measure => simp [intOf]; omega
    · obtain rfl : k = o.length := by omega
      have e1 : ol.take o.length = ol := by rw [← HoL.out, List.take_length]
      rw [e1] at Hown
      clear e1
      go_wp2_with (first | (go_at_call 71; refine (valuesOf_any 1 s _ _ (H.out.up (by repeat (first | (with_reducible exact Ext.refl _) | (with_reducible refine Ext.up ?_ _) | (with_reducible refine Ext.alloc ?_ _) | (with_reducible refine Ext.drew ?_) | (with_reducible refine Ext.setRow ?_ (by first | exact LeS.le | exact LeS.add _ | (simp; done) | (simp; omega)) _) | (with_reducible refine Ext.setCell ?_ (by first | exact LeS.le | exact LeS.add _ | (simp; done) | (simp; omega)) _)))) Hok.out).mono ?_; rintro e w' ⟨rfl, z3, rfl⟩) | ((go_at_call 70; refine (kr _ _ ((Hown.out.sl Actn.enc_length).up (by repeat (first | (with_reducible exact Ext.refl _) | (with_reducible refine Ext.up ?_ _) | (with_reducible refine Ext.alloc ?_ _) | (with_reducible refine Ext.drew ?_) | (with_reducible refine Ext.setRow ?_ (by first | exact LeS.le | exact LeS.add _ | (simp; done) | (simp; omega)) _) | (with_reducible refine Ext.setCell ?_ (by first | exact LeS.le | exact LeS.add _ | (simp; done) | (simp; omega)) _))))).mono ?_; rintro e w' ⟨v2, ts, rfl, ⟨z4, rfl⟩, oe, hts, hpw⟩); have OE4 := Lib.hid (oe.lo (lo' := w.heap.size) LeS.le); have HTS := Lib.hid hts; have HPW := Lib.hid hpw; obtain ⟨p5, c5, rfl, _, _⟩ := (oe.1.sl TE.enc_length).openc; clear oe hts hpw) | (have _t := tok; refine wpList_store_new rfl _ _ _ rfl rfl rfl rfl (by rw [hRl]; exact Try.sVals) (by rw [hRl]; rfl) ?_; intro z5 r5; clear _t tok; have R5 := Lib.hid r5; clear r5) | (at_make; refine wpList_mkEff rfl _ _ rfl l.length rfl rfl (by omega) ?_; intro z6 oe6; have OE6 := Lib.hid oe6; clear oe6))
      have OE5 := Lib.hid (OE4.out.up (show Ext z4.val z5.val from (by repeat (first | (with_reducible exact Ext.refl _) | (with_reducible refine Ext.up ?_ _) | (with_reducible refine Ext.alloc ?_ _) | (with_reducible refine Ext.drew ?_) | (with_reducible refine Ext.setRow ?_ (by first | exact LeS.le | exact LeS.add _ | (simp; done) | (simp; omega)) _) | (with_reducible refine Ext.setCell ?_ (by first | exact LeS.le | exact LeS.add _ | (simp; done) | (simp; omega)) _)))))
      have hTl : ts.length = o.length := by rw [← HRn.out, ← HTS.out, List.length_map]
      have HTl := Lib.hid hTl
      have hzl : (o.zip ts).length = o.length := by rw [List.length_zip, hTl, Nat.min_self]
      have HZl := Lib.hid hzl
      have hg2 : w.heap.size ≤ z5.val.heap.size := LeS.le
      clear hTl hzl OE4
      go_loopw [51] (fun s51 wr => ∃ k : Nat, s51 = .int .i64 k ∧ k ≤ o.length ∧ Up z5.val wr ∧ OE 40 31 w.heap.size wr (.slice (some ⟨z5.val.heap.size, 0, none⟩) l.length l.length) (effZ (List.replicate l.length zeroTE) ((o.zip ts).take k))) (fun s51 _ => o.length - (intOf s51).toNat)
      case atStart => exact ⟨0, rfl, Nat.zero_le _, ⟨z6, rfl⟩, OE6.out.lo LeS.le⟩
      case round =>
        obtain ⟨k, rfl, hk2, ⟨z, rfl⟩, hoe⟩ := hrel
        have Hoe := Lib.hid hoe; clear hoe
        by_cases hlt2 : k < o.length
        · obtain ⟨n, hn⟩ := getElem?_some_of_lt hlt2
          obtain ⟨n0, n1⟩ := Hoi.out k n hn
          obtain ⟨b4, off4, rfl, hb4, hcc4⟩ := Hco.out k n hn
          have e0 : w.cell? ⟨b4, off4 + k, none⟩ = some (.int .i64 n) := by have := hcc4 0 _ rfl; simpa using this
          obtain ⟨x, hx⟩ := getElem?_some_of_lt (l := ts) (k := k) (by have := HTl.out; omega)
          have hxm := List.mem_of_getElem? hx
          obtain ⟨p9, c9, e9, _, hcd⟩ := (OE5.out.1.sl TE.enc_length).open
          cases e9
          obtain ⟨bd, offd, rfl, hbd, hcc⟩ := hcd k x hx
          obtain ⟨⟨x1, x2⟩, ⟨x3, x4⟩⟩ := OE5.out.2 x hxm
          obtain ⟨pa, ca, hvr, _, _⟩ := (x1.sl Ent.enc_length).openc
          obtain ⟨pb, cb, hvw, _, _⟩ := (x3.sl Ent.enc_length).openc
          have g0 : z5.val.cell? ⟨bd, offd + k * 3, none⟩ = some (.bool x.d) := hcc 0 _ rfl
          have g1 : z5.val.cell? ⟨bd, offd + k * 3 + 1, none⟩ = some x.vr := hcc 1 _ rfl
          have g2 : z5.val.cell? ⟨bd, offd + k * 3 + 2, none⟩ = some x.vw := hcc 2 _ rfl
          rw [hvr] at g1; rw [hvw] at g2
          have hzk : (o.zip ts)[k]? = some (n, x) := List.getElem?_zip_eq_some.2 ⟨hn, hx⟩
          have Hz := Lib.hid (effZ_take (List.replicate l.length zeroTE) hzk)
          have hacl : (effZ (List.replicate l.length zeroTE) ((o.zip ts).take k)).length = l.length := by rw [effZ_len, List.length_replicate]
          obtain ⟨acc, hacc⟩ : ∃ acc, acc = effZ (List.replicate l.length zeroTE) ((o.zip ts).take k) := ⟨_, rfl⟩
          rw [← hacc] at Hoe hacl
          have Hacc := Lib.hid hacc; clear hacc
          obtain ⟨y, hy⟩ := getElem?_some_of_lt (l := acc) (k := n.toNat) (by omega)
          have hrow : z.val.ownsRow w.heap.size 40 3 (.slice (some ⟨z5.val.heap.size, 0, none⟩) l.length l.length) l.length (acc.flatMap TE.enc) := by have := Hoe.out.1; rw [← hacl]; rw [← hacl] at this; exact this
          have d0 : z.val.cell? ⟨z5.val.heap.size, n.toNat * 3, none⟩ = some (.bool y.d) := (hrow.cellAt _ (by omega)).trans (flatMap_get TE.enc_length hy (j := 0) rfl)
          have d1 : z.val.cell? ⟨z5.val.heap.size, n.toNat * 3 + 1, none⟩ = some y.vr := (hrow.cellAt _ (by omega)).trans (flatMap_get TE.enc_length hy (j := 1) rfl)
          have d2 : z.val.cell? ⟨z5.val.heap.size, n.toNat * 3 + 2, none⟩ = some y.vw := (hrow.cellAt _ (by omega)).trans (flatMap_get TE.enc_length hy (j := 2) rfl)
          have f0 := hrow.frozenAt (n.toNat * 3)
          have f1 := hrow.frozenAt (n.toNat * 3 + 1)
          have f2 := hrow.frozenAt (n.toNat * 3 + 2)
          have hLg : LtS z5.val.heap.size z.val := LtS.of_some d0
          have k0 : (0 : Int) ≤ (k : Int) := by omega
          have k1 : (k : Int) < o.length := by omega
          have k2 : (k : Int) < ts.length := by have := HTl.out; omega
          have hO := OE.put (k := n.toNat) (x := x) Hoe.out hacl.symm (by omega) (x1.up z.ext) (Apart.lit x1 (Nat.le_refl _)) (x3.up z.ext) (Apart.lit x3 (Nat.le_refl _))
          rw [hvr, hvw] at hO
          have HOp := Lib.hid hO
          clear hn hcc4 hx hxm hcd hcc x1 x2 x3 x4 hvr hvw hzk hacl hy hrow hO
          go_wp2_with fail
          go_roundw
          case rel => exact ⟨k + 1, by go_num, by omega, .of (Ext.setCell (Ext.setCell (Ext.setCell z.ext (Nat.le_refl _) _) (Nat.le_refl _) _) (Nat.le_refl _) _), by rw [Hz.out, ← Hacc.out]; exact HOp.out⟩
          case measure => simp [intOf]; omega
        · obtain rfl : k = o.length := by omega
          rw [List.take_of_length_le (by rw [HZl.out]; exact Nat.le_refl _)] at Hoe
          have hfin : (effZ (List.replicate l.length zeroTE) (o.zip ts)).map TE.core = effZ (List.replicate l.length zeroEff) (o.zip R.2) := by
            rw [effZ_map, ← HTS.out, List.map_replicate]
            congr 1
            rw [List.zip_map_right]
            rfl
          have Hfin := Lib.hid hfin; clear hfin
          have RZ := Lib.hid (R5.out.up z.ext)
          go_wp2_with (first | (refine wpList_load_row rfl _ _ rfl _ rfl _ _ _ _ RZ.out.eq Try.underlying99 rfl (by rw [vA_size, hRl]; exact Try.sVals) ?_) | (go_at_call 72; refine (store_any _ _ hRl).mono ?_; rintro e w' ⟨v', rfl, ⟨z9, rfl⟩, ho⟩; have HO9 := Lib.hid ho; clear ho))
          refine bodyPost_ret (v := .tuple #[v', .slice (some ⟨z5.val.heap.size, 0, none⟩) l.length l.length]) (by simp [results, Try.results23, go_sem]) rfl ?_
          exact ⟨_, _, _, rfl, (.of (by repeat (first | (with_reducible exact Ext.refl _) | (with_reducible refine Ext.up ?_ _) | (with_reducible refine Ext.alloc ?_ _) | (with_reducible refine Ext.drew ?_) | (with_reducible refine Ext.setRow ?_ (by first | exact LeS.le | exact LeS.add _ | (simp; done) | (simp; omega)) _) | (with_reducible refine Ext.setCell ?_ (by first | exact LeS.le | exact LeS.add _ | (simp; done) | (simp; omega)) _)))), HO9.out.lo LeS.le, Hoe.out.up z9.ext, Hfin.out, PW.effZ HPW.out _, Apart.of_lt Hoe.out.1 HO9.out (Nat.le_refl _), fun x hx => ⟨Apart.of_lt (Hoe.out.2 x hx).1.1 HO9.out (Nat.le_refl _), Apart.of_lt (Hoe.out.2 x hx).2.1 HO9.out (Nat.le_refl _)⟩⟩
end Go.Proofs.Ytkboefmkfpnpjaa
namespace Go.Proofs.Ytkboefmkfpnpjaa
open Go Go.RowKit Go.Proofs

theorem SE.openc {w : World} {v : Value} {es : List Eff} (h : SE w v es) : ∃ a cap, v = .slice a es.length cap := by
  obtain ⟨a, cap, rfl, _⟩ := h.open
  exact ⟨a, cap, rfl⟩
set_option maxRecDepth 100000 in
set_option maxHeartbeats 2000000 in
theorem FnRunOrder_any (bs : List Int) (v : Value) (w : World) (h : SL (RF encU) 1 w v bs) (hb : ∀ b ∈ bs, 0 ≤ b ∧ b ≤ 255) :
    Calls Try.prog 4 #[v] w fun e w' => e = .returned (.bool true) ∧ Up w w' := by
  have H := Lib.hid h
  obtain ⟨p, c, rfl, _, _⟩ := h.openc
  clear h
  by_cases hl : 1048576 < bs.length
  · go_enter Try.func4, Try.ntmps4
    go_wp2_with fail
    go_ret
    exact ⟨rfl, (.of (by repeat (first | (with_reducible exact Ext.refl _) | (with_reducible refine Ext.up ?_ _) | (with_reducible refine Ext.alloc ?_ _) | (with_reducible refine Ext.drew ?_) | (with_reducible refine Ext.setRow ?_ (by first | exact LeS.le | exact LeS.add _ | (simp; done) | (simp; omega)) _) | (with_reducible refine Ext.setCell ?_ (by first | exact LeS.le | exact LeS.add _ | (simp; done) | (simp; omega)) _))))⟩
  go_enter Try.func4, Try.ntmps4
  go_wp2_with fail
  refine (drawRunOrder_any bs _ _ (H.out.up (by repeat (first | (with_reducible exact Ext.refl _) | (with_reducible refine Ext.up ?_ _) | (with_reducible refine Ext.alloc ?_ _) | (with_reducible refine Ext.drew ?_) | (with_reducible refine Ext.setRow ?_ (by first | exact LeS.le | exact LeS.add _ | (simp; done) | (simp; omega)) _) | (with_reducible refine Ext.setCell ?_ (by first | exact LeS.le | exact LeS.add _ | (simp; done) | (simp; omega)) _)))) hb).mono ?_; rintro e w' ⟨vs, vl, vo, s, l, o, rfl, ⟨z0, rfl⟩, _, _, _, os, ol, oo⟩
  obtain ⟨p0, c0, rfl, _, _⟩ := os.openc
  obtain ⟨p1, c1, rfl, _, _⟩ := ol.openc
  obtain ⟨p2, c2, rfl, _, _⟩ := oo.openc
  have HS := Lib.hid os; have HL := Lib.hid ol; have HO := Lib.hid oo
  clear os ol oo
  have kst := fun w h => sStoreValid_any s (.slice p0 s.length c0) w h
  have kof := fun w h h' => sOrderFits_any l o (.slice p1 l.length c1) (.slice p2 o.length c2) w h h'
  have kra := fun w h h' h3 h4 => iRunSerial_yes s l (.slice p0 s.length c0) (.slice p1 l.length c1) w h h' h3 h4
  have hno : roOk s l o = false → roS s l o = [] ∧ roEs s l o = [] := fun h => by unfold roS roEs; rw [h]; exact ⟨rfl, rfl⟩
  have hyes : roOk s l o = true → _ := fun h => ro_serial h
  have hparts : ordOk l o = true → actsOk l = true := fun h => (ordOk_parts h).1
  have hro : roOk s l o = (entsOk 1 s && ordOk l o) := rfl
  go_wp2_with fail
  refine (iRunOrder_any s l o _ _ _ _ (HS.out.up (by repeat (first | (with_reducible exact Ext.refl _) | (with_reducible refine Ext.up ?_ _) | (with_reducible refine Ext.alloc ?_ _) | (with_reducible refine Ext.drew ?_) | (with_reducible refine Ext.setRow ?_ (by first | exact LeS.le | exact LeS.add _ | (simp; done) | (simp; omega)) _) | (with_reducible refine Ext.setCell ?_ (by first | exact LeS.le | exact LeS.add _ | (simp; done) | (simp; omega)) _)))) (HL.out.up (by repeat (first | (with_reducible exact Ext.refl _) | (with_reducible refine Ext.up ?_ _) | (with_reducible refine Ext.alloc ?_ _) | (with_reducible refine Ext.drew ?_) | (with_reducible refine Ext.setRow ?_ (by first | exact LeS.le | exact LeS.add _ | (simp; done) | (simp; omega)) _) | (with_reducible refine Ext.setCell ?_ (by first | exact LeS.le | exact LeS.add _ | (simp; done) | (simp; omega)) _)))) (HO.out.up (by repeat (first | (with_reducible exact Ext.refl _) | (with_reducible refine Ext.up ?_ _) | (with_reducible refine Ext.alloc ?_ _) | (with_reducible refine Ext.drew ?_) | (with_reducible refine Ext.setRow ?_ (by first | exact LeS.le | exact LeS.add _ | (simp; done) | (simp; omega)) _) | (with_reducible refine Ext.setCell ?_ (by first | exact LeS.le | exact LeS.add _ | (simp; done) | (simp; omega)) _))))).mono ?_; rintro e w' ⟨v1, v2, acc, rfl, ⟨z1, rfl⟩, o1, oe, hacc, -, -⟩
  have se := oe.se
  rw [hacc] at se
  obtain ⟨q1, d1, rfl, _, _⟩ := (o1.sl Ent.enc_length).openc
  obtain ⟨q2, d2, rfl⟩ := se.openc
  have O1 := Lib.hid (o1.sl Ent.enc_length); have E1 := Lib.hid se
  clear o1 oe hacc se
  go_wp2_with fail
  refine (sRunOrder_any s l o _ _ _ _ (HS.out.up (by repeat (first | (with_reducible exact Ext.refl _) | (with_reducible refine Ext.up ?_ _) | (with_reducible refine Ext.alloc ?_ _) | (with_reducible refine Ext.drew ?_) | (with_reducible refine Ext.setRow ?_ (by first | exact LeS.le | exact LeS.add _ | (simp; done) | (simp; omega)) _) | (with_reducible refine Ext.setCell ?_ (by first | exact LeS.le | exact LeS.add _ | (simp; done) | (simp; omega)) _)))) (HL.out.up (by repeat (first | (with_reducible exact Ext.refl _) | (with_reducible refine Ext.up ?_ _) | (with_reducible refine Ext.alloc ?_ _) | (with_reducible refine Ext.drew ?_) | (with_reducible refine Ext.setRow ?_ (by first | exact LeS.le | exact LeS.add _ | (simp; done) | (simp; omega)) _) | (with_reducible refine Ext.setCell ?_ (by first | exact LeS.le | exact LeS.add _ | (simp; done) | (simp; omega)) _)))) (HO.out.up (by repeat (first | (with_reducible exact Ext.refl _) | (with_reducible refine Ext.up ?_ _) | (with_reducible refine Ext.alloc ?_ _) | (with_reducible refine Ext.drew ?_) | (with_reducible refine Ext.setRow ?_ (by first | exact LeS.le | exact LeS.add _ | (simp; done) | (simp; omega)) _) | (with_reducible refine Ext.setCell ?_ (by first | exact LeS.le | exact LeS.add _ | (simp; done) | (simp; omega)) _))))).mono ?_; rintro e w' ⟨v3, v4, rfl, ⟨z2, rfl⟩, o3, se⟩
  have O3 := Lib.hid (o3.sl Ent.enc_length); have E3 := Lib.hid se
  clear o3 se
  generalize roS s l o = S at *
  generalize roEs s l o = E at *
  go_wp2_with fail
  refine (sameStore_same S _ _ _ (O1.out.up (by repeat (first | (with_reducible exact Ext.refl _) | (with_reducible refine Ext.up ?_ _) | (with_reducible refine Ext.alloc ?_ _) | (with_reducible refine Ext.drew ?_) | (with_reducible refine Ext.setRow ?_ (by first | exact LeS.le | exact LeS.add _ | (simp; done) | (simp; omega)) _) | (with_reducible refine Ext.setCell ?_ (by first | exact LeS.le | exact LeS.add _ | (simp; done) | (simp; omega)) _)))) (O3.out.up (by repeat (first | (with_reducible exact Ext.refl _) | (with_reducible refine Ext.up ?_ _) | (with_reducible refine Ext.alloc ?_ _) | (with_reducible refine Ext.drew ?_) | (with_reducible refine Ext.setRow ?_ (by first | exact LeS.le | exact LeS.add _ | (simp; done) | (simp; omega)) _) | (with_reducible refine Ext.setCell ?_ (by first | exact LeS.le | exact LeS.add _ | (simp; done) | (simp; omega)) _))))).mono ?_; rintro e w' ⟨rfl, ⟨z3, rfl⟩⟩
  go_wp2_with fail
  refine (sameEffects_same E _ _ _ (E1.out.up (by repeat (first | (with_reducible exact Ext.refl _) | (with_reducible refine Ext.up ?_ _) | (with_reducible refine Ext.alloc ?_ _) | (with_reducible refine Ext.drew ?_) | (with_reducible refine Ext.setRow ?_ (by first | exact LeS.le | exact LeS.add _ | (simp; done) | (simp; omega)) _) | (with_reducible refine Ext.setCell ?_ (by first | exact LeS.le | exact LeS.add _ | (simp; done) | (simp; omega)) _)))) (E3.out.up (by repeat (first | (with_reducible exact Ext.refl _) | (with_reducible refine Ext.up ?_ _) | (with_reducible refine Ext.alloc ?_ _) | (with_reducible refine Ext.drew ?_) | (with_reducible refine Ext.setRow ?_ (by first | exact LeS.le | exact LeS.add _ | (simp; done) | (simp; omega)) _) | (with_reducible refine Ext.setCell ?_ (by first | exact LeS.le | exact LeS.add _ | (simp; done) | (simp; omega)) _))))).mono ?_; rintro e w' ⟨rfl, ⟨z4, rfl⟩⟩
  rcases guards2 (entsOk 1 s) (ordOk l o) with h1 | ⟨h1, h2⟩ | ⟨h1, h2⟩
  · rw [h1] at hro
    obtain ⟨rfl, rfl⟩ := hno hro
    simp only [h1] at kst
    clear hno hyes hparts hro h1 kof kra
    go_wp2_with fail
    refine (kst _ (HS.out.up (by repeat (first | (with_reducible exact Ext.refl _) | (with_reducible refine Ext.up ?_ _) | (with_reducible refine Ext.alloc ?_ _) | (with_reducible refine Ext.drew ?_) | (with_reducible refine Ext.setRow ?_ (by first | exact LeS.le | exact LeS.add _ | (simp; done) | (simp; omega)) _) | (with_reducible refine Ext.setCell ?_ (by first | exact LeS.le | exact LeS.add _ | (simp; done) | (simp; omega)) _))))).mono ?_; rintro e w' ⟨rfl, ⟨z5, rfl⟩⟩
    go_wp2_with fail
    refine (alive_any _).mono ?_; rintro e w' ⟨rfl, ⟨z6, rfl⟩⟩
    go_wp2_with fail
    go_ret
    exact ⟨rfl, (.of (by repeat (first | (with_reducible exact Ext.refl _) | (with_reducible refine Ext.up ?_ _) | (with_reducible refine Ext.alloc ?_ _) | (with_reducible refine Ext.drew ?_) | (with_reducible refine Ext.setRow ?_ (by first | exact LeS.le | exact LeS.add _ | (simp; done) | (simp; omega)) _) | (with_reducible refine Ext.setCell ?_ (by first | exact LeS.le | exact LeS.add _ | (simp; done) | (simp; omega)) _))))⟩
  · rw [h1, h2] at hro
    obtain ⟨rfl, rfl⟩ := hno hro
    simp only [h1] at kst; simp only [h2] at kof
    clear hno hyes hparts hro h1 h2 kra
    go_wp2_with fail
    refine (kst _ (HS.out.up (by repeat (first | (with_reducible exact Ext.refl _) | (with_reducible refine Ext.up ?_ _) | (with_reducible refine Ext.alloc ?_ _) | (with_reducible refine Ext.drew ?_) | (with_reducible refine Ext.setRow ?_ (by first | exact LeS.le | exact LeS.add _ | (simp; done) | (simp; omega)) _) | (with_reducible refine Ext.setCell ?_ (by first | exact LeS.le | exact LeS.add _ | (simp; done) | (simp; omega)) _))))).mono ?_; rintro e w' ⟨rfl, ⟨z5, rfl⟩⟩
    go_wp2_with fail
    refine (kof _ (HL.out.up (by repeat (first | (with_reducible exact Ext.refl _) | (with_reducible refine Ext.up ?_ _) | (with_reducible refine Ext.alloc ?_ _) | (with_reducible refine Ext.drew ?_) | (with_reducible refine Ext.setRow ?_ (by first | exact LeS.le | exact LeS.add _ | (simp; done) | (simp; omega)) _) | (with_reducible refine Ext.setCell ?_ (by first | exact LeS.le | exact LeS.add _ | (simp; done) | (simp; omega)) _)))) (HO.out.up (by repeat (first | (with_reducible exact Ext.refl _) | (with_reducible refine Ext.up ?_ _) | (with_reducible refine Ext.alloc ?_ _) | (with_reducible refine Ext.drew ?_) | (with_reducible refine Ext.setRow ?_ (by first | exact LeS.le | exact LeS.add _ | (simp; done) | (simp; omega)) _) | (with_reducible refine Ext.setCell ?_ (by first | exact LeS.le | exact LeS.add _ | (simp; done) | (simp; omega)) _))))).mono ?_; rintro e w' ⟨rfl, ⟨z7, rfl⟩⟩
    go_wp2_with fail
    refine (alive_any _).mono ?_; rintro e w' ⟨rfl, ⟨z6, rfl⟩⟩
    go_wp2_with fail
    go_ret
    exact ⟨rfl, (.of (by repeat (first | (with_reducible exact Ext.refl _) | (with_reducible refine Ext.up ?_ _) | (with_reducible refine Ext.alloc ?_ _) | (with_reducible refine Ext.drew ?_) | (with_reducible refine Ext.setRow ?_ (by first | exact LeS.le | exact LeS.add _ | (simp; done) | (simp; omega)) _) | (with_reducible refine Ext.setCell ?_ (by first | exact LeS.le | exact LeS.add _ | (simp; done) | (simp; omega)) _))))⟩
  · rw [h1, h2] at hro
    obtain ⟨y1, y2⟩ := hyes hro
    have ha := hparts h2
    have kra := fun w h h' => kra w h h' h1 ha
    rw [← y1, ← y2] at kra
    simp only [h1] at kst; simp only [h2] at kof
    clear hno hyes hparts hro h1 h2 y1 y2 ha
    go_wp2_with fail
    refine (kst _ (HS.out.up (by repeat (first | (with_reducible exact Ext.refl _) | (with_reducible refine Ext.up ?_ _) | (with_reducible refine Ext.alloc ?_ _) | (with_reducible refine Ext.drew ?_) | (with_reducible refine Ext.setRow ?_ (by first | exact LeS.le | exact LeS.add _ | (simp; done) | (simp; omega)) _) | (with_reducible refine Ext.setCell ?_ (by first | exact LeS.le | exact LeS.add _ | (simp; done) | (simp; omega)) _))))).mono ?_; rintro e w' ⟨rfl, ⟨z5, rfl⟩⟩
    go_wp2_with fail
    refine (kof _ (HL.out.up (by repeat (first | (with_reducible exact Ext.refl _) | (with_reducible refine Ext.up ?_ _) | (with_reducible refine Ext.alloc ?_ _) | (with_reducible refine Ext.drew ?_) | (with_reducible refine Ext.setRow ?_ (by first | exact LeS.le | exact LeS.add _ | (simp; done) | (simp; omega)) _) | (with_reducible refine Ext.setCell ?_ (by first | exact LeS.le | exact LeS.add _ | (simp; done) | (simp; omega)) _)))) (HO.out.up (by repeat (first | (with_reducible exact Ext.refl _) | (with_reducible refine Ext.up ?_ _) | (with_reducible refine Ext.alloc ?_ _) | (with_reducible refine Ext.drew ?_) | (with_reducible refine Ext.setRow ?_ (by first | exact LeS.le | exact LeS.add _ | (simp; done) | (simp; omega)) _) | (with_reducible refine Ext.setCell ?_ (by first | exact LeS.le | exact LeS.add _ | (simp; done) | (simp; omega)) _))))).mono ?_; rintro e w' ⟨rfl, ⟨z7, rfl⟩⟩
    go_wp2_with fail
    refine (kra _ (HS.out.up (by repeat (first | (with_reducible exact Ext.refl _) | (with_reducible refine Ext.up ?_ _) | (with_reducible refine Ext.alloc ?_ _) | (with_reducible refine Ext.drew ?_) | (with_reducible refine Ext.setRow ?_ (by first | exact LeS.le | exact LeS.add _ | (simp; done) | (simp; omega)) _) | (with_reducible refine Ext.setCell ?_ (by first | exact LeS.le | exact LeS.add _ | (simp; done) | (simp; omega)) _)))) (HL.out.up (by repeat (first | (with_reducible exact Ext.refl _) | (with_reducible refine Ext.up ?_ _) | (with_reducible refine Ext.alloc ?_ _) | (with_reducible refine Ext.drew ?_) | (with_reducible refine Ext.setRow ?_ (by first | exact LeS.le | exact LeS.add _ | (simp; done) | (simp; omega)) _) | (with_reducible refine Ext.setCell ?_ (by first | exact LeS.le | exact LeS.add _ | (simp; done) | (simp; omega)) _))))).mono ?_; rintro e w' ⟨v5, v6, ts, rfl, ⟨z8, rfl⟩, o5, oe, hts⟩
    have se := oe.se
    rw [hts] at se
    have O5 := Lib.hid (o5.sl Ent.enc_length); have E5 := Lib.hid se
    clear o5 oe hts se
    go_wp2_with fail
    refine (sameStore_same S _ _ _ (O1.out.up (by repeat (first | (with_reducible exact Ext.refl _) | (with_reducible refine Ext.up ?_ _) | (with_reducible refine Ext.alloc ?_ _) | (with_reducible refine Ext.drew ?_) | (with_reducible refine Ext.setRow ?_ (by first | exact LeS.le | exact LeS.add _ | (simp; done) | (simp; omega)) _) | (with_reducible refine Ext.setCell ?_ (by first | exact LeS.le | exact LeS.add _ | (simp; done) | (simp; omega)) _)))) (O5.out.up (by repeat (first | (with_reducible exact Ext.refl _) | (with_reducible refine Ext.up ?_ _) | (with_reducible refine Ext.alloc ?_ _) | (with_reducible refine Ext.drew ?_) | (with_reducible refine Ext.setRow ?_ (by first | exact LeS.le | exact LeS.add _ | (simp; done) | (simp; omega)) _) | (with_reducible refine Ext.setCell ?_ (by first | exact LeS.le | exact LeS.add _ | (simp; done) | (simp; omega)) _))))).mono ?_; rintro e w' ⟨rfl, ⟨z9, rfl⟩⟩
    go_wp2_with fail
    refine (sameEffects_same E _ _ _ (E1.out.up (by repeat (first | (with_reducible exact Ext.refl _) | (with_reducible refine Ext.up ?_ _) | (with_reducible refine Ext.alloc ?_ _) | (with_reducible refine Ext.drew ?_) | (with_reducible refine Ext.setRow ?_ (by first | exact LeS.le | exact LeS.add _ | (simp; done) | (simp; omega)) _) | (with_reducible refine Ext.setCell ?_ (by first | exact LeS.le | exact LeS.add _ | (simp; done) | (simp; omega)) _)))) (E5.out.up (by repeat (first | (with_reducible exact Ext.refl _) | (with_reducible refine Ext.up ?_ _) | (with_reducible refine Ext.alloc ?_ _) | (with_reducible refine Ext.drew ?_) | (with_reducible refine Ext.setRow ?_ (by first | exact LeS.le | exact LeS.add _ | (simp; done) | (simp; omega)) _) | (with_reducible refine Ext.setCell ?_ (by first | exact LeS.le | exact LeS.add _ | (simp; done) | (simp; omega)) _))))).mono ?_; rintro e w' ⟨rfl, ⟨z10, rfl⟩⟩
    go_wp2_with fail
    go_ret
    exact ⟨rfl, (.of (by repeat (first | (with_reducible exact Ext.refl _) | (with_reducible refine Ext.up ?_ _) | (with_reducible refine Ext.alloc ?_ _) | (with_reducible refine Ext.drew ?_) | (with_reducible refine Ext.setRow ?_ (by first | exact LeS.le | exact LeS.add _ | (simp; done) | (simp; omega)) _) | (with_reducible refine Ext.setCell ?_ (by first | exact LeS.le | exact LeS.add _ | (simp; done) | (simp; omega)) _))))⟩
end Go.Proofs.Ytkboefmkfpnpjaa
namespace Go.Proofs.Ytkboefmkfpnpjaa
open Go Go.RowKit Go.Proofs

theorem lvlAt_ge {l : List Actn} {out : List Int} {k j : Nat} {x y : Actn} {o : Int} (hx : l[j]? = some x) (hy : l[k]? = some y) (ho : out[j]? = some o) (h : conf x y = true) : ∀ J, j < J → o + 1 ≤ lvlAt l out k J
  | 0, hJ => absurd hJ (Nat.not_lt_zero _)
  | J + 1, hJ => by
    by_cases hj : j = J
    · subst hj
      rw [lvlAt_yes hx hy ho h]
      exact Int.le_max_right _ _
    · have ih := lvlAt_ge hx hy ho h J (by omega)
      unfold lvlAt
      split
      · split
        · exact Int.le_trans ih (Int.le_max_left _ _)
        · exact ih
      · exact ih
theorem lvlAt_has {l : List Actn} {out : List Int} {k : Nat} : ∀ J, lvlAt l out k J = 0 ∨ ∃ j x y o, j < J ∧ l[j]? = some x ∧ l[k]? = some y ∧ out[j]? = some o ∧ conf x y = true ∧ o + 1 = lvlAt l out k J
  | 0 => .inl rfl
  | J + 1 => by
    have ih := lvlAt_has (l := l) (out := out) (k := k) J
    unfold lvlAt
    split
    · rename_i x y o hx hy ho
      split
      · rename_i hc
        by_cases hm : lvlAt l out k J ≤ o + 1
        · rw [Int.max_eq_right hm]
          exact .inr ⟨J, x, y, o, Nat.lt_succ_self _, hx, hy, ho, hc, rfl⟩
        · rw [Int.max_eq_left (by omega)]
          rcases ih with ih | ⟨j, a, b, c, hj, r⟩
          · exact .inl ih
          · exact .inr ⟨j, a, b, c, by omega, r⟩
      · rcases ih with ih | ⟨j, a, b, c, hj, r⟩
        · exact .inl ih
        · exact .inr ⟨j, a, b, c, by omega, r⟩
    · rcases ih with ih | ⟨j, a, b, c, hj, r⟩
      · exact .inl ih
      · exact .inr ⟨j, a, b, c, by omega, r⟩
theorem lvlTo_get (l : List Actn) {n k : Nat} (h : k < n) : (lvlTo l n)[k]? = some (lvlAt l (lvlTo l k) k k) := by
  have h1 : ((lvlTo l n).take (k + 1))[k]? = (lvlTo l (k + 1))[k]? := by rw [lvlTo_pre l (by omega)]
  rw [List.getElem?_take_of_lt (by omega)] at h1
  rw [h1, lvlTo, List.getElem?_append_right (by rw [lvlTo_length]; exact Nat.le_refl _), lvlTo_length, Nat.sub_self]
  rfl
theorem lvlTo_low (l : List Actn) {n k j : Nat} (hk : k ≤ n) (hj : j < k) : (lvlTo l k)[j]? = (lvlTo l n)[j]? := by
  rw [← lvlTo_pre l hk, List.getElem?_take_of_lt hj]
/-- Of two in conflict the later one is above. -/
theorem lvl_lt {l : List Actn} {n j k : Nat} {x y : Actn} {a b : Int} (hjk : j < k) (hkn : k < n) (hx : l[j]? = some x) (hy : l[k]? = some y) (ha : (lvlTo l n)[j]? = some a) (hb : (lvlTo l n)[k]? = some b) (h : conf x y = true) : a < b := by
  rw [lvlTo_get l hkn] at hb
  cases hb
  have := lvlAt_ge hx hy ((lvlTo_low l (Nat.le_of_lt hkn) hjk).trans ha) h k hjk
  omega
def fnd (l : List Actn) (lv : List Int) (k : Nat) : Nat → Bool
  | 0 => match lv[k]? with | some b => b == 0 | none => false
  | j + 1 => fnd l lv k j || match l[j]?, l[k]?, lv[j]?, lv[k]? with
    | some x, some y, some a, some b => (a == b - 1) && conf x y
    | _, _, _, _ => false
theorem fnd_zero {l : List Actn} {lv : List Int} {k : Nat} {b : Int} (h : lv[k]? = some b) : fnd l lv k 0 = (b == 0) := by simp [fnd, h]
theorem fnd_step {l : List Actn} {lv : List Int} {k j : Nat} {x y : Actn} {a b : Int} (hx : l[j]? = some x) (hy : l[k]? = some y) (ha : lv[j]? = some a) (hb : lv[k]? = some b) : fnd l lv k (j + 1) = (fnd l lv k j || ((a == b - 1) && conf x y)) := by simp [fnd, hx, hy, ha, hb]
theorem fnd_mono {l : List Actn} {lv : List Int} {k : Nat} {i : Nat} (h : fnd l lv k i = true) : ∀ j, i ≤ j → fnd l lv k j = true
  | 0, hj => by have : i = 0 := by omega
                subst this; exact h
  | j + 1, hj => by
    by_cases he : i = j + 1
    · subst he; exact h
    · have := fnd_mono h j (by omega)
      simp [fnd, this]
theorem fnd_all {l : List Actn} {n k : Nat} (hk : k < n) (hl : n ≤ l.length) : fnd l (lvlTo l n) k k = true := by
  have hg := lvlTo_get l hk
  rcases lvlAt_has (l := l) (out := lvlTo l k) (k := k) k with h | ⟨j, x, y, o, hj, hx, hy, ho, hc, he⟩
  · exact fnd_mono (i := 0) (by rw [fnd_zero hg, h]; rfl) k (Nat.zero_le _)
  · rw [lvlTo_low l (Nat.le_of_lt hk) hj] at ho
    refine fnd_mono (i := j + 1) ?_ k (by omega)
    rw [fnd_step hx hy ho hg, hc]
    have : (o == lvlAt l (lvlTo l k) k k - 1) = true := by simp; omega
    rw [this]; simp
end Go.Proofs.Ytkboefmkfpnpjaa
