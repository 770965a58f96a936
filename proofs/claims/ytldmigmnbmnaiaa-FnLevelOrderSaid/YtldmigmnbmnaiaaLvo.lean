/- Walks: orders of actions by their levels; plain laws on them. -/
import Derived.Test.YtldmigmnbmnaiaaLvl
import Derived.Test.YtldmigmnbmnaiaaShf
import Derived.Test.YtldmigmnbmnaiaaRootL
import Derived.Test.YtldmigmnbmnaiaaDeep
import Derived.Test.YtldmigmnbmnaiaaPushG
import Derived.Sort.Grow
namespace Go.Proofs.Ytldmigmnbmnaiaa
open Go Go.RowKit Go.Proofs

/-! ### Plain -/
def lvRow (lv : List Int) (a : Int) : Nat → List Int
  | 0 => []
  | k + 1 => (if lv[k]? = some a then [(k : Int)] else []) ++ lvRow lv a k
def lvRows (lv : List Int) : Nat → List Int
  | 0 => []
  | m + 1 => lvRows lv m ++ lvRow lv (m : Int) lv.length
def lvoR (l : List Actn) : List Int := lvRows (lvlR l) (lvlR l).length
theorem lvRow_mem (lv : List Int) (a : Int) (x : Int) : ∀ k, x ∈ lvRow lv a k ↔ ∃ i : Nat, i < k ∧ x = i ∧ lv[i]? = some a
  | 0 => by simp [lvRow]
  | k + 1 => by
    rw [lvRow, List.mem_append, lvRow_mem lv a x k]
    constructor
    · rintro (h | ⟨i, h1, h2, h3⟩)
      · split at h
        · rename_i hk
          simp at h
          exact ⟨k, Nat.lt_succ_self _, h, hk⟩
        · simp at h
      · exact ⟨i, by omega, h2, h3⟩
    · rintro ⟨i, h1, h2, h3⟩
      by_cases hi : i = k
      · subst hi
        left; rw [if_pos h3]; simp [h2]
      · exact .inr ⟨i, by omega, h2, h3⟩
theorem lvRows_mem (lv : List Int) (x : Int) : ∀ m, x ∈ lvRows lv m ↔ ∃ i : Nat, i < lv.length ∧ x = i ∧ ∃ a : Nat, a < m ∧ lv[i]? = some (a : Int)
  | 0 => by simp [lvRows]
  | m + 1 => by
    rw [lvRows, List.mem_append, lvRows_mem lv x m, lvRow_mem]
    constructor
    · rintro (⟨i, h1, h2, a, h3, h4⟩ | ⟨i, h1, h2, h3⟩)
      · exact ⟨i, h1, h2, a, by omega, h4⟩
      · exact ⟨i, h1, h2, m, Nat.lt_succ_self _, h3⟩
    · rintro ⟨i, h1, h2, a, h3, h4⟩
      by_cases ha : a = m
      · subst ha; exact .inr ⟨i, h1, h2, h4⟩
      · exact .inl ⟨i, h1, h2, a, by omega, h4⟩
def lvl0 (lv : List Int) (x : Int) : Int := lv.getD x.toNat 0
/-- Which number comes first. -/
def lvLt (lv : List Int) (x y : Int) : Prop := lvl0 lv x < lvl0 lv y ∨ (lvl0 lv x = lvl0 lv y ∧ y < x)
theorem lvRow_lt (lv : List Int) (a : Int) : ∀ k, (lvRow lv a k).Pairwise (lvLt lv)
  | 0 => List.Pairwise.nil
  | k + 1 => by
    rw [lvRow]
    split
    · rename_i hk
      rw [List.singleton_append, List.pairwise_cons]
      refine ⟨fun y hy => ?_, lvRow_lt lv a k⟩
      obtain ⟨i, h1, rfl, h3⟩ := (lvRow_mem lv a y k).1 hy
      right
      unfold lvl0
      simp only [Int.toNat_natCast]
      rw [getD_of hk, getD_of h3]
      exact ⟨rfl, by omega⟩
    · exact lvRow_lt lv a k
theorem lvRows_lt (lv : List Int) : ∀ m, (lvRows lv m).Pairwise (lvLt lv)
  | 0 => List.Pairwise.nil
  | m + 1 => by
    rw [lvRows, List.pairwise_append]
    refine ⟨lvRows_lt lv m, lvRow_lt lv _ _, fun x hx y hy => ?_⟩
    obtain ⟨i, _, rfl, a, h3, h4⟩ := (lvRows_mem lv x m).1 hx
    obtain ⟨j, _, rfl, h5⟩ := (lvRow_mem lv _ y _).1 hy
    left
    unfold lvl0
    simp only [Int.toNat_natCast]
    rw [getD_of h4, getD_of h5]
    omega
theorem sorted_unique {α : Type} {lt : α → α → Prop} (hi : ∀ x, ¬ lt x x) (ht : ∀ x y z, lt x y → lt y z → lt x z) : ∀ {a b : List α}, a.Pairwise lt → b.Pairwise lt → (∀ x, x ∈ a ↔ x ∈ b) → a = b
  | [], [], _, _, _ => rfl
  | [], y :: b, _, _, h => by have := (h y).2 (by simp); simp at this
  | x :: a, [], _, _, h => by have := (h x).1 (by simp); simp at this
  | x :: a, y :: b, ha, hb, h => by
    rw [List.pairwise_cons] at ha hb
    have hxy : x = y := by
      have h1 : x = y ∨ x ∈ b := List.mem_cons.1 ((h x).1 (by simp))
      have h2 : y = x ∨ y ∈ a := List.mem_cons.1 ((h y).2 (by simp))
      rcases h1 with h1 | h1
      · exact h1
      · rcases h2 with h2 | h2
        · exact h2.symm
        · exact absurd (ht _ _ _ (hb.1 x h1) (ha.1 y h2)) (hi _)
    subst hxy
    rw [sorted_unique hi ht ha.2 hb.2 fun z => ?_]
    constructor
    · intro hz
      rcases List.mem_cons.1 ((h z).1 (by simp [hz])) with e | hz'
      · subst e; exact absurd (ha.1 _ hz) (hi _)
      · exact hz'
    · intro hz
      rcases List.mem_cons.1 ((h z).2 (by simp [hz])) with e | hz'
      · subst e; exact absurd (hb.1 _ hz) (hi _)
      · exact hz'
theorem lvlR_in (l : List Actn) : ∀ a ∈ lvlR l, 0 ≤ a ∧ a < ((lvlR l).length : Int) := by
  intro a ha
  rcases h : actsOk l with _ | _
  · rw [lvlR_no h] at ha; simp at ha
  · rw [lvlR_yes h] at ha ⊢
    have := lvlTo_in l l.length a ha
    rw [lvlTo_length]; exact this
/-- Whatever holds every number once and is in order is the order by levels. -/
theorem lvoR_unique (l : List Actn) {m : List Int} (hm : ∀ x, x ∈ m ↔ ∃ i : Nat, i < (lvlR l).length ∧ x = i) (hs : m.Pairwise (lvLt (lvlR l))) : m = lvoR l := by
  refine sorted_unique (lt := lvLt (lvlR l)) (fun x h => ?_) (fun x y z h1 h2 => ?_) hs (lvRows_lt _ _) (fun x => ?_)
  · unfold lvLt at h; omega
  · unfold lvLt at *; omega
  · rw [hm, lvoR, lvRows_mem]
    constructor
    · rintro ⟨i, h1, h2⟩
      obtain ⟨a, ha⟩ := getElem?_some_of_lt h1
      have := lvlR_in l a (List.mem_of_getElem? ha)
      exact ⟨i, h1, h2, a.toNat, by omega, by rw [ha]; congr 1; omega⟩
    · rintro ⟨i, h1, h2, _⟩
      exact ⟨i, h1, h2⟩
theorem lvRow_len (lv : List Int) (a : Int) : ∀ k, (lvRow lv a k).length ≤ k
  | 0 => Nat.le_refl _
  | k + 1 => by have := lvRow_len lv a k; rw [lvRow, List.length_append]; split <;> simp <;> omega
theorem lvRows_len (lv : List Int) : ∀ m, (lvRows lv m).length ≤ m * lv.length
  | 0 => by simp [lvRows]
  | m + 1 => by
    have h1 := lvRows_len lv m
    have h2 := lvRow_len lv (m : Int) lv.length
    rw [lvRows, List.length_append, Nat.succ_mul]; omega
theorem lvoR_le (l : List Actn) : (lvoR l).length ≤ 100 := by
  have h1 := lvRows_len (lvlR l) (lvlR l).length
  have h2 := lvlR_le l
  have h3 : (lvlR l).length * (lvlR l).length ≤ 10 * 10 := Nat.mul_le_mul h2 h2
  show (lvRows _ _).length ≤ _
  omega
theorem own_emptyI (e lo : Nat) (w : World) (g : Nat) (hg : g = w.heap.size) (hlo : lo ≤ w.heap.size) : Own encI e 1 lo (w.alloc (.cells #[] e)) (.slice (some ⟨g, 0, none⟩) 0 0) [] := Own.lit hg hlo rfl rfl encI_length (Nat.zero_le _)
theorem oneIs' (l : List Int) : ∀ u ∈ l.flatMap encI, u.oneCell' = true := by
  intro u hu
  obtain ⟨x, _, h⟩ := List.mem_flatMap.1 hu
  exact oneI x u h
set_option maxRecDepth 100000 in
set_option maxHeartbeats 2000000 in
theorem sLevelOrder_any (l : List Actn) (v : Value) (w : World) (h : SL (RF Actn.enc) 4 w v l) :
    Calls Try.prog 37 #[v] w fun e w' => ∃ v', e = .returned v' ∧ Up w w' ∧ Own encI 3 1 w.heap.size w' v' (lvoR l) := by
  have H := Lib.hid h; clear h
  have ks := fun w v h => sLevelsOf_any l v w h
  have hlen := lvlR_le l
  rw [show lvoR l = lvRows (lvlR l) (lvlR l).length from rfl]
  generalize lvlR l = lv at ks hlen ⊢
  go_enter Try.func37, Try.ntmps37
  go_wp2_with fail
  refine (ks _ _ (H.out.up (by repeat (first | (with_reducible exact Ext.refl _) | (with_reducible refine Ext.up ?_ _) | (with_reducible refine Ext.alloc ?_ _) | (with_reducible refine Ext.drew ?_) | (with_reducible refine Ext.setRow ?_ (by first | exact LeS.le | exact LeS.add _ | (simp; done) | (simp; omega)) _) | (with_reducible refine Ext.setCell ?_ (by first | exact LeS.le | exact LeS.add _ | (simp; done) | (simp; omega)) _))))).mono ?_; rintro e w' ⟨y, rfl, ⟨z1, rfl⟩, oy⟩
  obtain ⟨p, c, rfl, _, _⟩ := (oy.sl encI_length).openc
  have h0 := Lib.hid (Own.up (own_emptyI 3 w.heap.size w w.heap.size rfl (Nat.le_refl _)) z1.ext)
  have OY := Lib.hid (Own.lo (lo' := w.heap.size) oy (by simp))
  have A0 := Lib.hid (Own.apartU (hi := w.heap.size + 1) oy (u := .slice (some ⟨w.heap.size, 0, none⟩) 0 0) (fun k hk => Nat.lt_succ_of_le (Nat.le_of_eq (Eq.symm (by simpa [Value.ownBlock] using hk : w.heap.size = k)))) (by simp)).symm
  clear oy
  go_wp2_with fail
  go_loopw [3, 5, 6] (fun s3 s5 _ wr => ∃ (m : Nat), s5 = .int .i64 m ∧ m ≤ lv.length ∧ Up w wr ∧ Own encI 3 1 w.heap.size wr s3 (lvRows lv m) ∧ Own encI 3 1 w.heap.size wr (.slice p lv.length c) lv ∧ Apart s3 (.slice p lv.length c)) (fun _ s5 _ _ => lv.length - (intOf s5).toNat)
  case atStart => exact ⟨0, rfl, Nat.zero_le _, (.of (by repeat (first | (with_reducible exact Ext.refl _) | (with_reducible refine Ext.up ?_ _) | (with_reducible refine Ext.alloc ?_ _) | (with_reducible refine Ext.drew ?_) | (with_reducible refine Ext.setRow ?_ (by first | exact LeS.le | exact LeS.add _ | (simp; done) | (simp; omega)) _) | (with_reducible refine Ext.setCell ?_ (by first | exact LeS.le | exact LeS.add _ | (simp; done) | (simp; omega)) _)))), h0.out, OY.out, A0.out⟩
  case round =>
    obtain ⟨m, rfl, hm, ⟨z, rfl⟩, hown, hol, hap⟩ := hrel
    have HO := Lib.hid hown; have HL := Lib.hid hol; have HA := Lib.hid hap; clear hown hol hap
    by_cases hlt : m < lv.length
    · have hml : (lvRows lv m).length ≤ 100 := by
        have h1 := lvRows_len lv m
        have h3 : m * lv.length ≤ 10 * 10 := Nat.mul_le_mul (by omega) hlen
        omega
      go_wp2_with fail
      go_loopw [3, 6] (fun s3 s6 wr => ∃ (k : Nat) (done : List Int), s6 = .int .i64 ((k : Int) - 1) ∧ k ≤ lv.length ∧ done ++ lvRow lv m k = lvRow lv m lv.length ∧ Up w wr ∧ Own encI 3 1 w.heap.size wr s3 (lvRows lv m ++ done) ∧ Own encI 3 1 w.heap.size wr (.slice p lv.length c) lv ∧ Apart s3 (.slice p lv.length c)) (fun _ s6 _ => ((intOf s6) + 1).toNat)
      case atStart => exact ⟨lv.length, [], rfl, Nat.le_refl _, rfl, ⟨z, rfl⟩, by rw [List.append_nil]; exact HO.out, HL.out, HA.out⟩
      case round =>
        obtain ⟨k, done, rfl, hk, hd, ⟨z2, rfl⟩, hown, hol, hap⟩ := hrel
        have HO2 := Lib.hid hown; have HL2 := Lib.hid hol; have HA2 := Lib.hid hap; clear hown hol hap
        have hdl : done.length ≤ 10 := by
          have h1 := congrArg List.length hd
          have h2 := lvRow_len lv (m : Int) lv.length
          rw [List.length_append] at h1; omega
        have Hd := Lib.hid hd; clear hd
        by_cases hk0 : k = 0
        · subst hk0
          have hneg : decide ((0 : Int) ≤ ((0 : Nat) : Int) - 1) = false := rfl
          have e : lvRows lv (m + 1) = lvRows lv m ++ done := by
            have := Hd.out
            rw [lvRow, List.append_nil] at this
            rw [lvRows, this]
          have He := Lib.hid e; clear e
          go_wp2_with fail
          go_roundw
          case rel => exact ⟨m + 1, by go_num, by omega, ⟨z2, rfl⟩, by rw [He.out]; exact HO2.out, HL2.out, HA2.out⟩
          case measure => simp [intOf] <;> omega
        · obtain ⟨k', rfl⟩ : ∃ k', k = k' + 1 := ⟨k - 1, by omega⟩
          obtain ⟨b, hb⟩ := getElem?_some_of_lt (l := lv) (k := k') (by omega)
          obtain ⟨p9, c9, e9, _, hc9⟩ := (HL2.out.sl encI_length).open
          cases e9
          obtain ⟨g, off, hp, hL, hcc⟩ := hc9 k' b hb
          subst hp
          have cb : z2.val.cell? ⟨g, off + k', none⟩ = some (.int .i64 b) := by have := hcc 0 _ rfl; simpa using this
          rw [show (((k' + 1 : Nat) : Int) - 1) = (k' : Int) from by omega]
          have hge : decide ((0 : Int) ≤ (k' : Int)) = true := by simp
          have k0 : (0 : Int) ≤ (k' : Int) := by omega
          have kl : (k' : Int) < (lv.length : Int) := by omega
          clear hcc hc9
          rcases eq_cases b (m : Int) with ⟨h1, h1'⟩ | ⟨h1, h1'⟩
          · have hd2 : (done ++ [(k' : Int)]) ++ lvRow lv m k' = lvRow lv m lv.length := by
              rw [← Hd.out, lvRow, if_pos (by rw [hb, h1])]; simp
            have Hd2 := Lib.hid hd2
            clear hd2 h1 hb
            go_wp2_with (at_builtin; refine wpList_pushG fI rfl (.tmp 29) (.tmp 31) rfl encI encI_length w (lo := w.heap.size) [(k' : Int)] (lvRows lv m ++ done) rfl (HO2.out.up (by repeat (first | (with_reducible exact Ext.refl _) | (with_reducible refine Ext.up ?_ _) | (with_reducible refine Ext.alloc ?_ _) | (with_reducible refine Ext.drew ?_) | (with_reducible refine Ext.setRow ?_ (by first | exact LeS.le | exact LeS.add _ | (simp; done) | (simp; omega)) _) | (with_reducible refine Ext.setCell ?_ (by first | exact LeS.le | exact LeS.add _ | (simp; done) | (simp; omega)) _)))) (by repeat (first | (with_reducible exact Ext.refl _) | (with_reducible refine Ext.up ?_ _) | (with_reducible refine Ext.alloc ?_ _) | (with_reducible refine Ext.drew ?_) | (with_reducible refine Ext.setRow ?_ (by first | exact LeS.le | exact LeS.add _ | (simp; done) | (simp; omega)) _) | (with_reducible refine Ext.setCell ?_ (by first | exact LeS.le | exact LeS.add _ | (simp; done) | (simp; omega)) _))) (Nat.le_refl _) LeS.le rfl (by rfl) (by go_simp) rfl (oneIs' _) (by simp; omega) (by simp; omega) ?_; intro v7 z7 o7 g7 b7; have N7 := Lib.hid (Own.keep (HL2.out.up ((Ext.refl _).alloc _)) g7 HA2.out.symm); have B7 := Lib.hid (Apart.grown (w := World.alloc _ _) (HL2.out.up ((Ext.refl _).alloc _)) HA2.out.symm (Nat.le_refl _) b7).symm; clear g7 b7)
            have HO7 := Lib.hid o7; clear o7
            go_wp2_with fail
            go_roundw
            case rel => exact ⟨k', done ++ [(k' : Int)], by go_num, by omega, Hd2.out, ⟨z7, rfl⟩, by rw [← List.append_assoc]; exact HO7.out, N7.out, B7.out⟩
            case measure => simp [intOf] <;> omega
          · have hd2 : done ++ lvRow lv m k' = lvRow lv m lv.length := by
              rw [← Hd.out, lvRow, if_neg (by rw [hb]; intro e; cases e; exact h1 rfl)]; rfl
            have Hd2 := Lib.hid hd2
            clear hd2 h1 hb
            go_wp2_with fail
            go_roundw
            case rel => exact ⟨k', done, by go_num, by omega, Hd2.out, ⟨z2, rfl⟩, HO2.out, HL2.out, HA2.out⟩
            case measure => simp [intOf] <;> omega
    · obtain rfl : m = lv.length := by omega
      go_wp2_with fail
      go_ret
      exact ⟨_, rfl, ⟨z, rfl⟩, HO.out⟩
end Go.Proofs.Ytldmigmnbmnaiaa
