/- Walks: dropping versions. Plain laws: versions with those of an action. Plain facts on bits of an int64. Plain laws: actions: which keys they read and write; masks of keys. Plain laws: a store with another value; values back to a store; effects. -/
import Derived.Test.YtkboefmkfpnpjaaGEvTop03
import Derived.Test.YtkboefmkfpnpjaaGEvTop01
import Derived.Test.YtkboefmkfpnpjaaGEvTop02
import Derived.Test.YtkboefmkfpnpjaaGEvTop00
set_option linter.unusedSimpArgs false
set_option linter.unusedVariables false
namespace Go.Proofs.Ytkboefmkfpnpjaa
open Go Go.RowKit Go.Proofs

def dropV (l : List Ver) (by_ : Int) : List Ver := l.filter fun x => decide (x.b ≠ by_)
theorem dropV_le (l : List Ver) (b : Int) : (dropV l b).length ≤ l.length := List.length_filter_le _ _
theorem dropV_snoc_in {l : List Ver} {k : Nat} {x : Ver} {b : Int} (h : l[k]? = some x) (hb : x.b ≠ b) : dropV (l.take (k + 1)) b = dropV (l.take k) b ++ [x] := by
  rw [List.take_add_one, h]; simp [dropV, hb]
theorem dropV_snoc_out {l : List Ver} {k : Nat} {x : Ver} {b : Int} (h : l[k]? = some x) (hb : x.b = b) : dropV (l.take (k + 1)) b = dropV (l.take k) b := by
  rw [List.take_add_one, h]; simp [dropV, hb]

set_option maxHeartbeats 1000000 in
theorem without_any (l : List Ver) (v : Value) (by_ : Int) (w : World) (h : SL (RF Ver.enc) 3 w v l) (hn : l.length ≤ 1073741824) :
    Calls Try.prog 100 #[v, .int .i64 by_] w fun e w' => ∃ v', e = .returned v' ∧ Up w w' ∧ Own Ver.enc 88 3 w.heap.size w' v' (dropV l by_) := by
  obtain ⟨a, cap, rfl, hlen, hc⟩ := h.open
  clear h
  go_enter Try.func100, Try.ntmps100
  go_wp2_with fail
  go_loopw [5, 7, 10] (fun s5 _ s10 wr => ∃ (k : Nat), s10 = .int .i64 k ∧ k ≤ l.length ∧ Up w wr ∧ Own Ver.enc 88 3 w.heap.size wr s5 (dropV (l.take k) by_)) (fun _ _ s10 _ => l.length - (intOf s10).toNat)
  case atStart => exact ⟨0, rfl, Nat.zero_le _, .of (Ext.refl _), Own.nil _ _ _ _ _⟩
  case round =>
    obtain ⟨k, rfl, hk, ⟨z, rfl⟩, hown⟩ := hrel
    by_cases hlt : k < l.length
    · obtain ⟨x, hxk⟩ := getElem?_some_of_lt hlt
      obtain ⟨b, off, rfl, hb, hcc⟩ := hc k x hxk
      have c0 : w.cell? ⟨b, off + k * 3, none⟩ = some (.int .i64 x.k) := hcc 0 _ rfl
      have c1 : w.cell? ⟨b, off + k * 3 + 1, none⟩ = some (.int .i64 x.b) := hcc 1 _ rfl
      have c2 : w.cell? ⟨b, off + k * 3 + 2, none⟩ = some (.int .i64 x.v) := hcc 2 _ rfl
      have hle : (dropV (l.take k) by_).length ≤ k := Nat.le_trans (dropV_le _ _) (List.length_take_le _ _)
      have Hx := Lib.hid hxk; have Hown := Lib.hid hown
      clear hc hcc hxk hown
      rcases ne_cases x.b by_ with ⟨h1, h1'⟩ | ⟨h1, h1'⟩
      · go_wp2_with (at_builtin; refine wpList_push1 fVer rfl (.tmp 18) (.tmp 20) rfl Ver.enc w x (dropV (l.take k) by_) rfl (Hown.out.up (by repeat (first | exact Ext.refl _ | refine Ext.up ?_ _ | refine Ext.alloc ?_ _ | refine Ext.drew ?_ | refine Ext.setRow ?_ (by first | (dsimp only; omega) | exact LeS.le | exact LeS.add _ | (simp; done) | (simp; omega)) _ | refine Ext.setCell ?_ (by first | (dsimp only; omega) | exact LeS.le | exact LeS.add _ | (simp; done) | (simp; omega)) _))) (by repeat (first | exact Ext.refl _ | refine Ext.up ?_ _ | refine Ext.alloc ?_ _ | refine Ext.drew ?_ | refine Ext.setRow ?_ (by first | (dsimp only; omega) | exact LeS.le | exact LeS.add _ | (simp; done) | (simp; omega)) _ | refine Ext.setCell ?_ (by first | (dsimp only; omega) | exact LeS.le | exact LeS.add _ | (simp; done) | (simp; omega)) _)) rfl (by go_simp) rfl rfl (oneV x) (by omega) (by omega) ?_; intro v1 z1 hown1)
        have hown2 := Lib.hid hown1; clear hown1
        go_wp2_with fail
        go_roundw
        case rel => exact ⟨k + 1, by go_num, by omega, (.of (by repeat (first | exact Ext.refl _ | refine Ext.up ?_ _ | refine Ext.alloc ?_ _ | refine Ext.drew ?_ | refine Ext.setRow ?_ (by first | (dsimp only; omega) | exact LeS.le | exact LeS.add _ | (simp; done) | (simp; omega)) _ | refine Ext.setCell ?_ (by first | (dsimp only; omega) | exact LeS.le | exact LeS.add _ | (simp; done) | (simp; omega)) _))), by rw [dropV_snoc_in Hx.out h1]; exact hown2.out⟩
        case measure => simp [intOf]; omega
      · have H1 := Lib.hid h1; clear h1
        go_wp2_with fail
        go_roundw
        case rel => exact ⟨k + 1, by go_num, by omega, (.of (by repeat (first | exact Ext.refl _ | refine Ext.up ?_ _ | refine Ext.alloc ?_ _ | refine Ext.drew ?_ | refine Ext.setRow ?_ (by first | (dsimp only; omega) | exact LeS.le | exact LeS.add _ | (simp; done) | (simp; omega)) _ | refine Ext.setCell ?_ (by first | (dsimp only; omega) | exact LeS.le | exact LeS.add _ | (simp; done) | (simp; omega)) _))), by rw [dropV_snoc_out Hx.out H1.out]; exact Hown.out.up (by repeat (first | exact Ext.refl _ | refine Ext.up ?_ _ | refine Ext.alloc ?_ _ | refine Ext.drew ?_ | refine Ext.setRow ?_ (by first | (dsimp only; omega) | exact LeS.le | exact LeS.add _ | (simp; done) | (simp; omega)) _ | refine Ext.setCell ?_ (by first | (dsimp only; omega) | exact LeS.le | exact LeS.add _ | (simp; done) | (simp; omega)) _))⟩
        case measure => simp [intOf]; omega
    · go_wp2_with fail
      go_ret
      obtain rfl : k = l.length := by omega
      refine ⟨_, rfl, ⟨z, rfl⟩, ?_⟩
      rw [List.take_length] at hown
      exact hown
/-- What is left without those of an action; nothing of versions that are not valid. -/
def dropR (l : List Ver) (b : Int) : List Ver := if versOk l = true then dropV l b else []
theorem dropR_le (l : List Ver) (b : Int) : (dropR l b).length ≤ l.length := by unfold dropR; split; exact dropV_le l b; simp
set_option maxHeartbeats 1000000 in
theorem l9Drop_any (l : List Ver) (v : Value) (by_ : Int) (w : World) (h : SL (RF Ver.enc) 3 w v l) (hn : l.length ≤ 1073741824) :
    Calls Try.prog 145 #[v, .int .i64 by_] w fun e w' => ∃ v', e = .returned v' ∧ Up w w' ∧ Own Ver.enc 88 3 w.heap.size w' v' (dropV l by_) := by
  obtain ⟨a, cap, rfl, hlen, hc⟩ := h.open
  clear h
  go_enter Try.func145, Try.ntmps145
  go_wp2_with fail
  go_loopw [5, 6] (fun s5 s6 wr => ∃ (k : Nat), s6 = .int .i64 k ∧ k ≤ l.length ∧ Up w wr ∧ Own Ver.enc 88 3 w.heap.size wr s5 (dropV (l.take k) by_)) (fun _ s6 _ => l.length - (intOf s6).toNat)
  case atStart => exact ⟨0, rfl, Nat.zero_le _, (.of (by repeat (first | exact Ext.refl _ | refine Ext.up ?_ _ | refine Ext.alloc ?_ _ | refine Ext.drew ?_ | refine Ext.setRow ?_ (by first | (dsimp only; omega) | exact LeS.le | exact LeS.add _ | (simp; done) | (simp; omega)) _ | refine Ext.setCell ?_ (by first | (dsimp only; omega) | exact LeS.le | exact LeS.add _ | (simp; done) | (simp; omega)) _))), Own.lit (by simp) (by simp) rfl rfl Ver.enc_length (by simp [dropV])⟩
  case round =>
    obtain ⟨k, rfl, hk, ⟨z, rfl⟩, hown⟩ := hrel
    by_cases hlt : k < l.length
    · obtain ⟨x, hxk⟩ := getElem?_some_of_lt hlt
      obtain ⟨b, off, rfl, hb, hcc⟩ := hc k x hxk
      have c0 : w.cell? ⟨b, off + k * 3, none⟩ = some (.int .i64 x.k) := hcc 0 _ rfl
      have c1 : w.cell? ⟨b, off + k * 3 + 1, none⟩ = some (.int .i64 x.b) := hcc 1 _ rfl
      have c2 : w.cell? ⟨b, off + k * 3 + 2, none⟩ = some (.int .i64 x.v) := hcc 2 _ rfl
      have hle : (dropV (l.take k) by_).length ≤ k := Nat.le_trans (dropV_le _ _) (List.length_take_le _ _)
      have Hx := Lib.hid hxk; have Hown := Lib.hid hown
      clear hc hcc hxk hown
      rcases ne_cases x.b by_ with ⟨h1, h1'⟩ | ⟨h1, h1'⟩
      · go_wp2_with (at_builtin; refine wpList_push1 fVer rfl (.tmp 21) (.tmp 26) rfl Ver.enc w x (dropV (l.take k) by_) rfl (Hown.out.up (by repeat (first | exact Ext.refl _ | refine Ext.up ?_ _ | refine Ext.alloc ?_ _ | refine Ext.drew ?_ | refine Ext.setRow ?_ (by first | (dsimp only; omega) | exact LeS.le | exact LeS.add _ | (simp; done) | (simp; omega)) _ | refine Ext.setCell ?_ (by first | (dsimp only; omega) | exact LeS.le | exact LeS.add _ | (simp; done) | (simp; omega)) _))) (by repeat (first | exact Ext.refl _ | refine Ext.up ?_ _ | refine Ext.alloc ?_ _ | refine Ext.drew ?_ | refine Ext.setRow ?_ (by first | (dsimp only; omega) | exact LeS.le | exact LeS.add _ | (simp; done) | (simp; omega)) _ | refine Ext.setCell ?_ (by first | (dsimp only; omega) | exact LeS.le | exact LeS.add _ | (simp; done) | (simp; omega)) _)) rfl (by go_simp) rfl rfl (oneV x) (by omega) (by omega) ?_; intro v1 z1 hown1)
        have hown2 := Lib.hid hown1; clear hown1
        go_wp2_with fail
        go_roundw
        case rel => exact ⟨k + 1, by go_num, by omega, (.of (by repeat (first | exact Ext.refl _ | refine Ext.up ?_ _ | refine Ext.alloc ?_ _ | refine Ext.drew ?_ | refine Ext.setRow ?_ (by first | (dsimp only; omega) | exact LeS.le | exact LeS.add _ | (simp; done) | (simp; omega)) _ | refine Ext.setCell ?_ (by first | (dsimp only; omega) | exact LeS.le | exact LeS.add _ | (simp; done) | (simp; omega)) _))), by rw [dropV_snoc_in Hx.out h1]; exact hown2.out⟩
        case measure => simp [intOf]; omega
      · have H1 := Lib.hid h1; clear h1
        go_wp2_with fail
        go_roundw
        case rel => exact ⟨k + 1, by go_num, by omega, (.of (by repeat (first | exact Ext.refl _ | refine Ext.up ?_ _ | refine Ext.alloc ?_ _ | refine Ext.drew ?_ | refine Ext.setRow ?_ (by first | (dsimp only; omega) | exact LeS.le | exact LeS.add _ | (simp; done) | (simp; omega)) _ | refine Ext.setCell ?_ (by first | (dsimp only; omega) | exact LeS.le | exact LeS.add _ | (simp; done) | (simp; omega)) _))), by rw [dropV_snoc_out Hx.out H1.out]; exact Hown.out.up (by repeat (first | exact Ext.refl _ | refine Ext.up ?_ _ | refine Ext.alloc ?_ _ | refine Ext.drew ?_ | refine Ext.setRow ?_ (by first | (dsimp only; omega) | exact LeS.le | exact LeS.add _ | (simp; done) | (simp; omega)) _ | refine Ext.setCell ?_ (by first | (dsimp only; omega) | exact LeS.le | exact LeS.add _ | (simp; done) | (simp; omega)) _))⟩
        case measure => simp [intOf]; omega
    · go_wp2_with fail
      go_ret
      obtain rfl : k = l.length := by omega
      refine ⟨_, rfl, ⟨z, rfl⟩, ?_⟩
      rw [List.take_length] at hown
      exact hown
theorem iDropVersions_any (l : List Ver) (v : Value) (by_ : Int) (w : World) (h : SL (RF Ver.enc) 3 w v l) (hn : l.length ≤ 1073741824) :
    Calls Try.prog 44 #[v, .int .i64 by_] w fun e w' => ∃ v', e = .returned v' ∧ Up w w' ∧ Own Ver.enc 88 3 w.heap.size w' v' (dropR l by_) := by
  have H := Lib.hid h; clear h
  rcases hv : versOk l with _ | _
  · rw [dropR, hv, if_neg (by decide)]
    go_enter Try.func44, Try.ntmps44
    go_wp2_with (go_at_call 43; refine (iVersionsValid_any l _ _ H.out).mono ?_; rintro e w' ⟨rfl, z, rfl⟩)
    go_ret
    exact ⟨_, rfl, (.of (by repeat (first | exact Ext.refl _ | refine Ext.up ?_ _ | refine Ext.alloc ?_ _ | refine Ext.drew ?_ | refine Ext.setRow ?_ (by first | (dsimp only; omega) | exact LeS.le | exact LeS.add _ | (simp; done) | (simp; omega)) _ | refine Ext.setCell ?_ (by first | (dsimp only; omega) | exact LeS.le | exact LeS.add _ | (simp; done) | (simp; omega)) _))), Own.nil _ _ _ _ _⟩
  · rw [dropR, hv, if_pos rfl]
    go_enter Try.func44, Try.ntmps44
    go_wp2_with fail
    refine (iVersionsValid_any l _ _ H.out).mono ?_; rintro e w' ⟨rfl, z, rfl⟩
    go_wp2_with fail
    refine (without_any l _ _ _ (H.out.up (by repeat (first | exact Ext.refl _ | refine Ext.up ?_ _ | refine Ext.alloc ?_ _ | refine Ext.drew ?_ | refine Ext.setRow ?_ (by first | (dsimp only; omega) | exact LeS.le | exact LeS.add _ | (simp; done) | (simp; omega)) _ | refine Ext.setCell ?_ (by first | (dsimp only; omega) | exact LeS.le | exact LeS.add _ | (simp; done) | (simp; omega)) _))) hn).mono ?_; rintro e w' ⟨v', rfl, ⟨z', rfl⟩, ho⟩
    have HO := Lib.hid ho; clear ho
    go_wp2_with fail
    go_ret
    exact ⟨_, rfl, (.of (by repeat (first | exact Ext.refl _ | refine Ext.up ?_ _ | refine Ext.alloc ?_ _ | refine Ext.drew ?_ | refine Ext.setRow ?_ (by first | (dsimp only; omega) | exact LeS.le | exact LeS.add _ | (simp; done) | (simp; omega)) _ | refine Ext.setCell ?_ (by first | (dsimp only; omega) | exact LeS.le | exact LeS.add _ | (simp; done) | (simp; omega)) _))), HO.out.lo z.ext.size⟩
end Go.Proofs.Ytkboefmkfpnpjaa
namespace Go.Proofs.Ytkboefmkfpnpjaa
open Go Go.RowKit

def mkV (by_ : Int) (e : Ent) : Ver := ⟨e.k, by_, e.v⟩
def insV (x : Ver) (l : List Ver) : List Ver := l.takeWhile (fun y => verLt y x) ++ x :: l.dropWhile (fun y => verLt y x)
def putTo (by_ : Int) (out : List Ver) (u : List Ent) : List Ver := u.foldl (fun o e => insV (mkV by_ e) o) out
def putV (l : List Ver) (by_ : Int) (u : List Ent) : List Ver := putTo by_ (dropV l by_) u
theorem insV_length (x : Ver) (l : List Ver) : (insV x l).length = l.length + 1 := by
  have := congrArg List.length (List.takeWhile_append_dropWhile (p := fun y => verLt y x) (l := l))
  simp only [List.length_append] at this
  simp [insV]; omega
theorem putTo_length (by_ : Int) : ∀ (u : List Ent) (out : List Ver), (putTo by_ out u).length = out.length + u.length
  | [], out => by simp [putTo]
  | e :: u, out => by
    have := putTo_length by_ u (insV (mkV by_ e) out)
    rw [insV_length] at this
    simp only [putTo, List.foldl_cons, List.length_cons] at *; omega
theorem putTo_snoc (by_ : Int) (out : List Ver) {u : List Ent} {k : Nat} {e : Ent} (h : u[k]? = some e) : putTo by_ out (u.take (k + 1)) = insV (mkV by_ e) (putTo by_ out (u.take k)) := by
  rw [List.take_add_one, h]; simp [putTo]
theorem insV_perm (x : Ver) (l : List Ver) : (insV x l).Perm (x :: l) := by
  unfold insV
  refine List.perm_middle.trans (List.Perm.cons x ?_)
  rw [List.takeWhile_append_dropWhile]
theorem verLt_trans {x y z : Ver} (h : verLt x y = true) (h' : verLt y z = true) : verLt x z = true := by rw [verLt_iff] at *; omega
theorem verLt_or {x y : Ver} (h : x.k ≠ y.k ∨ x.b ≠ y.b) : verLt x y = true ∨ verLt y x = true := by rw [verLt_iff, verLt_iff]; omega
theorem insV_sorted {x : Ver} {l : List Ver} (h : l.Pairwise fun a b => verLt a b = true) (hd : ∀ y ∈ l, verLt y x = true ∨ verLt x y = true) : (insV x l).Pairwise fun a b => verLt a b = true := by
  induction l with
  | nil => simp [insV]
  | cons y l ih =>
    rw [List.pairwise_cons] at h
    unfold insV
    rcases hy : verLt y x with _ | _
    · have hxy : verLt x y = true := by rcases hd y (by simp) with h1 | h1; rw [hy] at h1; cases h1; exact h1
      simp only [List.takeWhile_cons, List.dropWhile_cons, hy, Bool.false_eq_true, if_false, List.nil_append, List.pairwise_cons]
      refine ⟨fun z hz => ?_, h⟩
      rcases List.mem_cons.1 hz with rfl | hz
      · exact hxy
      · exact verLt_trans hxy (h.1 z hz)
    · simp only [List.takeWhile_cons, List.dropWhile_cons, hy, if_true, List.cons_append, List.pairwise_cons]
      refine ⟨fun z hz => ?_, ih h.2 fun y hy => hd y (by simp [hy])⟩
      have : z ∈ x :: l := (insV_perm x l).mem_iff.1 hz
      rcases List.mem_cons.1 this with rfl | hz'
      · exact hy
      · exact h.1 z hz'
theorem putTo_perm (by_ : Int) : ∀ (u : List Ent) (out : List Ver), (putTo by_ out u).Perm (out ++ u.map (mkV by_))
  | [], out => by simp [putTo]
  | e :: u, out => by
    have ih := putTo_perm by_ u (insV (mkV by_ e) out)
    show (putTo by_ (insV (mkV by_ e) out) u).Perm _
    refine ih.trans ?_
    rw [List.map_cons]
    refine ((insV_perm _ _).append_right _).trans ?_
    exact List.perm_middle.symm
theorem putTo_sorted (by_ : Int) : ∀ (u : List Ent) (out : List Ver), out.Pairwise (fun a b => verLt a b = true) → (∀ y ∈ out, ∀ e ∈ u, y.k ≠ e.k ∨ y.b ≠ by_) → u.Pairwise (fun a b => a.k < b.k) → (putTo by_ out u).Pairwise fun a b => verLt a b = true
  | [], out, h, _, _ => h
  | e :: u, out, h, hd, hu => by
    rw [List.pairwise_cons] at hu
    refine putTo_sorted by_ u (insV (mkV by_ e) out) (insV_sorted h fun y hy => verLt_or (hd y hy e (by simp))) (fun y hy e' he' => ?_) hu.2
    have : y ∈ mkV by_ e :: out := (insV_perm _ _).mem_iff.1 hy
    rcases List.mem_cons.1 this with rfl | hy'
    · left; have := hu.1 e' he'; show e.k ≠ e'.k; omega
    · exact hd y hy' e' (by simp [he'])
theorem vers_sorted {l : List Ver} (h : versOk l = true) : l.Pairwise fun a b => verLt a b = true := by
  have key : ∀ n (i : Nat) x y, l[i]? = some x → l[i + (n + 1)]? = some y → verLt x y = true := by
    intro n
    induction n with
    | zero =>
      intro i x y hx hy
      have := upTo_iff.1 h _ (List.getElem?_eq_some_iff.1 hy).1
      rw [verAt_next hy (by omega) (by simpa using hx), Bool.and_eq_true] at this
      exact this.2
    | succ n ih =>
      intro i x y hx hy
      have hlt := (List.getElem?_eq_some_iff.1 hy).1
      obtain ⟨z, hz⟩ := getElem?_some_of_lt (show i + (n + 1) < l.length by omega)
      have h1 := ih i x z hx hz
      have := upTo_iff.1 h _ hlt
      rw [verAt_next hy (by omega) (by simpa using hz), Bool.and_eq_true] at this
      exact verLt_trans h1 this.2
  rw [List.pairwise_iff_getElem]
  intro i j hi hj hij
  exact key (j - i - 1) i l[i] l[j] (by simp) (by rw [show i + (j - i - 1 + 1) = j from by omega]; simp)
theorem versOk_mem {l : List Ver} (h : versOk l = true) {x : Ver} (hx : x ∈ l) : verIn x = true := by
  obtain ⟨i, hi⟩ := List.getElem?_of_mem hx
  have := upTo_iff.1 h i (List.getElem?_eq_some_iff.1 hi).1
  simp only [verAt, hi, Bool.and_eq_true] at this
  exact this.1
theorem dropV_sorted {l : List Ver} (h : l.Pairwise fun a b => verLt a b = true) (b : Int) : (dropV l b).Pairwise fun a b => verLt a b = true := h.filter _
theorem dropV_ne {l : List Ver} {b : Int} {x : Ver} (h : x ∈ dropV l b) : x ∈ l ∧ x.b ≠ b := by simpa [dropV] using h
theorem putV_sorted {l : List Ver} {by_ : Int} {u : List Ent} (h : l.Pairwise fun a b => verLt a b = true) (hu : u.Pairwise fun a b => a.k < b.k) : (putV l by_ u).Pairwise fun a b => verLt a b = true :=
  putTo_sorted by_ u _ (dropV_sorted h by_) (fun _ hy _ _ => .inr (dropV_ne hy).2) hu
/-- What is sorted and has the same versions is the same. -/
theorem putV_unique {l : List Ver} {by_ : Int} {u : List Ent} {m : List Ver} (h : l.Pairwise fun a b => verLt a b = true) (hu : u.Pairwise fun a b => a.k < b.k)
    (hp : m.Perm (dropV l by_ ++ u.map (mkV by_))) (hs : m.Pairwise fun a b => verLt b a = false) : m = putV l by_ u := by
  have hq : (putV l by_ u).Perm (dropV l by_ ++ u.map (mkV by_)) := putTo_perm by_ u _
  have hsrt := putV_sorted (by_ := by_) h hu
  have hw : (putV l by_ u).Pairwise fun a b => verLt b a = false := hsrt.imp fun {a b} hab => by
    rcases hba : verLt b a with _ | _
    · rfl
    · rw [verLt_iff] at hab hba; omega
  refine List.Perm.eq_of_pairwise (le := fun a b => verLt b a = false) (fun a b ha hb h1 h2 => ?_) hs hw (hp.trans hq.symm)
  have hb' : a ∈ putV l by_ u := (hp.trans hq.symm).mem_iff.1 ha
  obtain ⟨i, hi⟩ := List.getElem?_of_mem hb'
  obtain ⟨j, hj⟩ := List.getElem?_of_mem hb
  by_cases hij : i = j
  · subst hij; rw [hi] at hj; cases hj; rfl
  · exfalso
    obtain ⟨hi1, hi2⟩ := List.getElem?_eq_some_iff.1 hi
    obtain ⟨hj1, hj2⟩ := List.getElem?_eq_some_iff.1 hj
    rw [List.pairwise_iff_getElem] at hsrt
    rcases Nat.lt_or_gt_of_ne hij with h3 | h3
    · have := hsrt i j hi1 hj1 h3; rw [hi2, hj2, h2] at this; cases this
    · have := hsrt j i hj1 hi1 h3; rw [hi2, hj2, h1] at this; cases this
def putOk (l : List Ver) (by_ : Int) (u : List Ent) : Bool := versOk l && (inR by_ 0 9 && entsOk 0 u)
def putR (l : List Ver) (by_ : Int) (u : List Ent) : List Ver := if putOk l by_ u = true then putV l by_ u else []
theorem putR_no {l : List Ver} {by_ : Int} {u : List Ent} (h : putOk l by_ u = false) : putR l by_ u = [] := by unfold putR; rw [h]; rfl
theorem putR_yes {l : List Ver} {by_ : Int} {u : List Ent} (h : putOk l by_ u = true) : putR l by_ u = putV l by_ u := by unfold putR; rw [h]; rfl
theorem putV_le (l : List Ver) (by_ : Int) (u : List Ent) : (putV l by_ u).length ≤ l.length + u.length := by
  unfold putV; rw [putTo_length]; have := dropV_le l by_; omega
theorem putR_le (l : List Ver) (by_ : Int) (u : List Ent) : (putR l by_ u).length ≤ l.length + u.length := by
  unfold putR; split; exact putV_le l by_ u; simp
end Go.Proofs.Ytkboefmkfpnpjaa
namespace Go.Proofs.Ytkboefmkfpnpjaa
open Go Go.RowKit
theorem wrap_i64_nat (n : Nat) (h : n < 9223372036854775808) : IntKind.i64.wrap (n : Int) = n := IntWalk.i64_in _ ⟨by omega, by omega⟩
theorem ofInt_i64n (a : Nat) (ha : a < 9223372036854775808) : (BitVec.ofInt 64 (a : Int)).toNat = a := by
  rw [BitVec.ofInt_natCast, BitVec.toNat_ofNat]; exact Nat.mod_eq_of_lt (by omega)
theorem i64_or_nat (a b : Nat) (ha : a < 9223372036854775808) (hb : b < 9223372036854775808) : bits .or .i64 (a : Int) (b : Int) = ((a ||| b : Nat) : Int) := by
  have h : a ||| b < 2 ^ 63 := Nat.or_lt_two_pow (n := 63) (by omega) (by omega)
  show IntKind.i64.wrap ((BitVec.ofInt 64 (a : Int) ||| BitVec.ofInt 64 (b : Int)).toNat : Int) = _
  rw [BitVec.toNat_or, ofInt_i64n a ha, ofInt_i64n b hb]
  exact wrap_i64_nat _ (by omega)
theorem i64_and_nat (a b : Nat) (ha : a < 9223372036854775808) (hb : b < 9223372036854775808) : bits .and .i64 (a : Int) (b : Int) = ((a &&& b : Nat) : Int) := by
  have h : a &&& b < 2 ^ 63 := Nat.and_lt_two_pow (n := 63) _ (by omega)
  show IntKind.i64.wrap ((BitVec.ofInt 64 (a : Int) &&& BitVec.ofInt 64 (b : Int)).toNat : Int) = _
  rw [BitVec.toNat_and, ofInt_i64n a ha, ofInt_i64n b hb]
  exact wrap_i64_nat _ (by omega)
theorem i64_xor_nat (a b : Nat) (ha : a < 9223372036854775808) (hb : b < 9223372036854775808) : bits .xor .i64 (a : Int) (b : Int) = ((a ^^^ b : Nat) : Int) := by
  have h : a ^^^ b < 2 ^ 63 := Nat.xor_lt_two_pow (n := 63) (by omega) (by omega)
  show IntKind.i64.wrap ((BitVec.ofInt 64 (a : Int) ^^^ BitVec.ofInt 64 (b : Int)).toNat : Int) = _
  rw [BitVec.toNat_xor, ofInt_i64n a ha, ofInt_i64n b hb]
  exact wrap_i64_nat _ (by omega)
end Go.Proofs.Ytkboefmkfpnpjaa
namespace Go.Proofs.Ytkboefmkfpnpjaa
open Go Go.RowKit

def kindOk (kind dst amt : Int) : Bool := if kind = 1 ∨ kind = 6 then decide (dst = 0) else if kind = 3 ∨ kind = 4 ∨ kind = 5 then decide (amt = 0) else decide (kind = 2)
def Actn.ok (x : Actn) : Bool := inR x.src 0 31 && (inR x.dst 0 31 && (inR x.amt 0 1000000 && kindOk x.kind x.dst x.amt))
/-- The keys that an action reads. -/
def Actn.rk (x : Actn) : List Int := if x.kind = 1 then [] else if x.kind = 3 ∨ x.kind = 6 ∨ x.src = x.dst then [x.src] else [x.src, x.dst]
/-- The keys that it may write. -/
def Actn.wk (x : Actn) : List Int := if x.kind = 1 ∨ x.kind = 6 then [x.src] else if x.kind = 3 ∨ x.kind = 5 ∨ x.src = x.dst then [x.dst] else [min x.src x.dst, max x.src x.dst]
theorem kinds (k : Int) : k = 1 ∨ k = 2 ∨ k = 3 ∨ k = 4 ∨ k = 5 ∨ k = 6 ∨ (k ≠ 1 ∧ k ≠ 2 ∧ k ≠ 3 ∧ k ≠ 4 ∧ k ≠ 5 ∧ k ≠ 6) := by omega
theorem Actn.rk_in {x : Actn} (h : x.ok = true) : ∀ n ∈ x.rk, 0 ≤ n ∧ n ≤ 31 := by
  simp only [Actn.ok, Bool.and_eq_true, inR_iff] at h
  obtain ⟨⟨h1, h2⟩, ⟨h3, h4⟩, _⟩ := h
  intro n hn
  unfold Actn.rk at hn
  split at hn
  · simp at hn
  · split at hn <;> simp at hn
    · omega
    · rcases hn with rfl | rfl <;> omega
theorem Actn.wk_in {x : Actn} (h : x.ok = true) : ∀ n ∈ x.wk, 0 ≤ n ∧ n ≤ 31 := by
  simp only [Actn.ok, Bool.and_eq_true, inR_iff] at h
  obtain ⟨⟨h1, h2⟩, ⟨h3, h4⟩, _⟩ := h
  intro n hn
  unfold Actn.wk at hn
  split at hn
  · simp at hn; omega
  · split at hn <;> simp at hn
    · omega
    · rcases hn with rfl | rfl <;> omega
theorem Actn.rk_le (x : Actn) : x.rk.length ≤ 2 := by unfold Actn.rk; split <;> (try split) <;> simp
theorem Actn.wk_le (x : Actn) : x.wk.length ≤ 2 := by unfold Actn.wk; split <;> (try split) <;> simp

/-- Keys as bits. -/
def maskN (l : List Int) : Nat := l.foldl (fun m k => m ||| 2 ^ k.toNat) 0
theorem maskN_snoc (l : List Int) (k : Int) : maskN (l ++ [k]) = maskN l ||| 2 ^ k.toNat := by simp [maskN]
theorem maskN_lt (l : List Int) (h : ∀ n ∈ l, 0 ≤ n ∧ n ≤ 31) : maskN l < 4294967296 := by
  have key : ∀ (l : List Int) (m : Nat), m < 2 ^ 32 → (∀ n ∈ l, 0 ≤ n ∧ n ≤ 31) → l.foldl (fun m k => m ||| 2 ^ k.toNat) m < 2 ^ 32 := by
    intro l
    induction l with
    | nil => intro m hm _; simpa using hm
    | cons k l ih =>
      intro m hm h
      simp only [List.foldl_cons]
      refine ih _ (Nat.or_lt_two_pow hm ?_) (fun n hn => h n (by simp [hn]))
      have := h k (by simp)
      exact Nat.pow_lt_pow_right (by decide) (by omega)
  exact key l 0 (by decide) h
theorem maskN_bit (l : List Int) (i : Nat) (h : ∀ n ∈ l, 0 ≤ n) : (maskN l).testBit i = decide ((i : Int) ∈ l) := by
  have key : ∀ (l : List Int) (m : Nat), (∀ n ∈ l, 0 ≤ n) → (l.foldl (fun m k => m ||| 2 ^ k.toNat) m).testBit i = (m.testBit i || decide ((i : Int) ∈ l)) := by
    intro l
    induction l with
    | nil => intro m _; simp
    | cons k l ih =>
      intro m h
      simp only [List.foldl_cons]
      rw [ih _ (fun n hn => h n (by simp [hn])), Nat.testBit_or, Nat.testBit_two_pow]
      have := h k (by simp)
      have e : decide (k.toNat = i) = decide ((i : Int) = k) := by rw [Bool.eq_iff_iff]; simp; omega
      rw [e, Bool.or_assoc]
      simp
  have := key l 0 h
  simpa [maskN] using this
/-- A key of both. -/
def common (a b : List Int) : Bool := a.any fun x => b.contains x
theorem maskN_and {a b : List Int} (ha : ∀ n ∈ a, 0 ≤ n) (hb : ∀ n ∈ b, 0 ≤ n) : (maskN a &&& maskN b ≠ 0) ↔ common a b = true := by
  constructor
  · intro h
    obtain ⟨i, hi⟩ := Nat.exists_testBit_of_ne_zero h
    rw [Nat.testBit_and, maskN_bit a i ha, maskN_bit b i hb] at hi
    simp at hi
    simp only [common, List.any_eq_true]
    exact ⟨i, hi.1, by simpa using hi.2⟩
  · intro h
    simp only [common, List.any_eq_true] at h
    obtain ⟨x, hx, hy⟩ := h
    have h0 := ha x hx
    have e : (x.toNat : Int) = x := by omega
    intro hz
    have h1 : (maskN a &&& maskN b).testBit x.toNat = true := by
      rw [Nat.testBit_and, maskN_bit a _ ha, maskN_bit b _ hb, e]
      simp at hy
      simp [hx, hy]
    rw [hz] at h1
    simp at h1
/-- Two actions that may not change their order. -/
def conf (a b : Actn) : Bool := common a.wk b.wk || (common a.wk b.rk || common a.rk b.wk)
def conflict (a b : Actn) : Bool := a.ok && (b.ok && conf a b)
end Go.Proofs.Ytkboefmkfpnpjaa
namespace Go.Proofs.Ytkboefmkfpnpjaa
open Go Go.RowKit

/-! ### One value more -/
def putStep (key v : Int) (p : List Ent × Bool) (e : Ent) : List Ent × Bool :=
  (p.1 ++ (if (!p.2 && decide (key ≤ e.k)) = true then [⟨key, v⟩] else []) ++ (if e.k ≠ key then [e] else []), p.2 || decide (key ≤ e.k))
def putTo2 (p0 : Bool) (key v : Int) (l : List Ent) : List Ent × Bool := l.foldl (putStep key v) ([], p0)
def putF (p0 : Bool) (key v : Int) (l : List Ent) : List Ent := if (putTo2 p0 key v l).2 = true then (putTo2 p0 key v l).1 else (putTo2 p0 key v l).1 ++ [⟨key, v⟩]
theorem putTo2_snoc (p0 : Bool) (key v : Int) {l : List Ent} {k : Nat} {x : Ent} (h : l[k]? = some x) : putTo2 p0 key v (l.take (k + 1)) = putStep key v (putTo2 p0 key v (l.take k)) x := by
  rw [List.take_add_one, h]; simp [putTo2]
theorem putTo2_le (p0 : Bool) (key v : Int) (l : List Ent) : (putTo2 p0 key v l).1.length ≤ 2 * l.length := by
  have key' : ∀ (l : List Ent) (p : List Ent × Bool), (l.foldl (putStep key v) p).1.length ≤ p.1.length + 2 * l.length := by
    intro l
    induction l with
    | nil => intro p; simp
    | cons e l ih =>
      intro p
      have := ih (putStep key v p e)
      have h2 : (putStep key v p e).1.length ≤ p.1.length + 2 := by
        unfold putStep
        dsimp only
        rw [List.length_append, List.length_append]
        split <;> split <;> simp <;> omega
      simp only [List.foldl_cons, List.length_cons] at *; omega
  have := key' l ([], p0)
  simpa [putTo2] using this
theorem foldl_placed (key v : Int) : ∀ (l : List Ent) (acc : List Ent), l.foldl (putStep key v) (acc, true) = (acc ++ l.filter (fun e => decide (e.k ≠ key)), true)
  | [], acc => by simp
  | e :: l, acc => by
    rw [List.foldl_cons]
    by_cases h : e.k = key
    · have : putStep key v (acc, true) e = (acc, true) := by simp [putStep, h]
      rw [this, foldl_placed key v l acc]; simp [h]
    · have : putStep key v (acc, true) e = (acc ++ [e], true) := by simp [putStep, h]
      rw [this, foldl_placed key v l (acc ++ [e])]; simp [h]
/-- In a list of ascending keys. -/
def putS (key v : Int) (put : Bool) (l : List Ent) : List Ent := l.filter (fun e => decide (e.k < key)) ++ (if put = true then [⟨key, v⟩] else []) ++ l.filter (fun e => decide (key < e.k))
theorem filter_ne {key : Int} : ∀ {l : List Ent}, l.Pairwise (fun a b => a.k < b.k) → l.filter (fun e => decide (e.k ≠ key)) = l.filter (fun e => decide (e.k < key)) ++ l.filter (fun e => decide (key < e.k))
  | [], _ => rfl
  | e :: l, h => by
    rw [List.pairwise_cons] at h
    have ih := filter_ne (key := key) h.2
    by_cases h1 : e.k < key
    · have h2 : e.k ≠ key := by omega
      have h3 : ¬ key < e.k := by omega
      simp only [List.filter_cons, h1, h2, h3, decide_true, decide_false, if_true, ne_eq, not_false_eq_true, Bool.false_eq_true, if_false, List.cons_append, ih]
    · have hnone : l.filter (fun e => decide (e.k < key)) = [] := by
        rw [List.filter_eq_nil_iff]; intro x hx; have := h.1 x hx; simp; omega
      rw [hnone, List.nil_append] at ih
      by_cases h2 : e.k = key
      · have h3 : ¬ key < e.k := by omega
        simp only [List.filter_cons, h1, h2, h3, decide_true, decide_false, if_true, ne_eq, not_true_eq_false, Bool.false_eq_true, if_false, ih, hnone, List.nil_append]
        simp [h2]
      · have h3 : key < e.k := by omega
        simp only [List.filter_cons, h1, h2, h3, decide_true, decide_false, if_true, ne_eq, not_false_eq_true, Bool.false_eq_true, if_false, ih, hnone, List.nil_append]
theorem putF_asc {key v : Int} {l : List Ent} (h : l.Pairwise fun a b => a.k < b.k) (p0 : Bool) : putF p0 key v l = putS key v (!p0) l := by
  cases p0 with
  | true =>
    unfold putF putTo2
    rw [foldl_placed]
    simp only [if_true, List.nil_append, putS, Bool.not_true, Bool.false_eq_true, if_false, List.append_nil]
    exact filter_ne h
  | false =>
    have key' : ∀ (l acc : List Ent), l.Pairwise (fun a b => a.k < b.k) → (let r := l.foldl (putStep key v) (acc, false); if r.2 = true then r.1 else r.1 ++ [⟨key, v⟩]) = acc ++ putS key v true l := by
      intro l
      induction l with
      | nil => intro acc _; simp [putS]
      | cons e l ih =>
        intro acc h
        rw [List.pairwise_cons] at h
        by_cases h1 : e.k < key
        · have e1 : putStep key v (acc, false) e = (acc ++ [e], false) := by
            have h2 : ¬ key ≤ e.k := by omega
            have h3 : e.k ≠ key := by omega
            simp [putStep, h2, h3]
          have h3 : ¬ key < e.k := by omega
          have := ih (acc ++ [e]) h.2
          rw [List.foldl_cons, e1, this]
          simp [putS, h1, h3]
        · have hnone : l.filter (fun e => decide (e.k < key)) = [] := by
            rw [List.filter_eq_nil_iff]; intro x hx; have := h.1 x hx; simp; omega
          have hall : l.filter (fun e => decide (key < e.k)) = l := by
            rw [List.filter_eq_self]; intro x hx; have := h.1 x hx; simp; omega
          have hall' : l.filter (fun e => decide (e.k ≠ key)) = l := by
            rw [List.filter_eq_self]; intro x hx; have := h.1 x hx; simp; omega
          have e1 : putStep key v (acc, false) e = (acc ++ [⟨key, v⟩] ++ (if e.k ≠ key then [e] else []), true) := by
            have h2 : key ≤ e.k := by omega
            simp [putStep, h2]
          rw [List.foldl_cons, e1, foldl_placed, hall']
          by_cases h2 : e.k = key
          · have h3 : ¬ key < e.k := by omega
            simp only [putS, List.filter_cons, h1, h3, hnone, hall, if_true, decide_false, Bool.false_eq_true, if_false, List.nil_append, h2, ne_eq, not_true_eq_false, List.append_nil]
            simp
          · have h3 : key < e.k := by omega
            simp only [putS, List.filter_cons, h1, h3, hnone, hall, if_true, decide_false, decide_true, Bool.false_eq_true, if_false, List.nil_append, h2, ne_eq, not_false_eq_true]
            simp
    have h1 := key' l [] h
    rw [List.nil_append] at h1
    exact h1
/-! ### Lists of ascending keys by their values -/
theorem atK_append (a b : List Ent) (key : Int) : atK (a ++ b) key = match a.find? (fun e => e.k == key) with | some e => e.v | none => atK b key := by
  unfold atK
  rw [List.find?_append]
  cases a.find? (fun e => e.k == key) <;> rfl
theorem find_filter_ne {l : List Ent} {p : Ent → Bool} {key : Int} (h : ∀ e, e.k = key → p e = false) : (l.filter p).find? (fun e => e.k == key) = none := by
  rw [List.find?_eq_none]
  intro e he
  rw [List.mem_filter] at he
  simp only [beq_iff_eq]
  intro hk
  rw [h e hk] at he; exact absurd he.2 (by simp)
theorem find_filter_eq {l : List Ent} {p : Ent → Bool} {key : Int} (h : ∀ e, e.k = key → p e = true) : (l.filter p).find? (fun e => e.k == key) = l.find? (fun e => e.k == key) := by
  rw [List.find?_filter]
  congr 1
  funext e
  by_cases hk : e.k = key
  · simp [hk, h e hk]
  · simp [hk]
theorem atK_putS {key v : Int} {put : Bool} {l : List Ent} (hv : put = false → v = 0) (n : Int) : atK (putS key v put l) n = if n = key then v else atK l n := by
  unfold putS
  rw [atK_append, List.find?_append]
  by_cases h : n = key
  · subst h
    rw [find_filter_ne (fun e he => by simp; omega), Option.none_or, if_pos rfl]
    cases put with
    | true => simp
    | false =>
      simp only [Bool.false_eq_true, if_false, List.find?_nil]
      rw [hv rfl]
      unfold atK
      rw [find_filter_ne (fun e he => by simp; omega)]
  · rw [if_neg h]
    have hm : (if put = true then [(⟨key, v⟩ : Ent)] else []).find? (fun e => e.k == n) = none := by
      split
      · simp; omega
      · rfl
    rw [hm, Option.or_none]
    by_cases h1 : n < key
    · rw [find_filter_eq (fun e he => by simp; omega)]
      have : atK (l.filter fun e => decide (key < e.k)) n = 0 := by unfold atK; rw [find_filter_ne (fun e he => by simp; omega)]
      rw [this]
      unfold atK
      cases l.find? (fun e => e.k == n) <;> rfl
    · rw [find_filter_ne (fun e he => by simp; omega)]
      unfold atK
      simp only
      rw [find_filter_eq (fun e he => by simp; omega)]
theorem entsOk_of {least : Int} {l : List Ent} (hs : l.Pairwise fun a b => a.k < b.k) (hin : ∀ x ∈ l, 0 ≤ x.k ∧ x.k ≤ 31 ∧ least ≤ x.v ∧ x.v ≤ 1000000) : entsOk least l = true := by
  refine upTo_iff.2 fun i hi => ?_
  obtain ⟨x, hx⟩ := getElem?_some_of_lt hi
  have h1 := hin x (List.mem_of_getElem? hx)
  have h2 : (inR x.k 0 31 && inR x.v least 1000000) = true := by simp only [Bool.and_eq_true, inR_iff]; omega
  by_cases h0 : 0 < i
  · obtain ⟨y, hy⟩ := getElem?_some_of_lt (show i - 1 < l.length by omega)
    rw [entAt_next hx h0 hy, h2, Bool.true_and, decide_eq_true_eq]
    obtain ⟨hi1, hi2⟩ := List.getElem?_eq_some_iff.1 hx
    obtain ⟨hj1, hj2⟩ := List.getElem?_eq_some_iff.1 hy
    rw [List.pairwise_iff_getElem] at hs
    have := hs (i - 1) i hj1 hi1 (by omega)
    rw [hi2, hj2] at this; exact this
  · rw [entAt_first hx h0, h2]
theorem putS_ok {least : Int} {key v : Int} {put : Bool} {l : List Ent} (h : entsOk least l = true) (k0 : 0 ≤ key) (k1 : key ≤ 31) (hv : put = true → least ≤ v ∧ v ≤ 1000000) : entsOk least (putS key v put l) = true := by
  have hs := asc_of h
  refine entsOk_of ?_ fun x hx => ?_
  · unfold putS
    rw [List.pairwise_append, List.pairwise_append]
    refine ⟨⟨hs.filter _, ?_, fun a ha b hb => ?_⟩, hs.filter _, fun a ha b hb => ?_⟩
    · split <;> simp
    · have := (List.mem_filter.1 ha).2
      split at hb
      · simp at hb this; subst hb; exact this
      · simp at hb
    · have h2 := (List.mem_filter.1 hb).2
      simp at h2
      rcases List.mem_append.1 ha with ha | ha
      · have := (List.mem_filter.1 ha).2; simp at this; omega
      · split at ha
        · simp at ha; subst ha; exact h2
        · simp at ha
  · unfold putS at hx
    rcases List.mem_append.1 hx with hx | hx
    · rcases List.mem_append.1 hx with hx | hx
      · exact entsOk_mem h (List.mem_filter.1 hx).1
      · split at hx
        · rename_i hp
          simp at hx; subst hx
          have := hv hp
          exact ⟨k0, k1, this.1, this.2⟩
        · simp at hx
    · exact entsOk_mem h (List.mem_filter.1 hx).1
/-- Stores with the same values are the same. -/
theorem find_asc {l : List Ent} (hs : l.Pairwise fun a b => a.k < b.k) {x : Ent} (hx : x ∈ l) : l.find? (fun e => e.k == x.k) = some x := by
  induction l with
  | nil => cases hx
  | cons a l ih =>
    rw [List.pairwise_cons] at hs
    rw [List.find?_cons]
    rcases List.mem_cons.1 hx with rfl | hx
    · simp
    · have := hs.1 x hx
      have hne : (a.k == x.k) = false := by simp; omega
      simp only [hne]
      exact ih hs.2 hx
theorem sto_mem {a b : List Ent} (ha : entsOk 1 a = true) (hb : entsOk 1 b = true) (h : ∀ key : Int, 0 ≤ key → key ≤ 31 → atK a key = atK b key) {x : Ent} (hx : x ∈ a) : x ∈ b := by
  have hin := entsOk_mem ha hx
  have h1 := h x.k hin.1 hin.2.1
  have h2 : atK a x.k = x.v := by unfold atK; rw [find_asc (asc_of ha) hx]
  rw [h2] at h1
  unfold atK at h1
  split at h1
  · rename_i e he
    have hk := List.find?_some he
    simp at hk
    have hm := List.mem_of_find?_eq_some he
    obtain ⟨k1, v1⟩ := x; obtain ⟨k2, v2⟩ := e
    simp at hk h1; subst hk; subst h1; exact hm
  · omega
theorem ents_perm_eq {a b : List Ent} (ha : a.Pairwise fun x y => x.k < y.k) (hb : b.Pairwise fun x y => x.k < y.k) (h : ∀ x, x ∈ a ↔ x ∈ b) : a = b := by
  have na : a.Nodup := ha.imp fun {x y} hxy e => by subst e; omega
  have nb : b.Nodup := hb.imp fun {x y} hxy e => by subst e; omega
  have hp : a.Perm b := (List.perm_ext_iff_of_nodup na nb).2 h
  exact List.Perm.eq_of_pairwise (le := fun x y : Ent => x.k < y.k) (fun x y _ _ h1 h2 => by omega) ha hb hp
theorem sto_ext {a b : List Ent} (ha : entsOk 1 a = true) (hb : entsOk 1 b = true) (h : ∀ key : Int, 0 ≤ key → key ≤ 31 → atK a key = atK b key) : a = b :=
  ents_perm_eq (asc_of ha) (asc_of hb) fun _ => ⟨fun hx => sto_mem ha hb h hx, fun hx => sto_mem hb ha (fun k h0 h1 => (h k h0 h1).symm) hx⟩
/-! ### Values as a store, and back -/
def valsIn (v : List Int) : Prop := v.length = 32 ∧ ∀ x ∈ v, 0 ≤ x ∧ x ≤ 1000000
theorem stTo_mem {v : List Int} {x : Ent} : ∀ {k : Nat}, x ∈ stTo v k ↔ ∃ i : Nat, i < k ∧ 0 < v.getD i 0 ∧ x = ⟨(i : Int), v.getD i 0⟩
  | 0 => by simp [stTo]
  | k + 1 => by
    rw [stTo, List.mem_append, stTo_mem (k := k)]
    constructor
    · rintro (⟨i, h1, h2⟩ | h)
      · exact ⟨i, by omega, h2⟩
      · split at h
        · rename_i hp; simp at h; exact ⟨k, by omega, hp, h⟩
        · simp at h
    · rintro ⟨i, h1, h2, h3⟩
      by_cases hik : i = k
      · subst hik; right; rw [if_pos h2]; simpa using h3
      · left; exact ⟨i, by omega, h2, h3⟩
theorem stTo_asc (v : List Int) : ∀ k, (stTo v k).Pairwise fun a b => a.k < b.k
  | 0 => by simp [stTo]
  | k + 1 => by
    rw [stTo, List.pairwise_append]
    refine ⟨stTo_asc v k, by split <;> simp, fun a ha b hb => ?_⟩
    obtain ⟨i, h1, _, rfl⟩ := stTo_mem.1 ha
    split at hb
    · simp at hb; subst hb; show (i : Int) < (k : Int); omega
    · simp at hb
theorem valsIn_get {v : List Int} (h : valsIn v) (n : Nat) : 0 ≤ v.getD n 0 ∧ v.getD n 0 ≤ 1000000 := by
  by_cases hn : n < v.length
  · have e : v.getD n 0 = v[n] := by simp [List.getD, hn]
    rw [e]; exact h.2 _ (by simp)
  · have e : v.getD n 0 = 0 := by simp [List.getD, hn]
    rw [e]; omega
theorem storeOf_ok {v : List Int} (h : valsIn v) : entsOk 1 (storeOf v) = true := by
  refine entsOk_of (stTo_asc v 32) fun x hx => ?_
  obtain ⟨i, h1, h2, rfl⟩ := stTo_mem.1 hx
  have := valsIn_get h i
  exact ⟨by show (0 : Int) ≤ (i : Int); omega, by show (i : Int) ≤ 31; omega, by show (1 : Int) ≤ v.getD i 0; omega, this.2⟩
theorem atK_storeOf {v : List Int} (h : valsIn v) {n : Nat} (hn : n < 32) : atK (storeOf v) n = v.getD n 0 := by
  by_cases hp : 0 < v.getD n 0
  · have hm : (⟨(n : Int), v.getD n 0⟩ : Ent) ∈ storeOf v := stTo_mem.2 ⟨n, hn, hp, rfl⟩
    have := find_asc (stTo_asc v 32) hm
    show atK (stTo v 32) n = _
    unfold atK
    rw [show (stTo v 32).find? (fun e => e.k == (n : Int)) = some ⟨(n : Int), v.getD n 0⟩ from this]
  · have h0 := valsIn_get h n
    have hnone : (stTo v 32).find? (fun e => e.k == (n : Int)) = none := by
      rw [List.find?_eq_none]
      intro x hx
      obtain ⟨i, _, h2, rfl⟩ := stTo_mem.1 hx
      simp only [beq_iff_eq]
      intro e
      have : i = n := by have : (i : Int) = (n : Int) := e; omega
      subst this; exact hp h2
    show atK (stTo v 32) n = _
    unfold atK; rw [hnone]; show (0 : Int) = _; omega
theorem valsOf_getD {least : Int} {l : List Ent} (h : entsOk least l = true) {n : Nat} (hn : n < 32) : (valsOf l).getD n 0 = atK l n := by
  simp [List.getD, valsOf_get h hn]
theorem valsOf_in {l : List Ent} (h : entsOk 0 l = true) : valsIn (valsOf l) := by
  refine ⟨valsOf_length l, fun x hx => ?_⟩
  obtain ⟨i, hi⟩ := List.getElem?_of_mem hx
  have hlt : i < 32 := by have := (List.getElem?_eq_some_iff.1 hi).1; rw [valsOf_length] at this; exact this
  rw [valsOf_get h hlt] at hi
  cases hi
  exact atK_in h (by omega) _
theorem storeOf_valsOf {l : List Ent} (h : entsOk 1 l = true) : storeOf (valsOf l) = l := by
  have hv := valsOf_in (entsOk_least (by decide) h)
  refine sto_ext (storeOf_ok hv) h fun key k0 k1 => ?_
  have := atK_storeOf hv (n := key.toNat) (by omega)
  rw [show ((key.toNat : Nat) : Int) = key from by omega] at this
  rw [this, valsOf_getD h (by omega), show ((key.toNat : Nat) : Int) = key from by omega]
theorem valsOf_storeOf {v : List Int} (h : valsIn v) : valsOf (storeOf v) = v := by
  apply List.ext_getElem?
  intro n
  by_cases hn : n < 32
  · rw [valsOf_get (storeOf_ok h) hn, atK_storeOf h hn]
    have : n < v.length := by rw [h.1]; exact hn
    simp [List.getD, this]
  · rw [List.getElem?_eq_none (by rw [valsOf_length]; omega), List.getElem?_eq_none (by rw [h.1]; omega)]
theorem valsIn_set {v : List Int} (h : valsIn v) {n : Nat} {x : Int} (hx : 0 ≤ x ∧ x ≤ 1000000) : valsIn (v.set n x) := by
  refine ⟨by rw [List.length_set]; exact h.1, fun y hy => ?_⟩
  rcases List.mem_or_eq_of_mem_set hy with h1 | h1
  · exact h.2 y h1
  · subst h1; exact hx
theorem valsIn_vsets {l : List Ent} (hl : ∀ x ∈ l, 0 ≤ x.v ∧ x.v ≤ 1000000) : ∀ {v : List Int}, valsIn v → valsIn (vsets v l) := by
  induction l with
  | nil => intro v h; exact h
  | cons e l ih => intro v h; exact ih (fun x hx => hl x (by simp [hx])) (valsIn_set h (hl e (by simp)))
/-- What the reference puts into a store is what the program sets in the values. -/
theorem putF_store {v : List Int} (h : valsIn v) {e : Ent} (k0 : 0 ≤ e.k) (k1 : e.k ≤ 31) (v0 : 0 ≤ e.v) (v1 : e.v ≤ 1000000) : putF (decide (e.v = 0)) e.k e.v (storeOf v) = storeOf (vset v e) := by
  have hs := storeOf_ok h
  have hv2 : valsIn (vset v e) := valsIn_set h ⟨v0, v1⟩
  rw [putF_asc (asc_of hs)]
  refine sto_ext (putS_ok hs k0 k1 fun hp => ?_) (storeOf_ok hv2) fun key h0 h1 => ?_
  · simp at hp; omega
  · rw [atK_putS (fun hp => by simpa using hp)]
    have h2 := atK_storeOf hv2 (n := key.toNat) (by omega)
    have h3 := atK_storeOf h (n := key.toNat) (by omega)
    rw [show ((key.toNat : Nat) : Int) = key from by omega] at h2 h3
    rw [h2, h3]
    have hl : key.toNat < v.length := by rw [h.1]; omega
    have hg := vset_get (v := v) (e := e) k0 hl
    by_cases hk : key = e.k
    · rw [if_pos hk]
      rw [if_pos (by omega)] at hg
      simp [List.getD, hg]
    · rw [if_neg hk]
      rw [if_neg (by omega)] at hg
      simp [List.getD, hg]
end Go.Proofs.Ytkboefmkfpnpjaa
