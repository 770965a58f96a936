/- Walk: impl.RunSerial on a valid store and valid actions. Walks: dropping versions. Plain laws: versions with those of an action. -/
import Derived.Test.YtkboefmkfpnpjaaGEsLTop20
import Derived.Test.YtkboefmkfpnpjaaGEsLTop03
import Derived.Test.YtkboefmkfpnpjaaGEsLTop01
import Derived.Test.YtkboefmkfpnpjaaGEsLTop00
set_option linter.unusedSimpArgs false
set_option linter.unusedVariables false
namespace Go.Proofs.Ytkboefmkfpnpjaa
open Go Go.RowKit Go.Proofs

set_option maxRecDepth 100000 in
set_option maxHeartbeats 2000000 in
theorem iRunSerial_yes (s : List Ent) (l : List Actn) (v vl : Value) (w : World) (h : SL (RF Ent.enc) 2 w v s) (hl : SL (RF Actn.enc) 4 w vl l) (hok : entsOk 1 s = true) (hlk : actsOk l = true) :
    Calls Try.prog 19 #[v, vl] w fun e w' => ∃ v1 v2 ts, e = .returned (.tuple #[v1, v2]) ∧ Up w w' ∧ Own Ent.enc 31 2 w.heap.size w' v1 (storeOf (runAll (valsOf s) l).1) ∧
      OE 40 31 w.heap.size w' v2 ts ∧ ts.map TE.core = (runAll (valsOf s) l).2 := by
  have H := Lib.hid h; have HL := Lib.hid hl
  obtain ⟨p, c, rfl, _, _⟩ := h.openc
  obtain ⟨p3, c3, rfl, _, _⟩ := hl.openc
  have kv := fun w (h : SL (RF Ent.enc) 2 w (.slice p s.length c) s) => iStoreValid_any s _ w h
  simp only [hok] at kv
  have kw := fun w (h : SL (RF Actn.enc) 4 w (.slice p3 l.length c3) l) => iActionsValid_any l _ w h
  simp only [hlk] at kw
  have hvi : valsIn (valsOf s) := valsOf_in (entsOk_least (by decide) hok)
  have kr := fun w h => runAll_any (valsOf s) l (.slice p3 l.length c3) w h (valsOf_length s) hvi (fun x hx => by obtain ⟨i, hi⟩ := List.getElem?_of_mem hx; exact actsOk_at hlk hi) (by have := actsOk_len hlk; omega)
  have hRl : (runAll (valsOf s) l).1.length = 32 := runStep_len (valsOf_length s)
  have Hok := Lib.hid hok
  have tok : True := trivial
  clear h hl hok hlk hvi
  generalize runAll (valsOf s) l = R at *
  go_enter Try.func19, Try.ntmps19
  go_wp2_with (first | (go_at_call 68; refine (kv _ (H.out.up (by repeat (first | (with_reducible exact Ext.refl _) | (with_reducible refine Ext.up ?_ _) | (with_reducible refine Ext.alloc ?_ _) | (with_reducible refine Ext.drew ?_) | (with_reducible refine Ext.setRow ?_ (by first | exact LeS.le | exact LeS.add _ | (simp; done) | (simp; omega)) _) | (with_reducible refine Ext.setCell ?_ (by first | exact LeS.le | exact LeS.add _ | (simp; done) | (simp; omega)) _))))).mono ?_; rintro e w' ⟨rfl, z1, rfl⟩) | (go_at_call 69; refine (kw _ (HL.out.up (by repeat (first | (with_reducible exact Ext.refl _) | (with_reducible refine Ext.up ?_ _) | (with_reducible refine Ext.alloc ?_ _) | (with_reducible refine Ext.drew ?_) | (with_reducible refine Ext.setRow ?_ (by first | exact LeS.le | exact LeS.add _ | (simp; done) | (simp; omega)) _) | (with_reducible refine Ext.setCell ?_ (by first | exact LeS.le | exact LeS.add _ | (simp; done) | (simp; omega)) _))))).mono ?_; rintro e w' ⟨rfl, z2, rfl⟩) | (go_at_call 71; refine (valuesOf_any 1 s _ _ (H.out.up (by repeat (first | (with_reducible exact Ext.refl _) | (with_reducible refine Ext.up ?_ _) | (with_reducible refine Ext.alloc ?_ _) | (with_reducible refine Ext.drew ?_) | (with_reducible refine Ext.setRow ?_ (by first | exact LeS.le | exact LeS.add _ | (simp; done) | (simp; omega)) _) | (with_reducible refine Ext.setCell ?_ (by first | exact LeS.le | exact LeS.add _ | (simp; done) | (simp; omega)) _)))) Hok.out).mono ?_; rintro e w' ⟨rfl, z3, rfl⟩) | ((go_at_call 70; refine (kr _ (HL.out.up (by repeat (first | (with_reducible exact Ext.refl _) | (with_reducible refine Ext.up ?_ _) | (with_reducible refine Ext.alloc ?_ _) | (with_reducible refine Ext.drew ?_) | (with_reducible refine Ext.setRow ?_ (by first | exact LeS.le | exact LeS.add _ | (simp; done) | (simp; omega)) _) | (with_reducible refine Ext.setCell ?_ (by first | exact LeS.le | exact LeS.add _ | (simp; done) | (simp; omega)) _))))).mono ?_; rintro e w' ⟨v2, ts, rfl, ⟨z4, rfl⟩, oe, hts⟩); have OE4 := Lib.hid oe; have HTS := Lib.hid hts; clear oe hts) | (have _t := tok; refine wpList_store_new rfl _ _ _ rfl rfl rfl rfl (by rw [hRl]; exact Try.sVals) (by rw [hRl]; rfl) ?_; intro z5 r5; clear _t tok; have R5 := Lib.hid r5; clear r5) | (refine wpList_load_row rfl _ _ rfl _ rfl _ _ _ _ R5.out.eq Try.underlying99 rfl (by rw [vA_size, hRl]; exact Try.sVals) ?_) | (go_at_call 72; refine (store_any _ _ hRl).mono ?_; rintro e w' ⟨v', rfl, ⟨z6, rfl⟩, ho⟩; have HO := Lib.hid ho; clear ho))
  refine bodyPost_ret (v := .tuple #[v', v2]) (by simp [results, Try.results19, go_sem]) rfl ?_
  exact ⟨_, _, ts, rfl, (.of (by repeat (first | (with_reducible exact Ext.refl _) | (with_reducible refine Ext.up ?_ _) | (with_reducible refine Ext.alloc ?_ _) | (with_reducible refine Ext.drew ?_) | (with_reducible refine Ext.setRow ?_ (by first | exact LeS.le | exact LeS.add _ | (simp; done) | (simp; omega)) _) | (with_reducible refine Ext.setCell ?_ (by first | exact LeS.le | exact LeS.add _ | (simp; done) | (simp; omega)) _)))), HO.out.lo LeS.le, (OE4.out.up (by repeat (first | (with_reducible exact Ext.refl _) | (with_reducible refine Ext.up ?_ _) | (with_reducible refine Ext.alloc ?_ _) | (with_reducible refine Ext.drew ?_) | (with_reducible refine Ext.setRow ?_ (by first | exact LeS.le | exact LeS.add _ | (simp; done) | (simp; omega)) _) | (with_reducible refine Ext.setCell ?_ (by first | exact LeS.le | exact LeS.add _ | (simp; done) | (simp; omega)) _)))).lo LeS.le, HTS.out⟩
end Go.Proofs.Ytkboefmkfpnpjaa
namespace Go.Proofs.Ytkboefmkfpnpjaa
open Go Go.RowKit Go.Proofs

def dropV (l : List Ver) (by_ : Int) : List Ver := l.filter fun x => decide (x.b ≠ by_)
theorem dropV_le (l : List Ver) (b : Int) : (dropV l b).length ≤ l.length := List.length_filter_le _ _
theorem dropV_snoc_in {l : List Ver} {k : Nat} {x : Ver} {b : Int} (h : l[k]? = some x) (hb : x.b ≠ b) : dropV (l.take (k + 1)) b = dropV (l.take k) b ++ [x] := by
  rw [List.take_add_one, h]; simp [dropV, hb]
theorem dropV_snoc_out {l : List Ver} {k : Nat} {x : Ver} {b : Int} (h : l[k]? = some x) (hb : x.b = b) : dropV (l.take (k + 1)) b = dropV (l.take k) b := by
  rw [List.take_add_one, h]; simp [dropV, hb]

set_option maxHeartbeats 1000000 in
theorem without_any (l : List Ver) (v : Value) (by_ : Int) (w : World) (h : SL (RF Ver.enc) 3 w v l) (hn : l.length ≤ 1073741824) :
    Calls Try.prog 100 #[v, .int .i64 by_] w fun e w' => ∃ v', e = .returned v' ∧ Up w w' ∧ Own Ver.enc 88 3 w.heap.size w' v' (dropV l by_) := by
  obtain ⟨a, cap, rfl, hlen, hc⟩ := h.open
  clear h
  go_enter Try.func100, Try.ntmps100
  go_wp2_with fail
  go_loopw [5, 7, 10] (fun s5 _ s10 wr => ∃ (k : Nat), s10 = .int .i64 k ∧ k ≤ l.length ∧ Up w wr ∧ Own Ver.enc 88 3 w.heap.size wr s5 (dropV (l.take k) by_)) (fun _ _ s10 _ => l.length - (intOf s10).toNat)
  case atStart => exact ⟨0, rfl, Nat.zero_le _, .of (Ext.refl _), Own.nil _ _ _ _ _⟩
  case round =>
    obtain ⟨k, rfl, hk, ⟨z, rfl⟩, hown⟩ := hrel
    by_cases hlt : k < l.length
    · obtain ⟨x, hxk⟩ := getElem?_some_of_lt hlt
      obtain ⟨b, off, rfl, hb, hcc⟩ := hc k x hxk
      have c0 : w.cell? ⟨b, off + k * 3, none⟩ = some (.int .i64 x.k) := hcc 0 _ rfl
      have c1 : w.cell? ⟨b, off + k * 3 + 1, none⟩ = some (.int .i64 x.b) := hcc 1 _ rfl
      have c2 : w.cell? ⟨b, off + k * 3 + 2, none⟩ = some (.int .i64 x.v) := hcc 2 _ rfl
      have hle : (dropV (l.take k) by_).length ≤ k := Nat.le_trans (dropV_le _ _) (List.length_take_le _ _)
      have Hx := Lib.hid hxk; have Hown := Lib.hid hown
      clear hc hcc hxk hown
      rcases ne_cases x.b by_ with ⟨h1, h1'⟩ | ⟨h1, h1'⟩
      · go_wp2_with (at_builtin; refine wpList_push1 fVer rfl (.tmp 18) (.tmp 20) rfl Ver.enc w x (dropV (l.take k) by_) rfl (Hown.out.up (by repeat (first | exact Ext.refl _ | refine Ext.up ?_ _ | refine Ext.alloc ?_ _ | refine Ext.drew ?_ | refine Ext.setRow ?_ (by first | (dsimp only; omega) | exact LeS.le | exact LeS.add _ | (simp; done) | (simp; omega)) _ | refine Ext.setCell ?_ (by first | (dsimp only; omega) | exact LeS.le | exact LeS.add _ | (simp; done) | (simp; omega)) _))) (by repeat (first | exact Ext.refl _ | refine Ext.up ?_ _ | refine Ext.alloc ?_ _ | refine Ext.drew ?_ | refine Ext.setRow ?_ (by first | (dsimp only; omega) | exact LeS.le | exact LeS.add _ | (simp; done) | (simp; omega)) _ | refine Ext.setCell ?_ (by first | (dsimp only; omega) | exact LeS.le | exact LeS.add _ | (simp; done) | (simp; omega)) _)) rfl (by go_simp) rfl rfl (oneV x) (by omega) (by omega) ?_; intro v1 z1 hown1)
        have hown2 := Lib.hid hown1; clear hown1
        go_wp2_with fail
        go_roundw
        case rel => exact ⟨k + 1, by go_num, by omega, (.of (by repeat (first | exact Ext.refl _ | refine Ext.up ?_ _ | refine Ext.alloc ?_ _ | refine Ext.drew ?_ | refine Ext.setRow ?_ (by first | (dsimp only; omega) | exact LeS.le | exact LeS.add _ | (simp; done) | (simp; omega)) _ | refine Ext.setCell ?_ (by first | (dsimp only; omega) | exact LeS.le | exact LeS.add _ | (simp; done) | (simp; omega)) _))), by rw [dropV_snoc_in Hx.out h1]; exact hown2.out⟩
        case measure => simp [intOf]; omega
      · have H1 := Lib.hid h1; clear h1
        go_wp2_with fail
        go_roundw
        case rel => exact ⟨k + 1, by go_num, by omega, (.of (by repeat (first | exact Ext.refl _ | refine Ext.up ?_ _ | refine Ext.alloc ?_ _ | refine Ext.drew ?_ | refine Ext.setRow ?_ (by first | (dsimp only; omega) | exact LeS.le | exact LeS.add _ | (simp; done) | (simp; omega)) _ | refine Ext.setCell ?_ (by first | (dsimp only; omega) | exact LeS.le | exact LeS.add _ | (simp; done) | (simp; omega)) _))), by rw [dropV_snoc_out Hx.out H1.out]; exact Hown.out.up (by repeat (first | exact Ext.refl _ | refine Ext.up ?_ _ | refine Ext.alloc ?_ _ | refine Ext.drew ?_ | refine Ext.setRow ?_ (by first | (dsimp only; omega) | exact LeS.le | exact LeS.add _ | (simp; done) | (simp; omega)) _ | refine Ext.setCell ?_ (by first | (dsimp only; omega) | exact LeS.le | exact LeS.add _ | (simp; done) | (simp; omega)) _))⟩
        case measure => simp [intOf]; omega
    · go_wp2_with fail
      go_ret
      obtain rfl : k = l.length := by omega
      refine ⟨_, rfl, ⟨z, rfl⟩, ?_⟩
      rw [List.take_length] at hown
      exact hown
/-- What is left without those of an action; nothing of versions that are not valid. -/
def dropR (l : List Ver) (b : Int) : List Ver := if versOk l = true then dropV l b else []
theorem dropR_le (l : List Ver) (b : Int) : (dropR l b).length ≤ l.length := by unfold dropR; split; exact dropV_le l b; simp
set_option maxHeartbeats 1000000 in
theorem l9Drop_any (l : List Ver) (v : Value) (by_ : Int) (w : World) (h : SL (RF Ver.enc) 3 w v l) (hn : l.length ≤ 1073741824) :
    Calls Try.prog 145 #[v, .int .i64 by_] w fun e w' => ∃ v', e = .returned v' ∧ Up w w' ∧ Own Ver.enc 88 3 w.heap.size w' v' (dropV l by_) := by
  obtain ⟨a, cap, rfl, hlen, hc⟩ := h.open
  clear h
  go_enter Try.func145, Try.ntmps145
  go_wp2_with fail
  go_loopw [5, 6] (fun s5 s6 wr => ∃ (k : Nat), s6 = .int .i64 k ∧ k ≤ l.length ∧ Up w wr ∧ Own Ver.enc 88 3 w.heap.size wr s5 (dropV (l.take k) by_)) (fun _ s6 _ => l.length - (intOf s6).toNat)
  case atStart => exact ⟨0, rfl, Nat.zero_le _, (.of (by repeat (first | exact Ext.refl _ | refine Ext.up ?_ _ | refine Ext.alloc ?_ _ | refine Ext.drew ?_ | refine Ext.setRow ?_ (by first | (dsimp only; omega) | exact LeS.le | exact LeS.add _ | (simp; done) | (simp; omega)) _ | refine Ext.setCell ?_ (by first | (dsimp only; omega) | exact LeS.le | exact LeS.add _ | (simp; done) | (simp; omega)) _))), Own.lit (by simp) (by simp) rfl rfl Ver.enc_length (by simp [dropV])⟩
  case round =>
    obtain ⟨k, rfl, hk, ⟨z, rfl⟩, hown⟩ := hrel
    by_cases hlt : k < l.length
    · obtain ⟨x, hxk⟩ := getElem?_some_of_lt hlt
      obtain ⟨b, off, rfl, hb, hcc⟩ := hc k x hxk
      have c0 : w.cell? ⟨b, off + k * 3, none⟩ = some (.int .i64 x.k) := hcc 0 _ rfl
      have c1 : w.cell? ⟨b, off + k * 3 + 1, none⟩ = some (.int .i64 x.b) := hcc 1 _ rfl
      have c2 : w.cell? ⟨b, off + k * 3 + 2, none⟩ = some (.int .i64 x.v) := hcc 2 _ rfl
      have hle : (dropV (l.take k) by_).length ≤ k := Nat.le_trans (dropV_le _ _) (List.length_take_le _ _)
      have Hx := Lib.hid hxk; have Hown := Lib.hid hown
      clear hc hcc hxk hown
      rcases ne_cases x.b by_ with ⟨h1, h1'⟩ | ⟨h1, h1'⟩
      · go_wp2_with (at_builtin; refine wpList_push1 fVer rfl (.tmp 21) (.tmp 26) rfl Ver.enc w x (dropV (l.take k) by_) rfl (Hown.out.up (by repeat (first | exact Ext.refl _ | refine Ext.up ?_ _ | refine Ext.alloc ?_ _ | refine Ext.drew ?_ | refine Ext.setRow ?_ (by first | (dsimp only; omega) | exact LeS.le | exact LeS.add _ | (simp; done) | (simp; omega)) _ | refine Ext.setCell ?_ (by first | (dsimp only; omega) | exact LeS.le | exact LeS.add _ | (simp; done) | (simp; omega)) _))) (by repeat (first | exact Ext.refl _ | refine Ext.up ?_ _ | refine Ext.alloc ?_ _ | refine Ext.drew ?_ | refine Ext.setRow ?_ (by first | (dsimp only; omega) | exact LeS.le | exact LeS.add _ | (simp; done) | (simp; omega)) _ | refine Ext.setCell ?_ (by first | (dsimp only; omega) | exact LeS.le | exact LeS.add _ | (simp; done) | (simp; omega)) _)) rfl (by go_simp) rfl rfl (oneV x) (by omega) (by omega) ?_; intro v1 z1 hown1)
        have hown2 := Lib.hid hown1; clear hown1
        go_wp2_with fail
        go_roundw
        case rel => exact ⟨k + 1, by go_num, by omega, (.of (by repeat (first | exact Ext.refl _ | refine Ext.up ?_ _ | refine Ext.alloc ?_ _ | refine Ext.drew ?_ | refine Ext.setRow ?_ (by first | (dsimp only; omega) | exact LeS.le | exact LeS.add _ | (simp; done) | (simp; omega)) _ | refine Ext.setCell ?_ (by first | (dsimp only; omega) | exact LeS.le | exact LeS.add _ | (simp; done) | (simp; omega)) _))), by rw [dropV_snoc_in Hx.out h1]; exact hown2.out⟩
        case measure => simp [intOf]; omega
      · have H1 := Lib.hid h1; clear h1
        go_wp2_with fail
        go_roundw
        case rel => exact ⟨k + 1, by go_num, by omega, (.of (by repeat (first | exact Ext.refl _ | refine Ext.up ?_ _ | refine Ext.alloc ?_ _ | refine Ext.drew ?_ | refine Ext.setRow ?_ (by first | (dsimp only; omega) | exact LeS.le | exact LeS.add _ | (simp; done) | (simp; omega)) _ | refine Ext.setCell ?_ (by first | (dsimp only; omega) | exact LeS.le | exact LeS.add _ | (simp; done) | (simp; omega)) _))), by rw [dropV_snoc_out Hx.out H1.out]; exact Hown.out.up (by repeat (first | exact Ext.refl _ | refine Ext.up ?_ _ | refine Ext.alloc ?_ _ | refine Ext.drew ?_ | refine Ext.setRow ?_ (by first | (dsimp only; omega) | exact LeS.le | exact LeS.add _ | (simp; done) | (simp; omega)) _ | refine Ext.setCell ?_ (by first | (dsimp only; omega) | exact LeS.le | exact LeS.add _ | (simp; done) | (simp; omega)) _))⟩
        case measure => simp [intOf]; omega
    · go_wp2_with fail
      go_ret
      obtain rfl : k = l.length := by omega
      refine ⟨_, rfl, ⟨z, rfl⟩, ?_⟩
      rw [List.take_length] at hown
      exact hown
theorem iDropVersions_any (l : List Ver) (v : Value) (by_ : Int) (w : World) (h : SL (RF Ver.enc) 3 w v l) (hn : l.length ≤ 1073741824) :
    Calls Try.prog 44 #[v, .int .i64 by_] w fun e w' => ∃ v', e = .returned v' ∧ Up w w' ∧ Own Ver.enc 88 3 w.heap.size w' v' (dropR l by_) := by
  have H := Lib.hid h; clear h
  rcases hv : versOk l with _ | _
  · rw [dropR, hv, if_neg (by decide)]
    go_enter Try.func44, Try.ntmps44
    go_wp2_with (go_at_call 43; refine (iVersionsValid_any l _ _ H.out).mono ?_; rintro e w' ⟨rfl, z, rfl⟩)
    go_ret
    exact ⟨_, rfl, (.of (by repeat (first | exact Ext.refl _ | refine Ext.up ?_ _ | refine Ext.alloc ?_ _ | refine Ext.drew ?_ | refine Ext.setRow ?_ (by first | (dsimp only; omega) | exact LeS.le | exact LeS.add _ | (simp; done) | (simp; omega)) _ | refine Ext.setCell ?_ (by first | (dsimp only; omega) | exact LeS.le | exact LeS.add _ | (simp; done) | (simp; omega)) _))), Own.nil _ _ _ _ _⟩
  · rw [dropR, hv, if_pos rfl]
    go_enter Try.func44, Try.ntmps44
    go_wp2_with fail
    refine (iVersionsValid_any l _ _ H.out).mono ?_; rintro e w' ⟨rfl, z, rfl⟩
    go_wp2_with fail
    refine (without_any l _ _ _ (H.out.up (by repeat (first | exact Ext.refl _ | refine Ext.up ?_ _ | refine Ext.alloc ?_ _ | refine Ext.drew ?_ | refine Ext.setRow ?_ (by first | (dsimp only; omega) | exact LeS.le | exact LeS.add _ | (simp; done) | (simp; omega)) _ | refine Ext.setCell ?_ (by first | (dsimp only; omega) | exact LeS.le | exact LeS.add _ | (simp; done) | (simp; omega)) _))) hn).mono ?_; rintro e w' ⟨v', rfl, ⟨z', rfl⟩, ho⟩
    have HO := Lib.hid ho; clear ho
    go_wp2_with fail
    go_ret
    exact ⟨_, rfl, (.of (by repeat (first | exact Ext.refl _ | refine Ext.up ?_ _ | refine Ext.alloc ?_ _ | refine Ext.drew ?_ | refine Ext.setRow ?_ (by first | (dsimp only; omega) | exact LeS.le | exact LeS.add _ | (simp; done) | (simp; omega)) _ | refine Ext.setCell ?_ (by first | (dsimp only; omega) | exact LeS.le | exact LeS.add _ | (simp; done) | (simp; omega)) _))), HO.out.lo z.ext.size⟩
end Go.Proofs.Ytkboefmkfpnpjaa
namespace Go.Proofs.Ytkboefmkfpnpjaa
open Go Go.RowKit

def mkV (by_ : Int) (e : Ent) : Ver := ⟨e.k, by_, e.v⟩
def insV (x : Ver) (l : List Ver) : List Ver := l.takeWhile (fun y => verLt y x) ++ x :: l.dropWhile (fun y => verLt y x)
def putTo (by_ : Int) (out : List Ver) (u : List Ent) : List Ver := u.foldl (fun o e => insV (mkV by_ e) o) out
def putV (l : List Ver) (by_ : Int) (u : List Ent) : List Ver := putTo by_ (dropV l by_) u
theorem insV_length (x : Ver) (l : List Ver) : (insV x l).length = l.length + 1 := by
  have := congrArg List.length (List.takeWhile_append_dropWhile (p := fun y => verLt y x) (l := l))
  simp only [List.length_append] at this
  simp [insV]; omega
theorem putTo_length (by_ : Int) : ∀ (u : List Ent) (out : List Ver), (putTo by_ out u).length = out.length + u.length
  | [], out => by simp [putTo]
  | e :: u, out => by
    have := putTo_length by_ u (insV (mkV by_ e) out)
    rw [insV_length] at this
    simp only [putTo, List.foldl_cons, List.length_cons] at *; omega
theorem putTo_snoc (by_ : Int) (out : List Ver) {u : List Ent} {k : Nat} {e : Ent} (h : u[k]? = some e) : putTo by_ out (u.take (k + 1)) = insV (mkV by_ e) (putTo by_ out (u.take k)) := by
  rw [List.take_add_one, h]; simp [putTo]
theorem insV_perm (x : Ver) (l : List Ver) : (insV x l).Perm (x :: l) := by
  unfold insV
  refine List.perm_middle.trans (List.Perm.cons x ?_)
  rw [List.takeWhile_append_dropWhile]
theorem verLt_trans {x y z : Ver} (h : verLt x y = true) (h' : verLt y z = true) : verLt x z = true := by rw [verLt_iff] at *; omega
theorem verLt_or {x y : Ver} (h : x.k ≠ y.k ∨ x.b ≠ y.b) : verLt x y = true ∨ verLt y x = true := by rw [verLt_iff, verLt_iff]; omega
theorem insV_sorted {x : Ver} {l : List Ver} (h : l.Pairwise fun a b => verLt a b = true) (hd : ∀ y ∈ l, verLt y x = true ∨ verLt x y = true) : (insV x l).Pairwise fun a b => verLt a b = true := by
  induction l with
  | nil => simp [insV]
  | cons y l ih =>
    rw [List.pairwise_cons] at h
    unfold insV
    rcases hy : verLt y x with _ | _
    · have hxy : verLt x y = true := by rcases hd y (by simp) with h1 | h1; rw [hy] at h1; cases h1; exact h1
      simp only [List.takeWhile_cons, List.dropWhile_cons, hy, Bool.false_eq_true, if_false, List.nil_append, List.pairwise_cons]
      refine ⟨fun z hz => ?_, h⟩
      rcases List.mem_cons.1 hz with rfl | hz
      · exact hxy
      · exact verLt_trans hxy (h.1 z hz)
    · simp only [List.takeWhile_cons, List.dropWhile_cons, hy, if_true, List.cons_append, List.pairwise_cons]
      refine ⟨fun z hz => ?_, ih h.2 fun y hy => hd y (by simp [hy])⟩
      have : z ∈ x :: l := (insV_perm x l).mem_iff.1 hz
      rcases List.mem_cons.1 this with rfl | hz'
      · exact hy
      · exact h.1 z hz'
theorem putTo_perm (by_ : Int) : ∀ (u : List Ent) (out : List Ver), (putTo by_ out u).Perm (out ++ u.map (mkV by_))
  | [], out => by simp [putTo]
  | e :: u, out => by
    have ih := putTo_perm by_ u (insV (mkV by_ e) out)
    show (putTo by_ (insV (mkV by_ e) out) u).Perm _
    refine ih.trans ?_
    rw [List.map_cons]
    refine ((insV_perm _ _).append_right _).trans ?_
    exact List.perm_middle.symm
theorem putTo_sorted (by_ : Int) : ∀ (u : List Ent) (out : List Ver), out.Pairwise (fun a b => verLt a b = true) → (∀ y ∈ out, ∀ e ∈ u, y.k ≠ e.k ∨ y.b ≠ by_) → u.Pairwise (fun a b => a.k < b.k) → (putTo by_ out u).Pairwise fun a b => verLt a b = true
  | [], out, h, _, _ => h
  | e :: u, out, h, hd, hu => by
    rw [List.pairwise_cons] at hu
    refine putTo_sorted by_ u (insV (mkV by_ e) out) (insV_sorted h fun y hy => verLt_or (hd y hy e (by simp))) (fun y hy e' he' => ?_) hu.2
    have : y ∈ mkV by_ e :: out := (insV_perm _ _).mem_iff.1 hy
    rcases List.mem_cons.1 this with rfl | hy'
    · left; have := hu.1 e' he'; show e.k ≠ e'.k; omega
    · exact hd y hy' e' (by simp [he'])
theorem vers_sorted {l : List Ver} (h : versOk l = true) : l.Pairwise fun a b => verLt a b = true := by
  have key : ∀ n (i : Nat) x y, l[i]? = some x → l[i + (n + 1)]? = some y → verLt x y = true := by
    intro n
    induction n with
    | zero =>
      intro i x y hx hy
      have := upTo_iff.1 h _ (List.getElem?_eq_some_iff.1 hy).1
      rw [verAt_next hy (by omega) (by simpa using hx), Bool.and_eq_true] at this
      exact this.2
    | succ n ih =>
      intro i x y hx hy
      have hlt := (List.getElem?_eq_some_iff.1 hy).1
      obtain ⟨z, hz⟩ := getElem?_some_of_lt (show i + (n + 1) < l.length by omega)
      have h1 := ih i x z hx hz
      have := upTo_iff.1 h _ hlt
      rw [verAt_next hy (by omega) (by simpa using hz), Bool.and_eq_true] at this
      exact verLt_trans h1 this.2
  rw [List.pairwise_iff_getElem]
  intro i j hi hj hij
  exact key (j - i - 1) i l[i] l[j] (by simp) (by rw [show i + (j - i - 1 + 1) = j from by omega]; simp)
theorem versOk_mem {l : List Ver} (h : versOk l = true) {x : Ver} (hx : x ∈ l) : verIn x = true := by
  obtain ⟨i, hi⟩ := List.getElem?_of_mem hx
  have := upTo_iff.1 h i (List.getElem?_eq_some_iff.1 hi).1
  simp only [verAt, hi, Bool.and_eq_true] at this
  exact this.1
theorem dropV_sorted {l : List Ver} (h : l.Pairwise fun a b => verLt a b = true) (b : Int) : (dropV l b).Pairwise fun a b => verLt a b = true := h.filter _
theorem dropV_ne {l : List Ver} {b : Int} {x : Ver} (h : x ∈ dropV l b) : x ∈ l ∧ x.b ≠ b := by simpa [dropV] using h
theorem putV_sorted {l : List Ver} {by_ : Int} {u : List Ent} (h : l.Pairwise fun a b => verLt a b = true) (hu : u.Pairwise fun a b => a.k < b.k) : (putV l by_ u).Pairwise fun a b => verLt a b = true :=
  putTo_sorted by_ u _ (dropV_sorted h by_) (fun _ hy _ _ => .inr (dropV_ne hy).2) hu
/-- What is sorted and has the same versions is the same. -/
theorem putV_unique {l : List Ver} {by_ : Int} {u : List Ent} {m : List Ver} (h : l.Pairwise fun a b => verLt a b = true) (hu : u.Pairwise fun a b => a.k < b.k)
    (hp : m.Perm (dropV l by_ ++ u.map (mkV by_))) (hs : m.Pairwise fun a b => verLt b a = false) : m = putV l by_ u := by
  have hq : (putV l by_ u).Perm (dropV l by_ ++ u.map (mkV by_)) := putTo_perm by_ u _
  have hsrt := putV_sorted (by_ := by_) h hu
  have hw : (putV l by_ u).Pairwise fun a b => verLt b a = false := hsrt.imp fun {a b} hab => by
    rcases hba : verLt b a with _ | _
    · rfl
    · rw [verLt_iff] at hab hba; omega
  refine List.Perm.eq_of_pairwise (le := fun a b => verLt b a = false) (fun a b ha hb h1 h2 => ?_) hs hw (hp.trans hq.symm)
  have hb' : a ∈ putV l by_ u := (hp.trans hq.symm).mem_iff.1 ha
  obtain ⟨i, hi⟩ := List.getElem?_of_mem hb'
  obtain ⟨j, hj⟩ := List.getElem?_of_mem hb
  by_cases hij : i = j
  · subst hij; rw [hi] at hj; cases hj; rfl
  · exfalso
    obtain ⟨hi1, hi2⟩ := List.getElem?_eq_some_iff.1 hi
    obtain ⟨hj1, hj2⟩ := List.getElem?_eq_some_iff.1 hj
    rw [List.pairwise_iff_getElem] at hsrt
    rcases Nat.lt_or_gt_of_ne hij with h3 | h3
    · have := hsrt i j hi1 hj1 h3; rw [hi2, hj2, h2] at this; cases this
    · have := hsrt j i hj1 hi1 h3; rw [hi2, hj2, h1] at this; cases this
def putOk (l : List Ver) (by_ : Int) (u : List Ent) : Bool := versOk l && (inR by_ 0 9 && entsOk 0 u)
def putR (l : List Ver) (by_ : Int) (u : List Ent) : List Ver := if putOk l by_ u = true then putV l by_ u else []
theorem putR_no {l : List Ver} {by_ : Int} {u : List Ent} (h : putOk l by_ u = false) : putR l by_ u = [] := by unfold putR; rw [h]; rfl
theorem putR_yes {l : List Ver} {by_ : Int} {u : List Ent} (h : putOk l by_ u = true) : putR l by_ u = putV l by_ u := by unfold putR; rw [h]; rfl
theorem putV_le (l : List Ver) (by_ : Int) (u : List Ent) : (putV l by_ u).length ≤ l.length + u.length := by
  unfold putV; rw [putTo_length]; have := dropV_le l by_; omega
theorem putR_le (l : List Ver) (by_ : Int) (u : List Ent) : (putR l by_ u).length ≤ l.length + u.length := by
  unfold putR; split; exact putV_le l by_ u; simp
end Go.Proofs.Ytkboefmkfpnpjaa
