/- Walks: lists of actions, blocks. -/
import Derived.Test.YtknohbdhbjppjaaAct
namespace Go.Proofs.Ytknohbdhbjppjaa
open Go Go.RowKit Go.Proofs

theorem all_next {α : Type} {p : α → Bool} {l : List α} {k : Nat} {x : α} (h : l[k]? = some x) (h0 : (l.take k).all p = true) (h1 : p x = true) : (l.take (k + 1)).all p = true := by
  rw [List.take_add_one, h, List.all_append, h0]; simp [h1]
theorem all_stop {α : Type} {p : α → Bool} {l : List α} {k : Nat} {x : α} (h : l[k]? = some x) (h1 : p x = false) : l.all p = false := by
  rw [← Bool.not_eq_true, List.all_eq_true]; intro hh; rw [hh x (List.mem_of_getElem? h)] at h1; cases h1
def actsOk (l : List Actn) : Bool := decide ((l.length : Int) ≤ 10) && l.all Actn.ok

set_option maxHeartbeats 1000000 in
theorem sActionsValid_any (l : List Actn) (v : Value) (w : World) (h : SL (RF Actn.enc) 4 w v l) :
    Calls Try.prog 143 #[v] w fun e w' => e = .returned (.bool (actsOk l)) ∧ Up w w' := by
  obtain ⟨p, cap, rfl, hlen, hc⟩ := h.open
  clear h
  go_enter Try.func143, Try.ntmps143
  go_wp2_with fail
  go_loopw [3] (fun s3 wr => ∃ (k : Nat), s3 = .int .i64 k ∧ k ≤ l.length ∧ (l.take k).all Actn.ok = true ∧ Up w wr) (fun s3 _ => l.length - (intOf s3).toNat)
  case atStart => exact ⟨0, rfl, Nat.zero_le _, rfl, (.of (by repeat (first | exact Ext.refl _ | refine Ext.up ?_ _ | refine Ext.alloc ?_ _ | refine Ext.drew ?_ | refine Ext.setRow ?_ (by first | (dsimp only; omega) | exact LeS.le | exact LeS.add _ | (simp; done) | (simp; omega)) _ | refine Ext.setCell ?_ (by first | (dsimp only; omega) | exact LeS.le | exact LeS.add _ | (simp; done) | (simp; omega)) _)))⟩
  case round =>
    obtain ⟨k, rfl, hk, hall, ⟨z, rfl⟩⟩ := hrel
    by_cases hlt : k < l.length
    · obtain ⟨x, hxk⟩ := getElem?_some_of_lt hlt
      obtain ⟨b, off, rfl, hb, hcc⟩ := hc k x hxk
      have c0 : w.cell? ⟨b, off + k * 4, none⟩ = some (.int .i64 x.kind) := hcc 0 _ rfl
      have c1 : w.cell? ⟨b, off + k * 4 + 1, none⟩ = some (.int .i64 x.src) := hcc 1 _ rfl
      have c2 : w.cell? ⟨b, off + k * 4 + 2, none⟩ = some (.int .i64 x.dst) := hcc 2 _ rfl
      have c3 : w.cell? ⟨b, off + k * 4 + 3, none⟩ = some (.int .i64 x.amt) := hcc 3 _ rfl
      have k0 : (0 : Int) ≤ (k : Int) := by omega
      have Hx := Lib.hid hxk; have Hall := Lib.hid hall
      clear hc hcc hxk hall
      rcases hq : x.ok with _ | _
      · have kq := fun w => sActionValid_any x w
        rw [hq] at kq
        go_wp2_with (go_at_call 68; refine (kq _).mono ?_; rintro e w' ⟨rfl, z1, rfl⟩)
        go_ret
        refine ⟨?_, (.of (by repeat (first | exact Ext.refl _ | refine Ext.up ?_ _ | refine Ext.alloc ?_ _ | refine Ext.drew ?_ | refine Ext.setRow ?_ (by first | (dsimp only; omega) | exact LeS.le | exact LeS.add _ | (simp; done) | (simp; omega)) _ | refine Ext.setCell ?_ (by first | (dsimp only; omega) | exact LeS.le | exact LeS.add _ | (simp; done) | (simp; omega)) _)))⟩
        rw [actsOk, all_stop Hx.out hq, Bool.and_false]; rfl
      · have kq := fun w => sActionValid_any x w
        rw [hq] at kq
        go_wp2_with (go_at_call 68; refine (kq _).mono ?_; rintro e w' ⟨rfl, z1, rfl⟩)
        go_roundw
        case rel => exact ⟨k + 1, by go_num, by omega, all_next Hx.out Hall.out hq, (.of (by repeat (first | exact Ext.refl _ | refine Ext.up ?_ _ | refine Ext.alloc ?_ _ | refine Ext.drew ?_ | refine Ext.setRow ?_ (by first | (dsimp only; omega) | exact LeS.le | exact LeS.add _ | (simp; done) | (simp; omega)) _ | refine Ext.setCell ?_ (by first | (dsimp only; omega) | exact LeS.le | exact LeS.add _ | (simp; done) | (simp; omega)) _)))⟩
        case measure => simp [intOf]; omega
    · go_wp2_with fail
      go_ret
      refine ⟨?_, (.of (by repeat (first | exact Ext.refl _ | refine Ext.up ?_ _ | refine Ext.alloc ?_ _ | refine Ext.drew ?_ | refine Ext.setRow ?_ (by first | (dsimp only; omega) | exact LeS.le | exact LeS.add _ | (simp; done) | (simp; omega)) _ | refine Ext.setCell ?_ (by first | (dsimp only; omega) | exact LeS.le | exact LeS.add _ | (simp; done) | (simp; omega)) _)))⟩
      have : l.take k = l := List.take_of_length_le (by omega)
      rw [this] at hall
      rw [actsOk, hall, Bool.and_true]; rfl
theorem iActionsValid1_any (x : Actn) (w : World) : Calls Try.prog 177 #[.agg #[.int .i64 x.kind, .int .i64 x.src, .int .i64 x.dst, .int .i64 x.amt]] w fun e w' => e = .returned (.bool (!x.ok)) ∧ Up w w' := by
  go_enter Try.func177, Try.ntmps177
  go_wp2_with (go_at_call 126; refine (iActionValid_any x _).mono ?_; rintro e w' ⟨rfl, z, rfl⟩)
  go_ret
  exact ⟨rfl, (.of (by repeat (first | exact Ext.refl _ | refine Ext.up ?_ _ | refine Ext.alloc ?_ _ | refine Ext.drew ?_ | refine Ext.setRow ?_ (by first | (dsimp only; omega) | exact LeS.le | exact LeS.add _ | (simp; done) | (simp; omega)) _ | refine Ext.setCell ?_ (by first | (dsimp only; omega) | exact LeS.le | exact LeS.add _ | (simp; done) | (simp; omega)) _)))⟩
set_option maxHeartbeats 1000000 in
theorem iIndexA_any (l : List Actn) (v : Value) (w : World) (h : SL (RF Actn.enc) 4 w v l) :
    Calls Try.prog 199 #[v, .func (.func 177) #[] #[]] w fun e w' => ∃ n : Int, e = .returned (.int .i64 n) ∧ decide (0 ≤ n) = !l.all Actn.ok ∧ Up w w' := by
  obtain ⟨p, cap, rfl, hlen, hc⟩ := h.open
  clear h
  go_enter Try.func199, Try.ntmps199
  go_wp2_with fail
  go_loopw [5, 8] (fun _ s8 wr => ∃ (k : Nat), s8 = .int .i64 k ∧ k ≤ l.length ∧ (l.take k).all Actn.ok = true ∧ Up w wr) (fun _ s8 _ => l.length - (intOf s8).toNat)
  case atStart => exact ⟨0, rfl, Nat.zero_le _, rfl, (.of (by repeat (first | exact Ext.refl _ | refine Ext.up ?_ _ | refine Ext.alloc ?_ _ | refine Ext.drew ?_ | refine Ext.setRow ?_ (by first | (dsimp only; omega) | exact LeS.le | exact LeS.add _ | (simp; done) | (simp; omega)) _ | refine Ext.setCell ?_ (by first | (dsimp only; omega) | exact LeS.le | exact LeS.add _ | (simp; done) | (simp; omega)) _)))⟩
  case round =>
    obtain ⟨k, rfl, hk, hall, ⟨z, rfl⟩⟩ := hrel
    by_cases hlt : k < l.length
    · obtain ⟨x, hxk⟩ := getElem?_some_of_lt hlt
      obtain ⟨b, off, rfl, hb, hcc⟩ := hc k x hxk
      have c0 : w.cell? ⟨b, off + k * 4, none⟩ = some (.int .i64 x.kind) := hcc 0 _ rfl
      have c1 : w.cell? ⟨b, off + k * 4 + 1, none⟩ = some (.int .i64 x.src) := hcc 1 _ rfl
      have c2 : w.cell? ⟨b, off + k * 4 + 2, none⟩ = some (.int .i64 x.dst) := hcc 2 _ rfl
      have c3 : w.cell? ⟨b, off + k * 4 + 3, none⟩ = some (.int .i64 x.amt) := hcc 3 _ rfl
      have k0 : (0 : Int) ≤ (k : Int) := by omega
      have Hx := Lib.hid hxk; have Hall := Lib.hid hall
      clear hc hcc hxk hall
      have kq := fun w => iActionsValid1_any x w
      rcases hq : x.ok with _ | _
      · rw [hq] at kq
        go_wp2_with (go_at_call 177; refine (kq _).mono ?_; rintro e w' ⟨rfl, z1, rfl⟩)
        go_ret
        refine ⟨_, rfl, ?_, (.of (by repeat (first | exact Ext.refl _ | refine Ext.up ?_ _ | refine Ext.alloc ?_ _ | refine Ext.drew ?_ | refine Ext.setRow ?_ (by first | (dsimp only; omega) | exact LeS.le | exact LeS.add _ | (simp; done) | (simp; omega)) _ | refine Ext.setCell ?_ (by first | (dsimp only; omega) | exact LeS.le | exact LeS.add _ | (simp; done) | (simp; omega)) _)))⟩
        rw [all_stop Hx.out hq]; simp
      · rw [hq] at kq
        go_wp2_with (go_at_call 177; refine (kq _).mono ?_; rintro e w' ⟨rfl, z1, rfl⟩)
        go_roundw
        case rel => exact ⟨k + 1, by go_num, by omega, all_next Hx.out Hall.out hq, (.of (by repeat (first | exact Ext.refl _ | refine Ext.up ?_ _ | refine Ext.alloc ?_ _ | refine Ext.drew ?_ | refine Ext.setRow ?_ (by first | (dsimp only; omega) | exact LeS.le | exact LeS.add _ | (simp; done) | (simp; omega)) _ | refine Ext.setCell ?_ (by first | (dsimp only; omega) | exact LeS.le | exact LeS.add _ | (simp; done) | (simp; omega)) _)))⟩
        case measure => simp [intOf]; omega
    · go_wp2_with fail
      go_ret
      refine ⟨_, rfl, ?_, (.of (by repeat (first | exact Ext.refl _ | refine Ext.up ?_ _ | refine Ext.alloc ?_ _ | refine Ext.drew ?_ | refine Ext.setRow ?_ (by first | (dsimp only; omega) | exact LeS.le | exact LeS.add _ | (simp; done) | (simp; omega)) _ | refine Ext.setCell ?_ (by first | (dsimp only; omega) | exact LeS.le | exact LeS.add _ | (simp; done) | (simp; omega)) _)))⟩
      have : l.take k = l := List.take_of_length_le (by omega)
      rw [this] at hall
      rw [hall]; rfl
theorem iContainsA_any (l : List Actn) (v : Value) (w : World) (h : SL (RF Actn.enc) 4 w v l) :
    Calls Try.prog 176 #[v, .func (.func 177) #[] #[]] w fun e w' => e = .returned (.bool (!l.all Actn.ok)) ∧ Up w w' := by
  have hs := h
  obtain ⟨p, cap, rfl, hlen, hc⟩ := h.open
  clear hc h
  go_enter Try.func176, Try.ntmps176
  go_wp2_with (go_at_call 199; refine (iIndexA_any l _ _ hs).mono ?_; rintro e w' ⟨n, rfl, hn, z, rfl⟩)
  go_ret
  exact ⟨rfl, (.of (by repeat (first | exact Ext.refl _ | refine Ext.up ?_ _ | refine Ext.alloc ?_ _ | refine Ext.drew ?_ | refine Ext.setRow ?_ (by first | (dsimp only; omega) | exact LeS.le | exact LeS.add _ | (simp; done) | (simp; omega)) _ | refine Ext.setCell ?_ (by first | (dsimp only; omega) | exact LeS.le | exact LeS.add _ | (simp; done) | (simp; omega)) _)))⟩
theorem iActionsValid_any (l : List Actn) (v : Value) (w : World) (h : SL (RF Actn.enc) 4 w v l) :
    Calls Try.prog 147 #[v] w fun e w' => e = .returned (.bool (actsOk l)) ∧ Up w w' := by
  obtain ⟨p, cap, rfl, hlen, hc⟩ := h.open
  clear hc
  unfold actsOk
  rcases hq : decide ((l.length : Int) ≤ 10) with _ | _
  · rw [Bool.false_and]
    go_enter Try.func147, Try.ntmps147
    go_wp2_with fail
    go_ret
    exact ⟨rfl, (.of (by repeat (first | exact Ext.refl _ | refine Ext.up ?_ _ | refine Ext.alloc ?_ _ | refine Ext.drew ?_ | refine Ext.setRow ?_ (by first | (dsimp only; omega) | exact LeS.le | exact LeS.add _ | (simp; done) | (simp; omega)) _ | refine Ext.setCell ?_ (by first | (dsimp only; omega) | exact LeS.le | exact LeS.add _ | (simp; done) | (simp; omega)) _)))⟩
  · rw [Bool.true_and]
    go_enter Try.func147, Try.ntmps147
    go_wp2_with (go_at_call 176; refine (iContainsA_any l _ _ h).mono ?_; rintro e w' ⟨rfl, z, rfl⟩)
    go_ret
    refine ⟨?_, (.of (by repeat (first | exact Ext.refl _ | refine Ext.up ?_ _ | refine Ext.alloc ?_ _ | refine Ext.drew ?_ | refine Ext.setRow ?_ (by first | (dsimp only; omega) | exact LeS.le | exact LeS.add _ | (simp; done) | (simp; omega)) _ | refine Ext.setCell ?_ (by first | (dsimp only; omega) | exact LeS.le | exact LeS.add _ | (simp; done) | (simp; omega)) _)))⟩
    first | rfl | exact congrArg (fun b => Ending.returned (.bool b)) (Bool.not_not _)
end Go.Proofs.Ytknohbdhbjppjaa
