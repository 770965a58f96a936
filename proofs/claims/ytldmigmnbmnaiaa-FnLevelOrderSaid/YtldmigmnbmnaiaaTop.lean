/- Ground for the rows of this seat: the program's closed facts; the decoders of the laws' parameter types. -/
import Derived.Test.YtldmigmnbmnaiaaRows
import Derived.Test.YtldmigmnbmnaiaaRead
import Derived.Test.YtldmigmnbmnaiaaData
import Derived.Test.YtldmigmnbmnaiaaFacA
import Derived.Test.YtldmigmnbmnaiaaFacB
import Derived.Test.YtldmigmnbmnaiaaFacC
namespace Go.Proofs.Ytldmigmnbmnaiaa
open Go.ChangeShapes Go.WideShapes Go.ChangeAt Go.RowKit

theorem Try.own : ownKnob Try.prog.godebug = none := by kernel_rfl
theorem Try.laidOut : laidOutB Try.prog = true := by kernel_rfl
theorem Try.c_int : Try.prog.cellsOf 3 = 1 := by kernel_rfl

theorem dec_Int : Dec Try.prog 3 1 RInt := dec_int Try.underlying3
theorem dec_IntF : Dec Try.prog 3 1 (RF encI) := by
  intro H enc W sp held fuel cs x h
  obtain ⟨h1, n, h2, _⟩ := dec_Int H enc W sp held fuel cs x h
  exact ⟨h1, n, h2⟩
theorem dec_IntS : Dec Try.prog 25 1 (RSl (RF encI) 1) := dec_slice Try.underlying25 (by kernel_rfl) (by decide) dec_IntF
set_option maxRecDepth 100000 in
theorem open_sl {α : Type} {t e sz : Nat} {R : World → List Value → α → Prop} (hd : Dec Try.prog t 1 (RSl R sz)) (ht : Try.prog.underlying t = some (.slice e)) {H : Type} {enc : TypeId × Value → H} {W : World} {sp : Nat → Bool} {held : Bool} {v : Value} {d : DataW H} {ps : List MemPlace} {r : Reach} {b0 : Nat}
    (hok : Value.okWide Try.prog W r b0 t v) (h : DataW.Trod enc Try.prog W 0 sp held t v d ps) : ∃ l, SL R sz W v l := by
  obtain ⟨a, len, cap, rfl⟩ := okWide_slice ht hok
  obtain ⟨l, v', e, hl⟩ := hd.one (fun _ h => by cases h) h
  cases e; exact ⟨l, hl⟩
set_option maxRecDepth 100000 in
theorem open_i {H : Type} {enc : TypeId × Value → H} {W : World} {sp : Nat → Bool} {held : Bool} {v : Value} {d : DataW H} {ps : List MemPlace} {r : Reach} {b0 : Nat}
    (hok : Value.okWide Try.prog W r b0 3 v) (h : DataW.Trod enc Try.prog W 0 sp held 3 v d ps) : ∃ n, v = .int .i64 n ∧ I64 n := by
  obtain ⟨x, rfl, _, _, wx⟩ := open_int Try.underlying3 hok h
  exact ⟨x, rfl, I64.of_wf wx⟩
end Go.Proofs.Ytldmigmnbmnaiaa
