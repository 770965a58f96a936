/- The decoder of the laws' blocks. -/
import Derived.Test.YtknohbdhbjppjaaTop
import Derived.Test.YtknohbdhbjppjaaBlk2
namespace Go.Proofs.Ytknohbdhbjppjaa
open Go.ChangeShapes Go.WideShapes Go.ChangeAt Go.RowKit

def RBlk (W : World) (cs : List Value) (x : Blk × List Actn) : Prop := ∃ v, cs = [.int .i64 x.1.bf, .int .i64 x.1.ht, .int .i64 x.1.vw, v, .int .i64 x.1.rt, .int .i64 x.1.ef] ∧ SL (RF Actn.enc) 4 W v x.2
set_option maxRecDepth 100000 in
theorem dec_Block : Dec Try.prog 73 6 RBlk := by
  intro H enc W sp held fuel cs x h
  obtain ⟨hl, hf⟩ := trod_fields Try.underlying73 h
  have hl6 : cs.length = 6 := hl.trans (by kernel_rfl)
  refine ⟨hl6, ?_⟩
  match cs, hl6 with
  | [a, b, c, d, e, f], _ =>
    obtain ⟨n0, y0, h0⟩ := hf 0 _ rfl
    obtain ⟨n1, y1, h1⟩ := hf 1 _ rfl
    obtain ⟨n2, y2, h2⟩ := hf 2 _ rfl
    obtain ⟨n3, y3, h3⟩ := hf 3 _ rfl
    obtain ⟨n4, y4, h4⟩ := hf 4 _ rfl
    obtain ⟨n5, y5, h5⟩ := hf 5 _ rfl
    obtain ⟨_, x0, e0, _⟩ := dec_int Try.underlying3 _ enc W sp held _ _ _ h0
    obtain ⟨_, x1, e1, _⟩ := dec_int Try.underlying3 _ enc W sp held _ _ _ h1
    obtain ⟨_, x2, e2, _⟩ := dec_int Try.underlying3 _ enc W sp held _ _ _ h2
    obtain ⟨_, l, v, e3, hs⟩ := dec_ActionS _ enc W sp held _ _ _ h3
    obtain ⟨_, x4, e4, _⟩ := dec_int Try.underlying3 _ enc W sp held _ _ _ h4
    obtain ⟨_, x5, e5, _⟩ := dec_int Try.underlying3 _ enc W sp held _ _ _ h5
    have c48 : Try.prog.cellsOf 51 = 1 := by kernel_rfl
    simp [Try.c_int] at e0 e1 e2 e4 e5
    simp [c48] at e3
    exact ⟨(⟨x0, x1, x2, x4, x5⟩, l), v, by simp [e0, e1, e2, e3, e4, e5], hs⟩
end Go.Proofs.Ytknohbdhbjppjaa
