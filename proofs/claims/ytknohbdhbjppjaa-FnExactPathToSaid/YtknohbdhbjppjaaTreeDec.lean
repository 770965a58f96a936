/- The decoder of the laws' trees. -/
import Derived.Test.YtknohbdhbjppjaaBlkDec
import Derived.Test.YtknohbdhbjppjaaDeep
namespace Go.Proofs.Ytknohbdhbjppjaa
open Go.ChangeShapes Go.WideShapes Go.ChangeAt Go.RowKit

theorem SB.of {w : World} {v : Value} {l : List BL} (h : SL RBlk 6 w v l) : SB w v l := by
  obtain ⟨a, cap, rfl, hl, hc⟩ := h
  have key : ∀ i, i < l.length → ∃ y : TB, l[i]? = some y.core ∧ SL (RF Actn.enc) 4 w y.v y.l ∧ ∀ b off, a = some ⟨b, off, none⟩ → ∀ j u, y.enc[j]? = some u → w.cell? ⟨b, off + i * 6 + j, none⟩ = some u := by
    intro i hi
    obtain ⟨x, hx⟩ := getElem?_some_of_lt hi
    obtain ⟨b, off, ha, hb, hcell⟩ := hc (by intro e; subst e; simp at hi)
    obtain ⟨cs, h1, h2, v, h3, h4⟩ := hcell i x hx
    refine ⟨⟨x.1, v, x.2⟩, hx, h4, fun b' off' e j u hu => ?_⟩
    rw [ha] at e
    simp only [Option.some.injEq, Addr.mk.injEq, and_true] at e
    obtain ⟨rfl, rfl⟩ := e
    refine h2 j u ?_
    rw [h3]; exact hu
  obtain ⟨bs, hbl, hq⟩ := list_of l.length key
  have hm : l = bs.map TB.core := by
    apply List.ext_getElem?
    intro i
    by_cases hi : i < l.length
    · obtain ⟨y, hy⟩ := getElem?_some_of_lt (l := bs) (k := i) (by omega)
      rw [List.getElem?_map, hy, (hq i y hy).1]; rfl
    · rw [List.getElem?_eq_none (by omega), List.getElem?_eq_none (by simp; omega)]
  refine ⟨bs, hm, ⟨a, cap, by rw [hbl], by rw [hbl]; exact hl, fun hne => ?_⟩, fun x hx => ?_⟩
  · obtain ⟨b, off, ha, hb, _⟩ := hc (by intro e; rw [e] at hbl; exact hne (List.eq_nil_of_length_eq_zero hbl))
    exact ⟨b, off, ha, hb, fun i y hy => ⟨y.enc, rfl, (hq i y hy).2.2 b off ha, rfl⟩⟩
  · obtain ⟨i, hi⟩ := List.getElem?_of_mem hx
    exact (hq i x hi).2.1
theorem dec_BlockS : Dec Try.prog 65 1 (RSl RBlk 6) := dec_slice Try.underlying65 (by kernel_rfl) (by decide) dec_Block
def RTree (W : World) (cs : List Value) (t : Tree) : Prop := ∃ v0 v1 v2, cs = [v0, v1, v2] ∧ ST W v0 v1 v2 t
set_option maxRecDepth 100000 in
theorem dec_BlockTree : Dec Try.prog 67 3 RTree := by
  intro H enc W sp held fuel cs x h
  obtain ⟨hl, hf⟩ := trod_fields Try.underlying67 h
  have hl3 : cs.length = 3 := hl.trans (by kernel_rfl)
  refine ⟨hl3, ?_⟩
  match cs, hl3 with
  | [a, b, c], _ =>
    obtain ⟨n0, y0, h0⟩ := hf 0 _ rfl
    obtain ⟨n1, y1, h1⟩ := hf 1 _ rfl
    obtain ⟨n2, y2, h2⟩ := hf 2 _ rfl
    obtain ⟨_, l0, v0, e0, s0⟩ := dec_EntryS _ enc W sp held _ _ _ h0
    obtain ⟨_, l1, v1, e1, s1⟩ := dec_BlockS _ enc W sp held _ _ _ h1
    obtain ⟨_, l2, v2, e2, s2⟩ := dec_IntS _ enc W sp held _ _ _ h2
    have c0 : Try.prog.cellsOf 22 = 1 := by kernel_rfl
    have c1 : Try.prog.cellsOf 65 = 1 := by kernel_rfl
    have c2 : Try.prog.cellsOf 36 = 1 := by kernel_rfl
    simp [c0] at e0
    simp [c1] at e1
    simp [c2] at e2
    exact ⟨⟨l0, l1, l2⟩, v0, v1, v2, by simp [e0, e1, e2], s0, SB.of s1, s2⟩
end Go.Proofs.Ytknohbdhbjppjaa
