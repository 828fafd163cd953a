/-
  A struct argument that holds a slice of cells, opened.
-/
import Derived.Test.YtbcaiegglbdonaaArgs8
namespace Go.Proofs.Ytbcaiegglbdonaa
open Go.ChangeShapes Go.WideShapes Go.ChangeAt Go.RowKit Go.Deep Go.Joins

set_option maxRecDepth 100000 in
theorem open_cells_t {H : Type} {enc : TypeId × Value → H} {W : World} {fuel : Nat} {ws : List Value} {y : DataW H × List MemPlace} (hf : DataW.trod enc Try.prog W 0 (fun _ => true) true fuel 22 ws = some y) :
    ∃ (cs : List Cell) (v : Value), ws = [v] ∧ Reads W v cs.length 4 (cellVals cs) ∧ (∀ c ∈ cs, CellWf c) ∧ CellsD y.1 cs := by
  rcases open_slice_fields Try.underlying22 Try.underlying25 (by kernel_rfl) Try.cells25 hf with ⟨hcs, hx⟩ | ⟨a, len, cap, m, D, Pl, hcs, _, hl, hm, hmm, hx, hcell⟩
  · subst hcs
    subst hx
    exact ⟨[], _, rfl, ⟨rfl, by simp, none, 0, rfl, .inl rfl⟩, by simp, .inl ⟨rfl, rfl⟩⟩
  · subst hcs
    simp only [if_true] at hmm
    subst hmm
    obtain ⟨C, hC⟩ := choose_lt (α := Cell) (p := fun i c => CellWf c ∧ D i = cellD c ∧ W.cell? (a.add (i * 4 + 0)) = some (.string c.key) ∧ W.cell? (a.add (i * 4 + 1)) = some (.int .u64 c.seq) ∧ W.cell? (a.add (i * 4 + 2)) = some (.string c.val) ∧ W.cell? (a.add (i * 4 + 3)) = some (.bool c.gone)) (fun i (hi : i < m) => by
      obtain ⟨ys, n, hD, _, hyl, hfld⟩ := hcell i hi
      obtain ⟨v0, y0, c0, e0, t0⟩ := hfld 0 _ rfl
      obtain ⟨v1, y1, c1, e1, t1⟩ := hfld 1 _ rfl
      obtain ⟨v2, y2, c2, e2, t2⟩ := hfld 2 _ rfl
      obtain ⟨v3, y3, c3, e3, t3⟩ := hfld 3 _ rfl
      obtain ⟨s0, g0, rfl, w0⟩ := DataW.trod_string Try.underlying9 t0
      obtain ⟨s1, g1, rfl, w1⟩ := DataW.trod_int Try.underlying23 t1
      obtain ⟨s2, g2, rfl, w2⟩ := DataW.trod_string Try.underlying9 t2
      obtain ⟨s3, g3, rfl⟩ := DataW.trod_bool Try.underlying4 t3
      simp at g0 g1 g2 g3
      subst g0 g1 g2 g3
      have hw : 0 ≤ s1 ∧ s1 ≤ 18446744073709551615 := by simpa [Lit.wf, IntKind.min, IntKind.max, IntKind.signed, IntKind.bits] using w1
      refine ⟨⟨s0, s1, s2, s3⟩, ⟨hw.1, hw.2, w0, w2⟩, ?_, c0, c1, c2, c3⟩
      rw [hD]
      match ys, hyl, e0, e1, e2, e3 with
      | [z0, z1, z2, z3], _, e0, e1, e2, e3 =>
        simp at e0 e1 e2 e3
        subst e0 e1 e2 e3
        rfl)
    have hlen : ((List.range len).map C).length = len := by simp
    refine ⟨(List.range len).map C, _, rfl, ⟨cellVals_length _, by rw [hlen]; simp only [maxLen] at hm; omega, some a, m, by rw [hlen], ?_⟩, ?_, .inr ⟨(List.range (m - len)).map fun j => D (len + j), ?_⟩⟩
    · rw [hlen]
      rcases Nat.eq_zero_or_pos len with h0 | h0
      · exact .inl h0
      · right
        have hc0 : W.cell? a = some (.string (C 0).key) := (hC 0 (by omega)).2.2.1
        have hsp : a.spot = none := spot_none hc0
        have ha : a = ⟨a.block, a.off, none⟩ := by cases a; simp only at hsp; subst hsp; rfl
        refine ⟨a.block, a.off, by rw [← ha], World.block_lt_of_cell? W _ hc0, fun j u hj => ?_⟩
        have hjl : j < len * 4 := by
          have := (List.getElem?_eq_some_iff.1 hj).1
          rw [cellVals_length, hlen] at this; exact this
        have hq : ((List.range len).map C)[j / 4]? = some (C (j / 4)) := by
          rw [List.getElem?_map, List.getElem?_range (by omega)]; rfl
        obtain ⟨g0, g1, g2, g3⟩ := cellVals_get _ _ _ hq
        obtain ⟨_, _, c0, c1, c2, c3⟩ := hC (j / 4) (by omega)
        rw [add_at hsp] at c0 c1 c2 c3
        have hcase : j % 4 = 0 ∨ j % 4 = 1 ∨ j % 4 = 2 ∨ j % 4 = 3 := by omega
        rcases hcase with h | h | h | h
        · rw [show 4 * (j / 4) = j by omega, hj] at g0
          rw [show j / 4 * 4 + 0 = j by omega] at c0
          rw [c0]; exact g0.symm
        · rw [show 4 * (j / 4) + 1 = j by omega, hj] at g1
          rw [show j / 4 * 4 + 1 = j by omega] at c1
          rw [c1]; exact g1.symm
        · rw [show 4 * (j / 4) + 2 = j by omega, hj] at g2
          rw [show j / 4 * 4 + 2 = j by omega] at c2
          rw [c2]; exact g2.symm
        · rw [show 4 * (j / 4) + 3 = j by omega, hj] at g3
          rw [show j / 4 * 4 + 3 = j by omega] at c3
          rw [c3]; exact g3.symm
    · intro c hc
      obtain ⟨i, hi, rfl⟩ := List.mem_map.1 hc
      have := List.mem_range.1 hi
      exact (hC i (by omega)).1
    · rw [hx]
      show DataW.slice _ _ = _
      rw [List.map_map]
      congr 1
      exact List.map_congr_left fun i hi => (hC i (by have := List.mem_range.1 hi; omega)).2.1
end Go.Proofs.Ytbcaiegglbdonaa
