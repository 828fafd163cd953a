/-
  Arguments of a law opened: a slice of cells that may be nil, an int.
-/
import Derived.Test.YtbcaiegglbdonaaSmall
import Derived.Test.YtbcaiegglbdonaaCellEq
namespace Go.Proofs.Ytbcaiegglbdonaa
open Go.ChangeShapes Go.WideShapes Go.ChangeAt Go.RowKit Go.Deep Go.Joins

set_option maxRecDepth 100000 in
/-- A nil slice of cells has nothing in it. -/
theorem open_nil {H : Type} {enc : TypeId × Value → H} {W : World} {v : Value} {d : DataW H} {p : List MemPlace} {r : Reach} {b0 : Nat} (hv : Value.okWide Try.prog W r b0 22 v) (h : DataW.Trod enc Try.prog W 0 (fun _ => true) true 22 v d p) :
    ∃ A n c, v = .slice A n c ∧ (A = none → n = 0 ∧ c = 0) := by
  obtain ⟨a0, len, cap, rfl⟩ := okWide_slice Try.underlying22 hv
  obtain ⟨fuel, hf⟩ := h
  rcases open_slice_fields Try.underlying22 Try.underlying25 (by kernel_rfl) Try.cells25 hf with ⟨hcs, hx⟩ | ⟨a, len', cap', m, D, Pl, hcs, _, hl, hm, hmm, hx, hcell⟩
  · simp [Value.cells] at hcs
    obtain ⟨rfl, rfl, rfl⟩ := hcs
    exact ⟨none, 0, 0, rfl, fun _ => ⟨rfl, rfl⟩⟩
  · simp [Value.cells] at hcs
    obtain ⟨rfl, rfl, rfl⟩ := hcs
    exact ⟨some a, _, _, rfl, fun h => by cases h⟩
theorem reads_nil {w : World} {v : Value} {cs : List Cell} (h : Reads w v cs.length 4 (cellVals cs)) (hn : ∃ A n c, v = .slice A n c ∧ (A = none → n = 0 ∧ c = 0)) : ∃ A cap, v = .slice A cs.length cap ∧ (A = none → cs.length = 0 ∧ cap = 0) := by
  obtain ⟨A, cap, rfl⟩ := h.form
  obtain ⟨A', n, c, e, h2⟩ := hn
  injection e with e1 e2 e3
  subst e1 e2 e3
  exact ⟨A, cap, rfl, h2⟩
set_option maxRecDepth 100000 in
theorem open_i64 {H : Type} {enc : TypeId × Value → H} {W : World} {v : Value} {d : DataW H} {p : List MemPlace} {r : Reach} {b0 : Nat} (hv : Value.okWide Try.prog W r b0 3 v) (h : DataW.Trod enc Try.prog W 0 (fun _ => true) true 3 v d p) :
    ∃ n, v = .int .i64 n ∧ -9223372036854775808 ≤ n ∧ n ≤ 9223372036854775807 := by
  obtain ⟨n, rfl⟩ := okWide_int Try.underlying3 hv
  obtain ⟨fuel, hf⟩ := h
  obtain ⟨k, e0, _, w0⟩ := DataW.trod_int Try.underlying3 hf
  simp [Value.cells] at e0
  subst e0
  have hw : -9223372036854775808 ≤ n ∧ n ≤ 9223372036854775807 := by simpa [Lit.wf, IntKind.min, IntKind.max, IntKind.signed, IntKind.bits] using w0
  exact ⟨n, rfl, hw.1, hw.2⟩
end Go.Proofs.Ytbcaiegglbdonaa
