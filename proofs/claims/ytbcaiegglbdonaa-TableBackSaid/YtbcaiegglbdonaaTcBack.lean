/-
  The law TableBack is proved: called with any arguments, it returns true and leaves its arguments as they were. Conditions: none of its own.
-/
import Derived.Test.YtbcaiegglbdonaaTcBackA
/-
  Arguments of a law opened: a slice of cells that may be nil, an int.
-/
namespace Go.Proofs.Ytbcaiegglbdonaa
open Go.ChangeShapes Go.WideShapes Go.ChangeAt Go.RowKit Go.Deep Go.Joins

set_option maxRecDepth 100000 in
/-- A nil slice of cells has nothing in it. -/
theorem open_nil {H : Type} {enc : TypeId × Value → H} {W : World} {v : Value} {d : DataW H} {p : List MemPlace} {r : Reach} {b0 : Nat} (hv : Value.okWide Try.prog W r b0 22 v) (h : DataW.Trod enc Try.prog W 0 (fun _ => true) true 22 v d p) :
    ∃ A n c, v = .slice A n c ∧ (A = none → n = 0 ∧ c = 0) := by
  obtain ⟨a0, len, cap, rfl⟩ := okWide_slice Try.underlying22 hv
  obtain ⟨fuel, hf⟩ := h
  rcases open_slice_fields Try.underlying22 Try.underlying25 (by kernel_rfl) Try.cells25 hf with ⟨hcs, hx⟩ | ⟨a, len', cap', m, D, Pl, hcs, _, hl, hm, hmm, hx, hcell⟩
  · simp [Value.cells] at hcs
    obtain ⟨rfl, rfl, rfl⟩ := hcs
    exact ⟨none, 0, 0, rfl, fun _ => ⟨rfl, rfl⟩⟩
  · simp [Value.cells] at hcs
    obtain ⟨rfl, rfl, rfl⟩ := hcs
    exact ⟨some a, _, _, rfl, fun h => by cases h⟩
theorem reads_nil {w : World} {v : Value} {cs : List Cell} (h : Reads w v cs.length 4 (cellVals cs)) (hn : ∃ A n c, v = .slice A n c ∧ (A = none → n = 0 ∧ c = 0)) : ∃ A cap, v = .slice A cs.length cap ∧ (A = none → cs.length = 0 ∧ cap = 0) := by
  obtain ⟨A, cap, rfl⟩ := h.form
  obtain ⟨A', n, c, e, h2⟩ := hn
  injection e with e1 e2 e3
  subst e1 e2 e3
  exact ⟨A, cap, rfl, h2⟩
set_option maxRecDepth 100000 in
theorem open_i64 {H : Type} {enc : TypeId × Value → H} {W : World} {v : Value} {d : DataW H} {p : List MemPlace} {r : Reach} {b0 : Nat} (hv : Value.okWide Try.prog W r b0 3 v) (h : DataW.Trod enc Try.prog W 0 (fun _ => true) true 3 v d p) :
    ∃ n, v = .int .i64 n ∧ -9223372036854775808 ≤ n ∧ n ≤ 9223372036854775807 := by
  obtain ⟨n, rfl⟩ := okWide_int Try.underlying3 hv
  obtain ⟨fuel, hf⟩ := h
  obtain ⟨k, e0, _, w0⟩ := DataW.trod_int Try.underlying3 hf
  simp [Value.cells] at e0
  subst e0
  have hw : -9223372036854775808 ≤ n ∧ n ≤ 9223372036854775807 := by simpa [Lit.wf, IntKind.min, IntKind.max, IntKind.signed, IntKind.bits] using w0
  exact ⟨n, rfl, hw.1, hw.2⟩
end Go.Proofs.Ytbcaiegglbdonaa

/-
  Arguments of a law opened: a shape, a byte, a slice of cells and its room.
-/
namespace Go.Proofs.Ytbcaiegglbdonaa
open Go.ChangeShapes Go.WideShapes Go.ChangeAt Go.RowKit Go.Deep Go.Joins

set_option maxRecDepth 100000 in
/-- A slice of cells has room for what is in it. -/
theorem open_room {H : Type} {enc : TypeId × Value → H} {W : World} {v : Value} {d : DataW H} {p : List MemPlace} {r : Reach} {b0 : Nat} (hv : Value.okWide Try.prog W r b0 22 v) (h : DataW.Trod enc Try.prog W 0 (fun _ => true) true 22 v d p) :
    ∃ A n c, v = .slice A n c ∧ n ≤ c := by
  obtain ⟨a0, len, cap, rfl⟩ := okWide_slice Try.underlying22 hv
  obtain ⟨fuel, hf⟩ := h
  rcases open_slice_fields Try.underlying22 Try.underlying25 (by kernel_rfl) Try.cells25 hf with ⟨hcs, hx⟩ | ⟨a, len', cap', m, D, Pl, hcs, _, hl, hm, hmm, hx, hcell⟩
  · simp [Value.cells] at hcs
    obtain ⟨rfl, rfl, rfl⟩ := hcs
    exact ⟨none, 0, 0, rfl, Nat.le_refl _⟩
  · simp [Value.cells] at hcs
    obtain ⟨rfl, rfl, rfl⟩ := hcs
    exact ⟨some a, _, _, rfl, hl⟩
theorem reads_room {w : World} {v : Value} {cs : List Cell} (h : Reads w v cs.length 4 (cellVals cs)) (hn : ∃ A n c, v = .slice A n c ∧ n ≤ c) : ∃ A cap, v = .slice A cs.length cap ∧ cs.length ≤ cap := by
  obtain ⟨A, cap, rfl⟩ := h.form
  obtain ⟨A', n, c, e, h2⟩ := hn
  injection e with e1 e2 e3
  subst e1 e2 e3
  exact ⟨A, cap, rfl, h2⟩
set_option maxRecDepth 100000 in
theorem open_shape {H : Type} {enc : TypeId × Value → H} {W : World} {v : Value} {d : DataW H} {p : List MemPlace} {r : Reach} {b0 : Nat} (hv : Value.okWide Try.prog W r b0 89 v) (h : DataW.Trod enc Try.prog W 0 (fun _ => true) true 89 v d p) :
    ∃ b r t : Int, v = .agg #[.int .i64 b, .int .i64 r, .int .i64 t] := by
  obtain ⟨v0, v1, v2, y0, y1, y2, n, rfl, rfl, _, h0, h1, h2⟩ := open_agg3 Try.underlying89 (by kernel_rfl) (by kernel_rfl) hv h
  obtain ⟨b, e1, _, _⟩ := DataW.trod_int Try.underlying3 h0
  obtain ⟨r, e2, _, _⟩ := DataW.trod_int Try.underlying3 h1
  obtain ⟨t, e3, _, _⟩ := DataW.trod_int Try.underlying3 h2
  simp at e1 e2 e3
  subst e1 e2 e3
  exact ⟨b, r, t, rfl⟩
set_option maxRecDepth 100000 in
theorem open_byte {H : Type} {enc : TypeId × Value → H} {W : World} {v : Value} {d : DataW H} {p : List MemPlace} {r : Reach} {b0 : Nat} (hv : Value.okWide Try.prog W r b0 5 v) (h : DataW.Trod enc Try.prog W 0 (fun _ => true) true 5 v d p) :
    ∃ n : Nat, v = .int .u8 (n : Nat) ∧ n < 256 := by
  obtain ⟨n, rfl⟩ := okWide_int Try.underlying5 hv
  obtain ⟨fuel, hf⟩ := h
  obtain ⟨k, e0, _, w0⟩ := DataW.trod_int Try.underlying5 hf
  simp [Value.cells] at e0
  subst e0
  have hw : 0 ≤ n ∧ n ≤ 255 := by simpa [Lit.wf, IntKind.min, IntKind.max, IntKind.signed, IntKind.bits] using w0
  exact ⟨n.toNat, by rw [Int.toNat_of_nonneg hw.1], by omega⟩
end Go.Proofs.Ytbcaiegglbdonaa

/-
  The law TableBack is proved: called with any arguments, it returns true and leaves its arguments as they were. Conditions: none of its own.
-/
namespace Go.Proofs.Ytbcaiegglbdonaa
open Go.ChangeShapes Go.WideShapes Go.ChangeAt Go.RowKit Go.Deep Go.Joins

set_option maxRecDepth 100000 in
theorem tableBack_lifted (os : Os) (started : os.Started) (H : Type) (enc : TypeId × Value → H) :
    ReturnsInHanded {} Try.checked os 18 .any (Rows.tableBackSpec.pre6 enc Try.prog Try.f18 Rows.tableBackRow.domain false) (Rows.tableBackSpec.post enc Try.prog Try.f18 false true false false) := by
  refine returnsInHanded_of_change_sized (C := Try.checked) Try.own started (by kernel_rfl) Try.func18
    (ChangeSpec.witness6 (enc := enc) (C := Try.checked) false ⟨#[], #[.slice none 0 0, .agg #[.int .i64 0, .int .i64 0, .int .i64 0]], []⟩ 8 (by kernel_rfl) (by kernel_rfl) (by kernel_rfl) (by kernel_rfl)) ?_
  intro W base args ds gs before hval0 hW _ hsz _
  have hval : ∀ (j : Nat) t v, Try.f18.params[j]? = some t → args[j]? = some v → Value.okWide Try.prog W .any base t v := hval0
  have hW' : DataW.Whole enc Try.prog Try.f18.params.toList Rows.tableBackSpec.vars false W args.toList ds gs before := hW
  obtain ⟨p, q, hA0, hV, rfl, hfz, hnd⟩ := hW
  have hA : DataW.TrodAll enc Try.prog W 0 (fun _ => true) true Try.f18.params.toList args.toList ds p := hA0
  rw [Try.params18] at hA hval hsz
  obtain ⟨v0, v1, d0, d1, p0, p1, rfl, rfl, rfl, h0, h1⟩ := trodAll_two hA
  obtain ⟨rfl, rfl⟩ := trodVars_none hV
  obtain ⟨cs, hcs, hwf, hd0⟩ := open_cells (hval 0 22 v0 rfl rfl) h0
  obtain ⟨A, cap, rfl, hcap⟩ := reads_room hcs (open_room (hval 0 22 v0 rfl rfl) h0)
  obtain ⟨b, r, t, rfl⟩ := open_shape (hval 1 89 v1 rfl rfl) h1
  have hl0 := cells_len hsz (j := 0) rfl rfl hd0
  refine (tback_walk hcs hcap hl0 (fun c hc => (hwf c hc).1) b r t).mono fun e W' ⟨he, hb⟩ => ?_
  subst he
  exact ⟨_, rfl, law_post rfl hW' rfl rfl rfl rfl (by rw [Try.params18]; intro t ht; simp at ht; rcases ht with rfl | rfl <;> exact ⟨by kernel_rfl, of_decide_eq_true (by kernel_rfl)⟩) hb⟩

theorem tableBack_holds : Rows.TableBackSaid :=
  OpenClaim.holds_of_wide 18 Try.f18 rfl rfl rfl rfl rfl rfl rfl ⟨rfl, rfl, rfl, rfl, rfl⟩ rfl rfl rfl rfl rfl (by kernel_rfl) Try.func18 (by kernel_rfl)
    (of_decide_eq_true (by kernel_rfl)) (by unfold Func.isWrapper; rw [if_neg (of_decide_eq_false (by kernel_rfl))]; exact ⟨rfl, rfl⟩)
    (fun os started H enc _ => tableBack_lifted os started H enc)

end Go.Proofs.Ytbcaiegglbdonaa
