/-
  The law MemNobody is proved: called with any step, it returns true and leaves its argument as it was. Conditions: none of its own.
-/
import Derived.Test.YtbcaiegglbdonaaMemNobody
import Derived.Test.YtbcaiegglbdonaaMemSnap
namespace Go.Proofs.Ytbcaiegglbdonaa
open Go.ChangeShapes Go.WideShapes Go.ChangeAt Go.RowKit Go.Deep Go.Joins

theorem Try.cells51 : Try.prog.cellsOf 51 = 7 := by kernel_rfl
theorem seven {α : Type} {xs : Array α} (h : xs.size = 7) : ∃ a b c d e f g, xs = #[a, b, c, d, e, f, g] := by
  obtain ⟨l⟩ := xs
  match l, h with
  | [a, b, c, d, e, f, g], _ => exact ⟨a, b, c, d, e, f, g, rfl⟩
section
variable {H : Type} {enc : TypeId × Value → H} {W : World}
set_option maxRecDepth 100000 in
theorem trod_cell {base : Nat} {sp : Nat → Bool} {hd : Bool} {n : Nat} {c0 c1 c2 c3 : Value} {y : DataW H × List MemPlace} (h : DataW.trod enc Try.prog W base sp hd n 25 [c0, c1, c2, c3] = some y) :
    ∃ c : Cell, c0 = .string c.key ∧ c1 = .int .u64 c.seq ∧ c2 = .string c.val ∧ c3 = .bool c.gone ∧ CellWf c := by
  obtain ⟨y0, y1, y2, y3, n, _, _, h0, h1, h2, h3⟩ := trod_struct4 Try.underlying25 h
  simp only [show Try.prog.cellsOf 9 = 1 by kernel_rfl, show Try.prog.cellsOf 23 = 1 by kernel_rfl, show Try.prog.cellsOf 4 = 1 by kernel_rfl, List.drop_succ_cons, List.drop_zero, List.take_succ_cons, List.take_zero] at h0 h1 h2 h3
  obtain ⟨s0, e0, _, w0⟩ := DataW.trod_string Try.underlying9 h0
  obtain ⟨s1, e1, _, w1⟩ := DataW.trod_int Try.underlying23 h1
  obtain ⟨s2, e2, _, w2⟩ := DataW.trod_string Try.underlying9 h2
  obtain ⟨s3, e3, _⟩ := DataW.trod_bool Try.underlying4 h3
  simp at e0 e1 e2 e3
  subst e0 e1 e2 e3
  have hw : 0 ≤ s1 ∧ s1 ≤ 18446744073709551615 := by simpa [Lit.wf, IntKind.min, IntKind.max, IntKind.signed, IntKind.bits] using w1
  exact ⟨⟨s0, s1, s2, s3⟩, rfl, rfl, rfl, rfl, hw.1, hw.2, w0, w2⟩
set_option maxRecDepth 100000 in
theorem trod_op {base : Nat} {sp : Nat → Bool} {hd : Bool} {n : Nat} {c0 c1 c2 c3 c4 c5 c6 : Value} {y : DataW H × List MemPlace} (h : DataW.trod enc Try.prog W base sp hd n 51 [c0, c1, c2, c3, c4, c5, c6] = some y) :
    ∃ (kind : Int) (c : Cell) (to : ByteArray) (k : Int), c0 = .int .i64 kind ∧ c1 = .string c.key ∧ c2 = .int .u64 c.seq ∧ c3 = .string c.val ∧ c4 = .bool c.gone ∧ c5 = .string to ∧ c6 = .int .i64 k ∧ CellWf c ∧ -9223372036854775808 ≤ k ∧ k ≤ 9223372036854775807 := by
  obtain ⟨y0, y1, y2, y3, n, _, _, h0, h1, h2, h3⟩ := trod_struct4 Try.underlying51 h
  simp only [show Try.prog.cellsOf 9 = 1 by kernel_rfl, show Try.prog.cellsOf 3 = 1 by kernel_rfl, show Try.prog.cellsOf 25 = 4 by kernel_rfl, List.drop_succ_cons, List.drop_zero, List.take_succ_cons, List.take_zero] at h0 h1 h2 h3
  obtain ⟨kind, e0, _, _⟩ := DataW.trod_int Try.underlying3 h0
  obtain ⟨c, e1, e2, e3, e4, hc⟩ := trod_cell h1
  obtain ⟨to, e5, _, _⟩ := DataW.trod_string Try.underlying9 h2
  obtain ⟨k, e6, _, w6⟩ := DataW.trod_int Try.underlying3 h3
  simp at e0 e5 e6
  have hw : -9223372036854775808 ≤ k ∧ k ≤ 9223372036854775807 := by simpa [Lit.wf, IntKind.min, IntKind.max, IntKind.signed, IntKind.bits] using w6
  exact ⟨kind, c, to, k, e0, e1, e2, e3, e4, e5, e6, hc, hw.1, hw.2⟩
set_option maxRecDepth 100000 in
theorem open_op {base : Nat} {sp : Nat → Bool} {hd : Bool} {v : Value} {d : DataW H} {p : List MemPlace} {r : Reach} {b0 : Nat} (hv : Value.okWide Try.prog W r b0 51 v) (h : DataW.Trod enc Try.prog W base sp hd 51 v d p) :
    ∃ (kind : Int) (c : Cell) (to : ByteArray) (k : Int), v = .agg #[.int .i64 kind, .string c.key, .int .u64 c.seq, .string c.val, .bool c.gone, .string to, .int .i64 k] ∧ CellWf c ∧ -9223372036854775808 ≤ k ∧ k ≤ 9223372036854775807 := by
  obtain ⟨cs, rfl, hsz⟩ := okWide_struct Try.underlying51 hv
  rw [Try.cells51] at hsz
  obtain ⟨c0, c1, c2, c3, c4, c5, c6, rfl⟩ := seven hsz
  obtain ⟨fuel, hf⟩ := h
  obtain ⟨kind, c, to, k, rfl, rfl, rfl, rfl, rfl, rfl, rfl, h⟩ := trod_op (by simpa [Value.cells] using hf)
  exact ⟨kind, c, to, k, rfl, h⟩
end

set_option maxRecDepth 100000 in
theorem memNobody_lifted (os : Os) (started : os.Started) (H : Type) (enc : TypeId × Value → H) :
    ReturnsInHanded {} Try.checked os 8 .any (Rows.memNobodySpec.pre6 enc Try.prog Try.f8 Rows.memNobodyRow.domain false) (Rows.memNobodySpec.post enc Try.prog Try.f8 false true false false) := by
  refine returnsInHanded_of_change_sized (C := Try.checked) Try.own started (by kernel_rfl) Try.func8
    (ChangeSpec.witness6 (enc := enc) (C := Try.checked) false ⟨#[], #[.agg #[.int .i64 0, .string .empty, .int .u64 0, .string .empty, .bool false, .string .empty, .int .i64 0]], []⟩ 8 (by kernel_rfl) (by kernel_rfl) (by kernel_rfl) (by kernel_rfl)) ?_
  intro W base args ds gs before hval0 hW _ hsz _
  have hval : ∀ (j : Nat) t v, Try.f8.params[j]? = some t → args[j]? = some v → Value.okWide Try.prog W .any base t v := hval0
  have hW' : DataW.Whole enc Try.prog Try.f8.params.toList Rows.memNobodySpec.vars false W args.toList ds gs before := hW
  obtain ⟨p, q, hA0, hV, rfl, hfz, hnd⟩ := hW
  have hA : DataW.TrodAll enc Try.prog W 0 (fun _ => true) true Try.f8.params.toList args.toList ds p := hA0
  rw [Try.params8] at hA hval hsz
  obtain ⟨v0, d0, rfl, rfl, h0⟩ := trodAll_one hA
  obtain ⟨rfl, rfl⟩ := trodVars_none hV
  obtain ⟨kind, c, to, n, rfl, _⟩ := open_op (hval 0 51 v0 rfl rfl) h0
  refine (nobody_walk kind c to n).mono fun e W' ⟨he, hb⟩ => ?_
  subst he
  exact ⟨_, rfl, law_post rfl hW' rfl rfl rfl rfl (by rw [Try.params8]; intro t ht; simp at ht; rcases ht with rfl; exact ⟨by kernel_rfl, of_decide_eq_true (by kernel_rfl)⟩) hb⟩

theorem memNobody_holds : Rows.MemNobodySaid :=
  OpenClaim.holds_of_wide 8 Try.f8 rfl rfl rfl rfl rfl rfl rfl ⟨rfl, rfl, rfl, rfl, rfl⟩ rfl rfl rfl rfl rfl (by kernel_rfl) Try.func8 (by kernel_rfl)
    (of_decide_eq_true (by kernel_rfl)) (by unfold Func.isWrapper; rw [if_neg (of_decide_eq_false (by kernel_rfl))]; exact ⟨rfl, rfl⟩)
    (fun os started H enc _ => memNobody_lifted os started H enc)

end Go.Proofs.Ytbcaiegglbdonaa
