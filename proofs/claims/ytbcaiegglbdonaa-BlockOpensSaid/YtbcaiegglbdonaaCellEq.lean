/-
  '==' of two cells; a slice of cells read at an index.
-/
import Derived.Test.YtbcaiegglbdonaaOpen
import Derived.Laws.StructEq
namespace Go.Proofs.Ytbcaiegglbdonaa
open Go.RowKit

section
variable {P : Program} {d : Nat} {xs ys : Array Value} {f : Field} {fs : List Field} {a b : Value} {r s : Bool} {w : World}
theorem eqf_nil : (Op.eqFields d xs ys []).run P w = .ok true w := by simp [Op.eqFields]
theorem eqf_cons (hn : (f.name == "_") = false) (ha : (part f.type xs f.offset).run P w = .ok a w) (hb : (part f.type ys f.offset).run P w = .ok b w) (he : (Op.equalIn d f.type a b).run P w = .ok r w) (hr : (Op.eqFields d xs ys fs).run P w = .ok s w) : (Op.eqFields d xs ys (f :: fs)).run P w = .ok (r && s) w := by
  have hn' : f.name ≠ "_" := by simpa using hn
  rw [Op.eqFields]
  simp only [if_pos hn', Sem.run_bind, ha, hb, he, Result.andThen_ok]
  cases r
  · simp
  · simpa using hr
theorem eqA_of {t : TypeId} {fs : Array Field} (hu : P.underlying t = some (.struct fs)) (hp : P.stoodInHeld t = false) (h : (Op.eqFields d xs ys fs.toList).run P w = .ok r w) : (Op.equalIn (d + 1) t (.agg xs) (.agg ys)).run P w = .ok r w := by
  have hf : P.fieldsOf t = fs := by simp [Program.fieldsOf, hu]
  rw [run_equalIn_struct (P := P) w d t xs ys (by rw [hf]; exact hu) hp, hf]
  exact h
end
theorem eqIn25 (d : Nat) (w : World) (x0 y0 : ByteArray) (x1 y1 : Int) (x2 y2 : ByteArray) (x3 y3 : Bool) :
    (Op.equalIn (d + 2) 25 (.agg #[.string x0, .int .u64 x1, .string x2, .bool x3]) (.agg #[.string y0, .int .u64 y1, .string y2, .bool y3])).run Try.prog w = .ok (x0.toList == y0.toList && (x1 == y1 && (x2.toList == y2.toList && (x3 == y3 && true)))) w := by
  refine eqA_of Try.underlying25 (by kernel_rfl) ?_
  refine eqf_cons (by rfl) (by go_simp; rfl) (by go_simp; rfl) (by go_simp) ?_
  refine eqf_cons (by rfl) (by go_simp; rfl) (by go_simp; rfl) (by go_simp) ?_
  refine eqf_cons (by rfl) (by go_simp; rfl) (by go_simp; rfl) (by go_simp) ?_
  exact eqf_cons (by rfl) (by go_simp; rfl) (by go_simp; rfl) (by go_simp) eqf_nil
theorem cell_beq (a b : Cell) : (a.key.toList == b.key.toList && (a.seq == b.seq && (a.val.toList == b.val.toList && (a.gone == b.gone && true)))) = decide (a = b) := by
  rw [Bool.eq_iff_iff, decide_eq_true_iff]
  simp only [Bool.and_eq_true, str_beq]
  simp only [beq_iff_eq]
  constructor
  · rintro ⟨h1, h2, h3, h4, _⟩
    cases a; cases b; simp only at h1 h2 h3 h4; subst h1 h2 h3 h4; rfl
  · rintro rfl; simp
theorem cell_eql (a b : Cell) (w : World) : (binOp .eql 25 (.agg #[.string a.key, .int .u64 a.seq, .string a.val, .bool a.gone]) (.agg #[.string b.key, .int .u64 b.seq, .string b.val, .bool b.gone])).run Try.prog w = .ok (.bool (decide (a = b))) w := by
  rw [run_eql_struct, eqIn25 9998, cell_beq]; rfl
theorem cell_neq (a b : Cell) (w : World) : (binOp .neq 25 (.agg #[.string a.key, .int .u64 a.seq, .string a.val, .bool a.gone]) (.agg #[.string b.key, .int .u64 b.seq, .string b.val, .bool b.gone])).run Try.prog w = .ok (.bool (!decide (a = b))) w := by
  rw [run_neq_struct, eqIn25 9998, cell_beq]; rfl

/-- The k-th cell of a slice of cells. -/
theorem Reads.cell_at {w : World} {A : Option Addr} {cap : Nat} {cs : List Cell} (h : Reads w (.slice A cs.length cap) cs.length 4 (cellVals cs)) {k : Nat} {c : Cell} (hk : cs[k]? = some c) :
    ∃ b o, A = some ⟨b, o, none⟩ ∧ b < w.heap.size ∧ w.cell? ⟨b, o + k * 4, none⟩ = some (.string c.key) ∧ w.cell? ⟨b, o + k * 4 + 1, none⟩ = some (.int .u64 c.seq) ∧ w.cell? ⟨b, o + k * 4 + 2, none⟩ = some (.string c.val) ∧ w.cell? ⟨b, o + k * 4 + 3, none⟩ = some (.bool c.gone) := by
  obtain ⟨_, _, A', cap', e, h3⟩ := h
  injection e with e1 e2 e3
  subst e1 e3
  have hlt := (List.getElem?_eq_some_iff.1 hk).1
  obtain ⟨b, o, rfl, hb, hc⟩ := h3.resolve_left (by omega)
  obtain ⟨g0, g1, g2, g3⟩ := cellVals_get cs k c hk
  refine ⟨b, o, rfl, hb, ?_, ?_, ?_, ?_⟩
  · rw [Nat.mul_comm]; exact hc _ _ g0
  · rw [Nat.mul_comm, Nat.add_assoc]; exact hc _ _ g1
  · rw [Nat.mul_comm, Nat.add_assoc]; exact hc _ _ g2
  · rw [Nat.mul_comm, Nat.add_assoc]; exact hc _ _ g3
theorem Reads.form {w : World} {v : Value} {n k : Nat} {xs : List Value} (h : Reads w v n k xs) : ∃ A cap, v = .slice A n cap := by
  obtain ⟨_, _, A, cap, rfl, _⟩ := h; exact ⟨A, cap, rfl⟩

end Go.Proofs.Ytbcaiegglbdonaa
