/-
  A law's own table in memory.
-/
import Derived.Test.YtbcaiegglbdonaaCellEq
import Derived.Test.YtbcaiegglbdonaaSmall
namespace Go.Proofs.Ytbcaiegglbdonaa
open Go.RowKit

/-- A table of the call's own, and what else is the call's own and stays. -/
structure Own (w0 : World) (a : Nat) (M : MM) (G : Nat → Prop) (w : World) : Prop where
  mem : ∃ F, MemIs w a F M ∧ (∀ k, F k → w0.heap.size ≤ k) ∧ ∀ k, G k → ¬ F k ∧ k < w.heap.size
  below : Below w0.heap.size w0 w
theorem Own.only {w0 w w' : World} {a : Nat} {M : MM} {G : Nat → Prop} (h : Own w0 a M G w) (hb : Below w.heap.size w w') : Own w0 a M G w' := by
  obtain ⟨F, h1, h2, h3⟩ := h.mem
  exact ⟨⟨F, h1.kept hb, h2, fun k hk => ⟨(h3 k hk).1, Nat.lt_of_lt_of_le (h3 k hk).2 hb.size⟩⟩, h.below.trans (hb.mono h.below.size)⟩
theorem Own.alloc {w0 w : World} {a : Nat} {M : MM} {G : Nat → Prop} (h : Own w0 a M G w) (o : Obj) : Own w0 a M G (w.alloc o) := h.only ((Below.refl _ _).alloc (Nat.le_refl _) o)
/-- One block more that stays. -/
theorem Own.more {w0 w : World} {a : Nat} {M : MM} {G : Nat → Prop} (h : Own w0 a M G w) (o : Obj) {b : Nat} (hb : b = w.heap.size) : Own w0 a M (fun k => G k ∨ k = b) (w.alloc o) := by
  subst hb
  obtain ⟨F, h1, h2, h3⟩ := (h.alloc o).mem
  obtain ⟨F0, g1, g2, g3⟩ := h.mem
  refine ⟨⟨F0, g1.kept ((Below.refl _ _).alloc (Nat.le_refl _) o), g2, ?_⟩, (h.alloc o).below⟩
  rintro k (hk | rfl)
  · exact ⟨(g3 k hk).1, by have := (g3 k hk).2; simp; omega⟩
  · exact ⟨fun hF => by have := g1.lt _ hF; omega, by simp⟩
theorem Own.put {w0 w : World} {a : Nat} {M : MM} {G : Nat → Prop} (h : Own w0 a M G w) (c : Cell) (hgt : Int) (hl : M.length ≤ 1099511627776000) :
    Calls Try.prog 22 #[.pointer (some ⟨a, 0, none⟩), .agg #[.string c.key, .int .u64 c.seq, .string c.val, .bool c.gone], .int .i64 hgt] w fun e w' => e = .returned (.int .i64 (putRes M c hgt).1) ∧ Own w0 a (putRes M c hgt).2 G w' ∧ ∀ b arr t, G b → Blk w b arr t → Blk w' b arr t := by
  obtain ⟨F, h1, h2, h3⟩ := h.mem
  refine (put_model h1 c hgt hl).mono ?_
  rintro e w' ⟨F', he, hm, hF', ho⟩
  refine ⟨he, ⟨⟨F', hm, fun k hk => (hF' k hk).elim (h2 k) (fun hk => Nat.le_trans h.below.size hk), fun k hk => ⟨fun hFk => ?_, Nat.lt_of_lt_of_le (h3 k hk).2 ho.size⟩⟩, h.below.trans (ho.below h.below.size h2)⟩, fun b arr t hb hB => hB.only ho (h3 b hb).1⟩
  rcases hF' k hFk with h | h
  · exact (h3 k hk).1 h
  · have := (h3 k hk).2; omega
theorem Own.get {w0 w : World} {a : Nat} {M : MM} {G : Nat → Prop} (h : Own w0 a M G w) (key : ByteArray) (seq : Int) :
    Calls Try.prog 23 #[.pointer (some ⟨a, 0, none⟩), .string key, .int .u64 seq] w fun e w' => e = .returned (.tuple #[.agg #[.string (getM M key seq).1.key, .int .u64 (getM M key seq).1.seq, .string (getM M key seq).1.val, .bool (getM M key seq).1.gone], .bool (getM M key seq).2]) ∧ Own w0 a M G w' ∧ Below w.heap.size w w' := by
  obtain ⟨F, h1, h2, h3⟩ := h.mem
  refine (get_model h1 key seq).mono ?_
  rintro e w' ⟨he, hb⟩
  exact ⟨he, h.only hb, hb⟩
theorem Own.new {w0 w : World} {e : Ending} {w' : World} (hb : Below w0.heap.size w0 w) (h : NewPost w e w') : e = .returned (.pointer (some ⟨w.heap.size + 1, 0, none⟩)) ∧ Own w0 (w.heap.size + 1) [] (fun _ => False) w' := by
  obtain ⟨h1, h2, h3, h4⟩ := h.mem
  exact ⟨h1, ⟨_, h2, by rintro k (rfl | rfl) <;> (have := hb.size; omega), fun k hk => hk.elim⟩, hb.trans (h3.mono hb.size)⟩
end Go.Proofs.Ytbcaiegglbdonaa
