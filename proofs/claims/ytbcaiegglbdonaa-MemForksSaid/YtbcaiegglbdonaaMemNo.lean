/-
  A table that New did not give.
-/
import Derived.Test.YtbcaiegglbdonaaMemGoes
namespace Go.Proofs.Ytbcaiegglbdonaa
open Go.RowKit Go.Shelf

/-- New did not give p. -/
structure NoMem (p : Value) (F : Nat → Prop) (W : World) : Prop where
  made : ∀ W', Only (fun k => ¬ F k) W W' → Calls Try.prog 73 #[p] W' fun e w' => e = .returned (.bool false) ∧ W' = w'
  ptr : ∃ q, p = .pointer q
theorem NoMem.kept {p : Value} {F : Nat → Prop} {W W' : World} (h : NoMem p F W) (hb : Below W.heap.size W W') : NoMem p F W' := ⟨fun W2 h2 => h.made W2 ((Only.of_below hb).trans h2), h.ptr⟩
theorem NoMem.now {p : Value} {F : Nat → Prop} {W : World} (h : NoMem p F W) : Calls Try.prog 73 #[p] W fun e w' => e = .returned (.bool false) ∧ W = w' := h.made W (Only.refl _ _)
theorem noMem_nil (W : World) : NoMem (.pointer none) (fun _ => False) W := ⟨fun W' _ => made_nil W', ⟨_, rfl⟩⟩
theorem noMem_zero {W : World} {b : Nat} {arr : Array Value} {t : TypeId} (h : Blk W b arr t) (h0 : arr[0]? = some (.pointer none)) : NoMem (.pointer (some ⟨b, 0, none⟩)) (fun k => k = b) W :=
  ⟨fun W' ho => made_zero ((h.only ho (by simp)).cell 0 _ h0), ⟨_, rfl⟩⟩
section
variable {w : World} {p : Value} {F : Nat → Prop}
set_option maxRecDepth 100000 in
theorem no_len (h : NoMem p F w) : Calls Try.prog 30 #[p] w fun e w' => e = .returned (.int .i64 0) ∧ w = w' := by
  obtain ⟨q, rfl⟩ := h.ptr
  have hn := h.now
  go_enter Try.func30, Try.ntmps30
  go_wp2_with fail
  refine hn.mono ?_
  rintro e w' ⟨rfl, rfl⟩
  go_wp2_with fail
  go_ret
  exact ⟨rfl, rfl⟩
set_option maxRecDepth 100000 in
theorem no_size (h : NoMem p F w) : Calls Try.prog 29 #[p] w fun e w' => e = .returned (.int .i64 0) ∧ w = w' := by
  obtain ⟨q, rfl⟩ := h.ptr
  have hn := h.now
  go_enter Try.func29, Try.ntmps29
  go_wp2_with fail
  refine hn.mono ?_
  rintro e w' ⟨rfl, rfl⟩
  go_wp2_with fail
  go_ret
  exact ⟨rfl, rfl⟩
set_option maxRecDepth 100000 in
theorem no_levels (h : NoMem p F w) : Calls Try.prog 28 #[p] w fun e w' => e = .returned (.slice none 0 0) ∧ w = w' := by
  obtain ⟨q, rfl⟩ := h.ptr
  have hn := h.now
  go_enter Try.func28, Try.ntmps28
  go_wp2_with fail
  refine hn.mono ?_
  rintro e w' ⟨rfl, rfl⟩
  go_wp2_with fail
  go_ret
  exact ⟨rfl, rfl⟩
set_option maxRecDepth 100000 in
theorem no_cells (h : NoMem p F w) : Calls Try.prog 24 #[p] w fun e w' => e = .returned (.slice none 0 0) ∧ w = w' := by
  obtain ⟨q, rfl⟩ := h.ptr
  have hn := h.now
  go_enter Try.func24, Try.ntmps24
  go_wp2_with fail
  refine hn.mono ?_
  rintro e w' ⟨rfl, rfl⟩
  go_wp2_with fail
  go_ret
  exact ⟨rfl, rfl⟩
set_option maxRecDepth 100000 in
theorem no_fork (h : NoMem p F w) : Calls Try.prog 31 #[p] w fun e w' => e = .returned (.pointer none) ∧ w = w' := by
  obtain ⟨q, rfl⟩ := h.ptr
  have hn := h.now
  go_enter Try.func31, Try.ntmps31
  go_wp2_with fail
  refine hn.mono ?_
  rintro e w' ⟨rfl, rfl⟩
  go_wp2_with fail
  go_ret
  exact ⟨rfl, rfl⟩
set_option maxRecDepth 100000 in
theorem no_put (h : NoMem p F w) (c : Cell) (n : Int) : Calls Try.prog 22 #[p, .agg #[.string c.key, .int .u64 c.seq, .string c.val, .bool c.gone], .int .i64 n] w fun e w' => e = .returned (.int .i64 6) ∧ Below w.heap.size w w' := by
  obtain ⟨q, rfl⟩ := h.ptr
  have hn := (h.kept ((Below.refl _ _).alloc (Nat.le_refl _) (.cells #[.string c.key, .int .u64 c.seq, .string c.val, .bool c.gone] 25))).now
  go_enter Try.func22, Try.ntmps22
  go_wp2_with fail
  refine hn.mono ?_
  rintro e w' ⟨rfl, rfl⟩
  go_wp2_with fail
  go_ret
  exact ⟨rfl, (Below.refl _ _).alloc (Nat.le_refl _) _⟩
theorem no_tab (h : NoMem p F w) : Tab p F [] w := ⟨fun W' ho => (no_cells ⟨fun W2 h2 => h.made W2 (ho.trans h2), h.ptr⟩).mono fun e w' ⟨he, hw⟩ => ⟨_, he, by subst hw; exact World.ownsRow_nil _ _ _ _, by subst hw; exact Below.refl _ _⟩, by simp, h.ptr⟩
end

end Go.Proofs.Ytbcaiegglbdonaa
