/-
  A slice of steps (the laws' Op), opened.
-/
import Derived.Test.YtbcaiegglbdonaaMemNobodyRow
namespace Go.Proofs.Ytbcaiegglbdonaa
open Go.ChangeShapes Go.WideShapes Go.ChangeAt Go.RowKit Go.Deep Go.Joins

structure Step where
  kind : Int
  c : Cell
  to : ByteArray
  n : Int
instance : Inhabited Step := ⟨⟨0, Cell.zero, ByteArray.empty, 0⟩⟩
def stepCells (o : Step) : List Value := [.int .i64 o.kind, .string o.c.key, .int .u64 o.c.seq, .string o.c.val, .bool o.c.gone, .string o.to, .int .i64 o.n]
def opVals (l : List Step) : List Value := l.flatMap stepCells
theorem flatMap_get {α β : Type} {f : α → List β} {k : Nat} (hk : 0 < k) (hf : ∀ x, (f x).length = k) : ∀ (l : List α) (j : Nat) (u : β), (l.flatMap f)[j]? = some u → ∃ x, l[j / k]? = some x ∧ (f x)[j % k]? = some u := by
  intro l
  induction l with
  | nil => intro j u h; simp at h
  | cons x l ih =>
    intro j u h
    rw [List.flatMap_cons] at h
    by_cases hj : j < k
    · rw [List.getElem?_append_left (by rw [hf]; exact hj)] at h
      exact ⟨x, by rw [Nat.div_eq_of_lt hj]; rfl, by rw [Nat.mod_eq_of_lt hj]; exact h⟩
    · rw [List.getElem?_append_right (by rw [hf]; omega), hf] at h
      obtain ⟨y, h1, h2⟩ := ih _ _ h
      have hd : j / k = (j - k) / k + 1 := by rw [Nat.div_eq_sub_div hk (by omega)]
      exact ⟨y, by rw [hd]; exact h1, by rw [Nat.mod_eq_sub_mod (by omega)]; exact h2⟩
theorem flatMap_len {α β : Type} {f : α → List β} {k : Nat} (hf : ∀ x, (f x).length = k) (l : List α) : (l.flatMap f).length = l.length * k := by
  induction l with
  | nil => simp
  | cons x l ih => rw [List.flatMap_cons, List.length_append, hf, ih, List.length_cons, Nat.succ_mul]; omega
theorem reads_of {α : Type} {W : World} {f : α → List Value} {k : Nat} (hk : 0 < k) (hf : ∀ x, (f x).length = k) {a : Addr} {len cap : Nat} {C : Nat → α} (hl : len ≤ 9223372036854775807)
    (hC : ∀ i, i < len → ∀ j u, (f (C i))[j]? = some u → W.cell? (a.add (i * k + j)) = some u) : Reads W (.slice (some a) len cap) len k (((List.range len).map C).flatMap f) := by
  refine ⟨by rw [flatMap_len hf]; simp, hl, some a, cap, rfl, ?_⟩
  rcases Nat.eq_zero_or_pos len with h0 | h0
  · exact .inl h0
  · right
    obtain ⟨u0, hu0⟩ : ∃ u, (f (C 0))[0]? = some u := ⟨_, List.getElem?_eq_getElem (by rw [hf]; exact hk)⟩
    have hc0 : W.cell? a = some u0 := by simpa [Addr.add] using hC 0 h0 0 u0 hu0
    have hsp : a.spot = none := spot_none hc0
    have ha : a = ⟨a.block, a.off, none⟩ := by cases a; simp only at hsp; subst hsp; rfl
    refine ⟨a.block, a.off, by rw [← ha], World.block_lt_of_cell? W _ hc0, fun j u hj => ?_⟩
    obtain ⟨x, h1, h2⟩ := flatMap_get hk hf _ _ _ hj
    rw [List.getElem?_map] at h1
    obtain ⟨i, hi, rfl⟩ := Option.map_eq_some_iff.1 h1
    obtain ⟨hlt, hi2⟩ := List.getElem?_eq_some_iff.1 hi
    rw [List.getElem_range] at hi2
    rw [List.length_range] at hlt
    subst hi2
    have := hC _ hlt _ _ h2
    rw [add_at hsp, Nat.mul_comm, Nat.div_add_mod] at this
    exact this
section
variable {H : Type} {enc : TypeId × Value → H} {W : World}
set_option maxRecDepth 100000 in
theorem open_ops {v : Value} {d : DataW H} {p : List MemPlace} {r : Reach} {b0 : Nat} (hv : Value.okWide Try.prog W r b0 46 v) (h : DataW.Trod enc Try.prog W 0 (fun _ => true) true 46 v d p) :
    ∃ l : List Step, Reads W v l.length 7 (opVals l) ∧ (∀ o ∈ l, CellWf o.c) ∧ ((d = .nil ∧ l = []) ∨ ∃ xs spare, d = .slice xs spare ∧ xs.length = l.length) := by
  obtain ⟨a0, len, cap, rfl⟩ := okWide_slice Try.underlying46 hv
  obtain ⟨fuel, hf⟩ := h
  rcases open_slice Try.underlying46 hf with ⟨hcs, hx⟩ | ⟨a, len', cap', m, n, D, Pl, hcs, _, hl, hm, hmm, hx, hcell⟩
  · simp [Value.cells] at hcs
    obtain ⟨rfl, rfl, rfl⟩ := hcs
    simp only [Prod.mk.injEq] at hx
    exact ⟨[], ⟨rfl, by simp, none, 0, rfl, .inl rfl⟩, by simp, .inl ⟨hx.1, rfl⟩⟩
  · simp [Value.cells] at hcs
    obtain ⟨rfl, rfl, rfl⟩ := hcs
    simp only [if_true] at hmm
    subst hmm
    rw [Try.cells51] at hcell
    obtain ⟨C, hC⟩ := choose_lt (α := Step) (p := fun i o => CellWf o.c ∧ ∀ j u, (stepCells o)[j]? = some u → W.cell? (a.add (i * 7 + j)) = some u) (fun i (hi : i < m) => by
      obtain ⟨cs', hc, ht⟩ := hcell i hi
      obtain ⟨_, hcl, hat⟩ := World.cells?_some hc
      obtain ⟨c0, c1, c2, c3, c4, c5, c6, he⟩ := seven (xs := cs'.toArray) (by simpa using hcl)
      have he : cs' = [c0, c1, c2, c3, c4, c5, c6] := by simpa using congrArg Array.toList he
      subst he
      obtain ⟨kind, c, to, k, rfl, rfl, rfl, rfl, rfl, rfl, rfl, hw, _⟩ := trod_op ht
      refine ⟨⟨kind, c, to, k⟩, hw, fun j u hj => ?_⟩
      have hj7 : j < 7 := by have := (List.getElem?_eq_some_iff.1 hj).1; simpa [stepCells] using this
      rw [← Go.Deep.add_add, hat j hj7]
      exact hj)
    have hlen : ((List.range len).map C).length = len := by simp
    simp only [Prod.mk.injEq] at hx
    refine ⟨(List.range len).map C, ?_, fun o ho => ?_, .inr ⟨_, _, hx.1, by simp⟩⟩
    · rw [hlen]
      exact reads_of (k := 7) (f := stepCells) (by decide) (fun _ => rfl) (by simp only [maxLen] at hm; omega) fun i hi j u hj => (hC i (by omega)).2 j u hj
    · obtain ⟨i, hi, rfl⟩ := List.mem_map.1 ho
      have := List.mem_range.1 hi
      exact (hC i (by omega)).1
end

theorem flatMap_at {α β : Type} {f : α → List β} {k : Nat} (hf : ∀ x, (f x).length = k) : ∀ (l : List α) (i : Nat) (x : α), l[i]? = some x → ∀ j, j < k → (l.flatMap f)[i * k + j]? = (f x)[j]? := by
  intro l
  induction l with
  | nil => intro i x h; simp at h
  | cons y l ih =>
    intro i x h j hj
    rw [List.flatMap_cons]
    cases i with
    | zero =>
      simp at h; subst h
      rw [Nat.zero_mul, Nat.zero_add, List.getElem?_append_left (by rw [hf]; exact hj)]
    | succ i =>
      rw [List.getElem?_append_right (by rw [hf, Nat.succ_mul]; omega), hf, show (i + 1) * k + j - k = i * k + j by rw [Nat.succ_mul]; omega]
      exact ih i x (by simpa using h) j hj
theorem Reads.op_at {w : World} {A : Option Addr} {cap : Nat} {l : List Step} (h : Reads w (.slice A l.length cap) l.length 7 (opVals l)) {k : Nat} {o : Step} (hk : l[k]? = some o) :
    ∃ b p, A = some ⟨b, p, none⟩ ∧ b < w.heap.size ∧ w.cell? ⟨b, p + k * 7, none⟩ = some (.int .i64 o.kind) ∧ w.cell? ⟨b, p + k * 7 + 1, none⟩ = some (.string o.c.key) ∧ w.cell? ⟨b, p + k * 7 + 2, none⟩ = some (.int .u64 o.c.seq) ∧
      w.cell? ⟨b, p + k * 7 + 3, none⟩ = some (.string o.c.val) ∧ w.cell? ⟨b, p + k * 7 + 4, none⟩ = some (.bool o.c.gone) ∧ w.cell? ⟨b, p + k * 7 + 5, none⟩ = some (.string o.to) ∧ w.cell? ⟨b, p + k * 7 + 6, none⟩ = some (.int .i64 o.n) := by
  obtain ⟨_, _, A', cap', hA, h2⟩ := h
  cases hA
  have hlt := (List.getElem?_eq_some_iff.1 hk).1
  rcases h2 with h2 | ⟨b, p, rfl, hb, hc⟩
  · omega
  · have hf := flatMap_at (f := stepCells) (k := 7) (fun _ => rfl) l k o hk
    have g : ∀ j u, j < 7 → (stepCells o)[j]? = some u → w.cell? ⟨b, p + k * 7 + j, none⟩ = some u := fun j u hj hu => by
      rw [Nat.add_assoc]; exact hc _ _ ((hf j hj).trans hu)
    exact ⟨b, p, rfl, hb, g 0 _ (by decide) rfl, g 1 _ (by decide) rfl, g 2 _ (by decide) rfl, g 3 _ (by decide) rfl, g 4 _ (by decide) rfl, g 5 _ (by decide) rfl, g 6 _ (by decide) rfl⟩
theorem ops_len {H : Type} {ts : List TypeId} {ds : List (DataW H)} {l : List Step} {d : DataW H} (hsz : (DataW.weightsEach Try.prog ts ds).all (· ≤ reachBytes) = true) {j : Nat} (ht : ts[j]? = some 46) (hd : ds[j]? = some d)
    (hc : (d = .nil ∧ l = []) ∨ ∃ xs spare, d = .slice xs spare ∧ xs.length = l.length) : l.length ≤ 1759218604441 := by
  rcases hc with ⟨rfl, rfl⟩ | ⟨xs, sp, rfl, hx⟩
  · simp
  · have := sized_slice hsz ht hd Try.underlying46
    rw [show Try.prog.bytesOf 51 = 80 by kernel_rfl, hx] at this
    unfold reachBytes at this
    omega

end Go.Proofs.Ytbcaiegglbdonaa
