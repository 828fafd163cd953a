/-
  Two tables of a law's own; a table's cells without their heights; the levels.
-/
import Derived.Test.YtbcaiegglbdonaaMemSnap
import Derived.Test.YtbcaiegglbdonaaMemSame
namespace Go.Proofs.Ytbcaiegglbdonaa
open Go.RowKit

/-! ### Cells without heights -/
def ahdC (key : ByteArray) (seq : Int) (c : Cell) : Bool := decide (PLt c.key c.seq key seq)
def hitC (B : List Cell) (c : Cell) : Bool := match B with
  | [] => false
  | x :: _ => decide (x.key = c.key ∧ x.seq = c.seq)
def putC (L : List Cell) (c : Cell) : Int × List Cell :=
  if checkN c = 60 then (60, L)
  else if hitC (L.dropWhile (ahdC c.key c.seq)) c = true then (61, L)
  else (0, L.takeWhile (ahdC c.key c.seq) ++ c :: L.dropWhile (ahdC c.key c.seq))
def getC (L : List Cell) (key : ByteArray) (seq : Int) : Cell × Bool := match L.dropWhile (ahdC key seq) with
  | [] => (Cell.zero, false)
  | x :: _ => if x.key = key then (x, true) else (Cell.zero, false)
def sizeC (L : List Cell) : Int := ((L.map fun x => x.key.size + x.val.size + 16).sum : Nat)
theorem takeWhile_fst (M : MM) (key : ByteArray) (seq : Int) : (M.takeWhile (ahd key seq)).map (·.1) = (M.map (·.1)).takeWhile (ahdC key seq) := by
  rw [List.takeWhile_map]; rfl
theorem dropWhile_fst (M : MM) (key : ByteArray) (seq : Int) : (M.dropWhile (ahd key seq)).map (·.1) = (M.map (·.1)).dropWhile (ahdC key seq) := by
  rw [List.dropWhile_map]; rfl
theorem hit_fst (B : MM) (c : Cell) : hitM B c = hitC (B.map (·.1)) c := by cases B <;> rfl
theorem put_fst (M : MM) (c : Cell) {h : Int} (h1 : 1 ≤ h) (h12 : h ≤ 12) : (putRes M c h).1 = (putC (M.map (·.1)) c).1 ∧ (putRes M c h).2.map (·.1) = (putC (M.map (·.1)) c).2 := by
  unfold putRes putC
  by_cases hc : checkN c = 60
  · rw [if_pos hc, if_pos hc]; exact ⟨rfl, rfl⟩
  · rw [if_neg hc, if_neg hc, if_neg (by omega), hit_fst, behindM, dropWhile_fst]
    split
    · exact ⟨rfl, rfl⟩
    · refine ⟨rfl, ?_⟩
      simp only [List.map_append, List.map_cons, aheadM, takeWhile_fst, dropWhile_fst]
theorem get_fst (M : MM) (key : ByteArray) (seq : Int) : getM M key seq = getC (M.map (·.1)) key seq := by
  unfold getM getC behindM
  rw [← dropWhile_fst]
  cases M.dropWhile (ahd key seq) <;> rfl
theorem size_fst (M : MM) : sizeM M = sizeC (M.map (·.1)) := by unfold sizeM sizeC; rw [List.map_map]; rfl

/-! ### Levels -/
theorem tallM_anti (M : MM) {i j : Nat} (h : i ≤ j) : tallM M j ≤ tallM M i := by
  unfold tallM
  have : (M.filter (fun x => decide (j < x.2))).length ≤ (M.filter (fun x => decide (i < x.2))).length := by
    induction M with
    | nil => simp
    | cons x M ih =>
      simp only [List.filter_cons]
      by_cases hj : j < x.2
      · rw [if_pos (by simpa using hj), if_pos (by simp; omega)]; simp only [List.length_cons]; omega
      · rw [if_neg (by simpa using hj)]
        split
        · simp only [List.length_cons]; omega
        · exact ih
  omega
theorem levM_pos (M : MM) : ∀ x ∈ levM M, 0 < x := by
  intro x hx
  unfold levM levUpto at hx
  simpa using (List.mem_filter.1 hx).2
theorem levM_down (M : MM) : (levM M).Pairwise (fun a b => b ≤ a) := by
  unfold levM levUpto
  refine List.Pairwise.filter _ (List.Pairwise.map _ (R := fun a b => a ≤ b) (fun a b hab => tallM_anti M hab) ?_)
  exact List.pairwise_le_range
theorem tallM_zero {M : MM} (h : ∀ x ∈ M, 1 ≤ x.2) : tallM M 0 = M.length := by
  unfold tallM
  rw [List.filter_eq_self.2 fun x hx => by have := h x hx; simp; omega]
theorem levM_head {M : MM} (h : ∀ x ∈ M, 1 ≤ x.2) : (M = [] ∧ levM M = []) ∨ (M ≠ [] ∧ ∃ l, levM M = (M.length : Int) :: l) := by
  by_cases hM : M = []
  · left
    subst hM
    exact ⟨rfl, by kernel_rfl⟩
  · right
    refine ⟨hM, ?_⟩
    have h0 := tallM_zero h
    have hp : 0 < tallM M 0 := by
      rw [h0]
      have := List.length_pos_iff.2 hM
      omega
    unfold levM levUpto
    rw [show (12 : Nat) = 11 + 1 from rfl, List.range_succ_eq_map]
    rw [List.map_cons, List.filter_cons, if_pos (by simpa using hp), h0]
    exact ⟨_, rfl⟩

/-! ### Two tables -/
structure Own2 (w0 : World) (a : Nat) (M : MM) (b : Nat) (N : MM) (G : Nat → Prop) (w : World) : Prop where
  mem : ∃ F K, MemIs w a F M ∧ MemIs w b K N ∧ (∀ k, F k → w0.heap.size ≤ k) ∧ (∀ k, K k → w0.heap.size ≤ k) ∧ (∀ k, F k → ¬ K k) ∧ ∀ k, G k → ¬ F k ∧ ¬ K k ∧ k < w.heap.size
  below : Below w0.heap.size w0 w
theorem Own2.swap {w0 w : World} {a b : Nat} {M N : MM} {G : Nat → Prop} (h : Own2 w0 a M b N G w) : Own2 w0 b N a M G w := by
  obtain ⟨F, K, h1, h2, h3, h4, h5, h6⟩ := h.mem
  exact ⟨⟨K, F, h2, h1, h4, h3, fun k hk hf => h5 k hf hk, fun k hk => ⟨(h6 k hk).2.1, (h6 k hk).1, (h6 k hk).2.2⟩⟩, h.below⟩
theorem Own2.only {w0 w w' : World} {a b : Nat} {M N : MM} {G : Nat → Prop} (h : Own2 w0 a M b N G w) (hb : Below w.heap.size w w') : Own2 w0 a M b N G w' := by
  obtain ⟨F, K, h1, h2, h3, h4, h5, h6⟩ := h.mem
  exact ⟨⟨F, K, h1.kept hb, h2.kept hb, h3, h4, h5, fun k hk => ⟨(h6 k hk).1, (h6 k hk).2.1, Nat.lt_of_lt_of_le (h6 k hk).2.2 hb.size⟩⟩, h.below.trans (hb.mono h.below.size)⟩
theorem Own2.alloc {w0 w : World} {a b : Nat} {M N : MM} {G : Nat → Prop} (h : Own2 w0 a M b N G w) (o : Obj) : Own2 w0 a M b N G (w.alloc o) := h.only ((Below.refl _ _).alloc (Nat.le_refl _) o)
theorem Own2.drew {w0 w : World} {a b : Nat} {M N : MM} {G : Nat → Prop} (h : Own2 w0 a M b N G w) : Own2 w0 a M b N G w.drew := h.only (Below.refl _ _).drew
theorem Own2.more {w0 w : World} {a b : Nat} {M N : MM} {G : Nat → Prop} (h : Own2 w0 a M b N G w) (o : Obj) {x : Nat} (hx : x = w.heap.size) : Own2 w0 a M b N (fun k => G k ∨ k = x) (w.alloc o) := by
  subst hx
  obtain ⟨F, K, h1, h2, h3, h4, h5, h6⟩ := h.mem
  have hb : Below w.heap.size w (w.alloc o) := (Below.refl _ _).alloc (Nat.le_refl _) o
  refine ⟨⟨F, K, h1.kept hb, h2.kept hb, h3, h4, h5, ?_⟩, (h.alloc o).below⟩
  rintro k (hk | rfl)
  · exact ⟨(h6 k hk).1, (h6 k hk).2.1, by have := (h6 k hk).2.2; simp; omega⟩
  · exact ⟨fun hF => by have := h1.lt _ hF; omega, fun hK => by have := h2.lt _ hK; omega, by simp⟩
theorem Own2.less {w0 w : World} {a b : Nat} {M N : MM} {G G' : Nat → Prop} (h : Own2 w0 a M b N G w) (hg : ∀ k, G' k → G k) : Own2 w0 a M b N G' w := by
  obtain ⟨F, K, h1, h2, h3, h4, h5, h6⟩ := h.mem
  exact ⟨⟨F, K, h1, h2, h3, h4, h5, fun k hk => h6 k (hg k hk)⟩, h.below⟩
theorem Own2.put {w0 w : World} {a b : Nat} {M N : MM} {G : Nat → Prop} (h : Own2 w0 a M b N G w) (c : Cell) (hgt : Int) (hl : M.length ≤ 1099511627776000) :
    Calls Try.prog 22 #[.pointer (some ⟨a, 0, none⟩), .agg #[.string c.key, .int .u64 c.seq, .string c.val, .bool c.gone], .int .i64 hgt] w fun e w' => e = .returned (.int .i64 (putRes M c hgt).1) ∧ Own2 w0 a (putRes M c hgt).2 b N G w' ∧ ∀ b arr t, G b → Blk w b arr t → Blk w' b arr t := by
  obtain ⟨F, K, h1, h2, h3, h4, h5, h6⟩ := h.mem
  refine (put_model h1 c hgt hl).mono ?_
  rintro e w' ⟨F', he, hm, hF', ho⟩
  refine ⟨he, ⟨⟨F', K, hm, h2.only ho fun k hk hf => h5 k hf hk, fun k hk => (hF' k hk).elim (h3 k) (fun hk => Nat.le_trans h.below.size hk), h4, fun k hk hK => ?_, fun k hk => ⟨fun hFk => ?_, (h6 k hk).2.1, Nat.lt_of_lt_of_le (h6 k hk).2.2 ho.size⟩⟩, h.below.trans (ho.below h.below.size h3)⟩, fun b arr t hb hB => hB.only ho (h6 b hb).1⟩
  · rcases hF' k hk with h | h
    · exact h5 k h hK
    · have := h2.lt k hK; omega
  · rcases hF' k hFk with h | h
    · exact (h6 k hk).1 h
    · have := (h6 k hk).2.2; omega
theorem Own2.fst {w0 w : World} {a b : Nat} {M N : MM} {G : Nat → Prop} (h : Own2 w0 a M b N G w) : ∃ F, MemIs w a F M := by
  obtain ⟨F, K, h1, _⟩ := h.mem; exact ⟨F, h1⟩
theorem Own2.get {w0 w : World} {a b : Nat} {M N : MM} {G : Nat → Prop} (h : Own2 w0 a M b N G w) (key : ByteArray) (seq : Int) :
    Calls Try.prog 23 #[.pointer (some ⟨a, 0, none⟩), .string key, .int .u64 seq] w fun e w' => e = .returned (.tuple #[.agg #[.string (getM M key seq).1.key, .int .u64 (getM M key seq).1.seq, .string (getM M key seq).1.val, .bool (getM M key seq).1.gone], .bool (getM M key seq).2]) ∧ Own2 w0 a M b N G w' ∧ Below w.heap.size w w' := by
  obtain ⟨F, h1⟩ := h.fst
  refine (get_model h1 key seq).mono ?_
  rintro e w' ⟨he, hb⟩
  exact ⟨he, h.only hb, hb⟩
theorem Own2.cells {w0 w : World} {a b : Nat} {M N : MM} {G : Nat → Prop} (h : Own2 w0 a M b N G w) (hl : M.length * 48 ≤ 140737488355328) :
    Calls Try.prog 24 #[.pointer (some ⟨a, 0, none⟩)] w (CellsPost w (M.map (·.1))) := by
  obtain ⟨F, h1⟩ := h.fst
  exact cells_model h1 hl
theorem Own2.size {w0 w : World} {a b : Nat} {M N : MM} {G : Nat → Prop} (h : Own2 w0 a M b N G w) : Calls Try.prog 29 #[.pointer (some ⟨a, 0, none⟩)] w fun e w' => e = .returned (.int .i64 (sizeM M)) ∧ w = w' := by
  obtain ⟨F, h1⟩ := h.fst
  exact size_model h1
theorem Own2.len {w0 w : World} {a b : Nat} {M N : MM} {G : Nat → Prop} (h : Own2 w0 a M b N G w) : Calls Try.prog 30 #[.pointer (some ⟨a, 0, none⟩)] w fun e w' => e = .returned (.int .i64 M.length) ∧ w = w' := by
  obtain ⟨F, h1⟩ := h.fst
  exact len_model h1
theorem Own2.levels {w0 w : World} {a b : Nat} {M N : MM} {G : Nat → Prop} (h : Own2 w0 a M b N G w) : Calls Try.prog 28 #[.pointer (some ⟨a, 0, none⟩)] w (LevPost w (levM M)) := by
  obtain ⟨F, h1⟩ := h.fst
  exact levels_model h1
/-- A second table beside the first. -/
theorem Own.second {w0 w : World} {a : Nat} {M : MM} {G : Nat → Prop} {e : Ending} {w' : World} (h : Own w0 a M G w) (hn : NewPost w e w') : e = .returned (.pointer (some ⟨w.heap.size + 1, 0, none⟩)) ∧ Own2 w0 a M (w.heap.size + 1) [] G w' := by
  obtain ⟨F, g1, g2, g3⟩ := h.mem
  obtain ⟨h1, h2, h3, h4⟩ := hn.mem
  have hsz := h.below.size
  refine ⟨h1, ⟨⟨F, _, g1.kept h3, h2, g2, ?_, ?_, fun k hk => ⟨(g3 k hk).1, ?_, ?_⟩⟩, h.below.trans (h3.mono hsz)⟩⟩
  · rintro k (rfl | rfl) <;> omega
  · rintro k hF (rfl | rfl) <;> (have := g1.lt _ hF; omega)
  · rintro (rfl | rfl) <;> (have := (g3 _ hk).2; omega)
  · have := (g3 _ hk).2; omega

end Go.Proofs.Ytbcaiegglbdonaa
