/-
  A table and the reference side by side: the plain laws.
-/
import Derived.Test.YtbcaiegglbdonaaMemFork
import Derived.Test.YtbcaiegglbdonaaRefPut
import Derived.Test.YtbcaiegglbdonaaMemLess
namespace Go.Proofs.Ytbcaiegglbdonaa
open Go.RowKit

theorem sizeM_N (M : MM) : sizeM M = ((sizeN (M.map (·.1)) : Nat) : Int) := by unfold sizeM sizeN; rw [List.map_map]; rfl
theorem tallM_cnt (M : MM) (l : Nat) : tallM M l = cntH (hts M) l := by
  unfold tallM cntH hts
  rw [List.filter_map, List.length_map]
  congr 2
  refine congrArg (fun p => List.filter p M) (funext fun x => ?_)
  show decide (l < x.2) = decide ((l : Int) + 1 ≤ (x.2 : Int))
  by_cases h : l < x.2
  · rw [decide_eq_true h, decide_eq_true (by omega)]
  · rw [decide_eq_false h, decide_eq_false (by omega)]
theorem levM_cnt (M : MM) : levM M = levUpto (cntH (hts M)) 12 := by
  unfold levM
  rw [show tallM M = cntH (hts M) from funext (tallM_cnt M)]
theorem newest_append (key : ByteArray) (seq : Int) : ∀ (A B : List Cell), (∀ c ∈ A, ¬ (c.key = key ∧ c.seq ≤ seq)) → newestN key seq (A ++ B) = newestN key seq B := by
  intro A B h
  induction A with
  | nil => rfl
  | cons c A ih =>
    rw [List.cons_append, newestN, if_neg (h c (by simp))]
    exact ih fun d hd => h d (by simp [hd])
theorem newest_none (key : ByteArray) (seq : Int) (A : List Cell) (h : ∀ c ∈ A, ¬ (c.key = key ∧ c.seq ≤ seq)) : newestN key seq A = (Cell.zero, false) := by
  have := newest_append key seq A [] h
  rw [List.append_nil] at this
  rw [this]; rfl
theorem getM_newest {M : MM} (hs : SortedM M) (key : ByteArray) (seq : Int) : getM M key seq = newestN key seq (M.map (·.1)) := by
  have hab := ahead_behind M key seq
  obtain ⟨h1, h2, h3⟩ := sorted_split hs key seq
  have hA : ∀ c ∈ (aheadM M key seq).map (·.1), ¬ (c.key = key ∧ c.seq ≤ seq) := by
    intro c hc
    obtain ⟨x, hx, rfl⟩ := List.mem_map.1 hc
    have := mem_ahead hx
    rintro ⟨e1, e2⟩
    rcases this with h | ⟨_, h⟩
    · rw [e1] at h; exact SLt.irrefl _ h
    · omega
  rw [← hab, List.map_append, newest_append _ _ _ _ hA, hab]
  unfold getM
  cases hB : behindM M key seq with
  | nil => rfl
  | cons x B =>
    have hx := behind_head hB
    rw [hB] at h2
    have hall := (List.pairwise_cons.1 h2).1
    by_cases hk : x.1.key = key
    · have hsq : x.1.seq ≤ seq := by
        by_cases h : x.1.seq ≤ seq
        · exact h
        · exact absurd (.inr ⟨hk, by omega⟩) hx
      simp [newestN, hk, hsq]
    · simp only [if_neg hk, List.map_cons]
      rw [newest_none key seq (x.1 :: B.map (·.1))]
      intro c hc
      rcases List.mem_cons.1 hc with rfl | hc
      · exact fun h => hk h.1
      · obtain ⟨y, hy, rfl⟩ := List.mem_map.1 hc
        rintro ⟨e1, _⟩
        have hxy := hall y hy
        rcases hxy with h | ⟨h, _⟩
        · rw [e1] at h
          exact hx (.inl h)
        · exact hk (h.trans e1)

/-! ### Blocks of other types -/
def Typed (F : Nat → Prop) (w : World) : Prop := ∀ k, F k → ∃ arr t, Blk w k arr t ∧ (t = 60 ∨ t = 105)
theorem MemIs.typed {w : World} {a : Nat} {F : Nat → Prop} {M : MM} (h : MemIs w a F M) : ∃ F', MemIs w a F' M ∧ Typed F' w ∧ ∀ k, F' k → F k := by
  obtain ⟨hb, L, h1, h2, h3⟩ := h.skip
  refine ⟨foot a hb L, ⟨fun k hk => h.lt k (h3 k hk), h.sorted, h.pos, h.ok, hb, L, h1, h2, fun k hk => hk⟩, ?_, h3⟩
  rintro k (rfl | rfl | ⟨n, hn, rfl⟩)
  · exact ⟨_, _, h1.mem, .inl rfl⟩
  · exact ⟨_, _, h1.head, .inr rfl⟩
  · obtain ⟨f, hf⟩ := h1.nodes.mem hn
    exact ⟨_, _, hf, .inr rfl⟩
theorem Typed.not {F : Nat → Prop} {w : World} (h : Typed F w) {k : Nat} {arr : Array Value} {t : TypeId} (hb : Blk w k arr t) (h1 : t ≠ 60) (h2 : t ≠ 105) : ¬ F k := by
  intro hk
  obtain ⟨arr', t', hb', ht⟩ := h k hk
  have := hb.symm.trans hb'
  injection this with this
  injection this with _ e _
  subst e
  rcases ht with rfl | rfl
  · exact h1 rfl
  · exact h2 rfl
theorem Typed.only {F S : Nat → Prop} {w w' : World} (h : Typed F w) (ho : Only S w w') (hS : ∀ k, F k → ¬ S k) : Typed F w' := fun k hk => by
  obtain ⟨arr, t, hb, ht⟩ := h k hk
  exact ⟨arr, t, hb.only ho (hS k hk), ht⟩
theorem Typed.kept {F : Nat → Prop} {w w' : World} (h : Typed F w) (hb : Below w.heap.size w w') : Typed F w' := h.only (Only.of_below (S := fun _ => False) hb) fun _ _ h => h
theorem own_typed {F : Nat → Prop} {w w' : World} (h : Typed F w) (ho : Only F w w') {B e k n : Nat} {v : Value} {xs : List Value} (hr : w.ownsRow B e k v n xs) (h1 : e ≠ 60) (h2 : e ≠ 105) : w'.ownsRow B e k v n xs := by
  refine ⟨hr.1, ?_⟩
  rcases hr.2 with h3 | ⟨g, cap', cur, e1, hb, hg, hr2⟩
  · exact .inl h3
  · exact .inr ⟨g, cap', cur, e1, hb, Blk.only (show Blk w g cur e from hg) ho (h.not hg h1 h2), hr2⟩
theorem RefIs.typed {F : Nat → Prop} {w w' : World} {base r : Nat} {M : MM} (hr : RefIs w base r M) (h : Typed F w) (ho : Only F w w') : RefIs w' base r M := by
  obtain ⟨vc, vh, g1, g2, g3⟩ := hr.ex
  exact ⟨vc, vh, g1.only ho (h.not g1 (by decide) (by decide)), own_typed h ho g2 (by decide) (by decide), own_typed h ho g3 (by decide) (by decide)⟩
theorem RefIs.kept {w w' : World} {base r : Nat} {M : MM} (hr : RefIs w base r M) (hb : Below w.heap.size w w') : RefIs w' base r M := by
  obtain ⟨vc, vh, g1, g2, g3⟩ := hr.ex
  exact ⟨vc, vh, g1.kept hb, own_kept g2 hb, own_kept g3 hb⟩
theorem RefIs.lt {w : World} {base r : Nat} {M : MM} (hr : RefIs w base r M) : r < w.heap.size := by
  obtain ⟨vc, vh, g1, _⟩ := hr.ex
  exact g1.lt
/-- A reference stays when another one is written. -/
theorem RefIs.other {w w' : World} {base r s : Nat} {M : MM} (hr : RefIs w base r M) (ho : Only (fun k => k = s) w w') {arr : Array Value} (hs : Blk w s arr 49) (hn : r ≠ s) : RefIs w' base r M := by
  obtain ⟨vc, vh, g1, g2, g3⟩ := hr.ex
  have row : ∀ {B e k n : Nat} {v : Value} {xs : List Value}, e ≠ 49 → w.ownsRow B e k v n xs → w'.ownsRow B e k v n xs := by
    intro B e k n v xs he hr
    refine ⟨hr.1, ?_⟩
    rcases hr.2 with h3 | ⟨g, cap', cur, e1, hb, hg, hr2⟩
    · exact .inl h3
    · refine .inr ⟨g, cap', cur, e1, hb, Blk.only (show Blk w g cur e from hg) ho ?_, hr2⟩
      rintro rfl
      have := hs.symm.trans hg
      injection this with this
      injection this with _ e2 _
      exact he e2.symm
  exact ⟨vc, vh, g1.only ho hn, row (by decide) g2, row (by decide) g3⟩

/-- A table and the reference, of one list. -/
structure Duo (w : World) (base a r : Nat) (F : Nat → Prop) (M : MM) : Prop where
  mem : MemIs w a F M
  typ : Typed F w
  ref : RefIs w base r M
theorem Duo.kept {w w' : World} {base a r : Nat} {F : Nat → Prop} {M : MM} (h : Duo w base a r F M) (hb : Below w.heap.size w w') : Duo w' base a r F M := ⟨h.mem.kept hb, h.typ.kept hb, h.ref.kept hb⟩
theorem Duo.rout {w : World} {base a r : Nat} {F : Nat → Prop} {M : MM} (h : Duo w base a r F M) : ¬ F r := by
  obtain ⟨vc, vh, g1, _⟩ := h.ref.ex
  exact h.typ.not g1 (by decide) (by decide)
end Go.Proofs.Ytbcaiegglbdonaa
