/-
  Sizes of what read takes. Plain.
-/
import Derived.Test.YtbcaiegglbdonaaReadN
namespace Go.Proofs.Ytbcaiegglbdonaa
open Go

theorem ex_size_le (s : ByteArray) (i j : Nat) : (s.extract i j).size ≤ s.size := by
  rw [ByteArray.size_extract]; omega
theorem varR_err {s : ByteArray} {e : Int} (h : e ≠ 0) : varR s e = (0, s, e) := by unfold varR; rw [if_pos h]
theorem varR_size (s : ByteArray) (e : Int) : (varR s e).2.1.size ≤ s.size := by
  unfold varR
  split
  · exact Nat.le_refl _
  · split
    · exact Nat.le_refl _
    · exact ex_size_le _ _ _
theorem rawR_err {s : ByteArray} {e n : Int} (h : e ≠ 0) : rawR s e n = (⟨#[]⟩, s, e) := by unfold rawR; rw [if_pos h]
theorem rawR_size (s : ByteArray) (e n : Int) : (rawR s e n).2.1.size ≤ s.size := by
  unfold rawR
  split
  · exact Nat.le_refl _
  · split
    · exact Nat.le_refl _
    · split
      · exact Nat.le_refl _
      · exact ex_size_le _ _ _
theorem rawR_ok {s : ByteArray} {e n : Int} (h : (rawR s e n).2.2 = 0) : e = 0 ∧ 0 ≤ n ∧ n ≤ s.size ∧ (rawR s e n).1.size = n.toNat ∧ (rawR s e n).2.1.size = s.size - n.toNat := by
  unfold rawR at h ⊢
  split at h
  · exact absurd h (by assumption)
  · split at h
    · exact absurd h (by simp)
    · split at h
      · exact absurd h (by simp)
      · rename_i h1 h2 h3
        rw [if_neg h1, if_neg h2, if_neg h3]
        refine ⟨by simpa using h1, by omega, by omega, ?_, ?_⟩
        · simp only [ByteArray.size_extract]; omega
        · simp only [ByteArray.size_extract]; omega
theorem readOne_size {s ah t : ByteArray} {c : Cell} (h : readOne s ah = some (c, t)) : t.size < s.size ∧ c.key.size + t.size ≤ ah.size + s.size ∧ 0 ≤ c.seq ∧ c.val.size ≤ s.size := by
  unfold readOne at h
  simp only [] at h
  have z1 := varR_size s 0
  generalize varR s 0 = a at h z1
  have z2 := varR_size a.2.1 a.2.2
  generalize varR a.2.1 a.2.2 = b at h z2
  have z3 := varR_size b.2.1 b.2.2
  generalize varR b.2.1 b.2.2 = d at h z3
  have z4 := @rawR_ok d.2.1 d.2.2 1
  generalize rawR d.2.1 d.2.2 1 = g at h z4
  have z5 := varR_size g.2.1 g.2.2
  have z6 := @varR_err g.2.1 g.2.2
  generalize varR g.2.1 g.2.2 = q at h z5 z6
  split at h
  · exact absurd h (by simp)
  · rename_i h1
    have z7 := @rawR_ok q.2.1 0 b.1
    have z7' : (rawR q.2.1 0 b.1).2.2 = 0 := by
      unfold rawR
      rw [if_neg (by simp), if_neg (by omega), if_neg (by omega)]
    have z8 := @rawR_ok (rawR q.2.1 0 b.1).2.1 (rawR q.2.1 0 b.1).2.2 d.1
    generalize rawR q.2.1 0 b.1 = k at h z7 z7' z8
    generalize rawR k.2.1 k.2.2 d.1 = v at h z8
    split at h
    · exact absurd h (by simp)
    · rename_i h2
      injection h with h
      injection h with h3 h4
      subst h3
      subst h4
      have hg : g.2.2 = 0 := by
        by_cases hg : g.2.2 = 0
        · exact hg
        · exfalso
          have := z6 hg
          rw [this] at h1
          exact h1 (.inl hg)
      have y4 := z4 hg
      have y7 := z7 z7'
      have y8 := z8 (by simpa using h2)
      have hsz : (⟨(ah.extract 0 a.1).data ++ k.1.data⟩ : ByteArray).size = (ah.extract 0 a.1).size + k.1.size := by
        show ((ah.extract 0 a.1).data ++ k.1.data).size = _
        rw [Array.size_append]; rfl
      refine ⟨by omega, ?_, by exact Int.natCast_nonneg _, by show v.1.size ≤ _; omega⟩
      show (⟨(ah.extract 0 a.1).data ++ k.1.data⟩ : ByteArray).size + v.2.1.size ≤ _
      rw [hsz]
      have := ex_size_le ah 0 a.1
      omega
theorem readAll_seq : ∀ (n : Nat) (s ah : ByteArray) (l : List Cell), readAll n s ah = some l → l.length ≤ s.size ∧ ∀ c ∈ l, 0 ≤ c.seq
  | 0, s, ah, l, h => by
    unfold readAll at h
    split at h
    · injection h with h; subst h; simp
    · exact absurd h (by simp)
  | n + 1, s, ah, l, h => by
    unfold readAll at h
    split at h
    · injection h with h; subst h; simp
    · split at h
      · exact absurd h (by simp)
      · rename_i c t h1
        obtain ⟨l', h2, rfl⟩ := Option.map_eq_some_iff.1 h
        have h3 := readOne_size h1
        have h4 := readAll_seq n t c.key l' h2
        refine ⟨by simp; omega, ?_⟩
        intro x hx
        rcases List.mem_cons.1 hx with rfl | hx
        · exact h3.2.2.1
        · exact h4.2 x hx
theorem readN_seq {s : ByteArray} {l : List Cell} (h : readN s = some l) : l.length ≤ s.size ∧ ∀ c ∈ l, 0 ≤ c.seq := readAll_seq _ _ _ _ h
/-- More rounds than bytes change nothing. -/
theorem readAll_step {n : Nat} {s ah : ByteArray} (hs : s.size ≠ 0) (hn : s.size ≤ n) : readAll n s ah = match readOne s ah with | none => none | some (c, t) => (readAll (n - 1) t c.key).map (c :: ·) := by
  obtain ⟨m, rfl⟩ : ∃ m, n = m + 1 := ⟨n - 1, by omega⟩
  rw [readAll, if_neg hs]
  rfl
end Go.Proofs.Ytbcaiegglbdonaa
