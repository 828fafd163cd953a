/-
  A block of what is in memory. Plain.
-/
import Derived.Test.YtbcaiegglbdonaaSeek8
import Derived.Test.YtbcaiegglbdonaaMemOwn
namespace Go.Proofs.Ytbcaiegglbdonaa
open Go Go.RowKit

/-- The table behind k cells, put one by one. -/
def agrM (l : List Cell) : Nat → MM
  | 0 => []
  | k + 1 => match l[k]? with
    | some c => (putRes (agrM l k) c (1 + (k % 4 : Nat))).2
    | none => agrM l k
theorem putRes_mem {M : MM} {c : Cell} {h : Int} {x : Cell × Nat} (hx : x ∈ (putRes M c h).2) : x ∈ M ∨ (x.1 = c ∧ checkN c = 0) := by
  unfold putRes at hx
  split at hx
  · exact .inl hx
  · rename_i hc
    split at hx
    · exact .inl hx
    · split at hx
      · exact .inl hx
      · have hab := ahead_behind M c.key c.seq
        rcases List.mem_append.1 hx with h | h
        · exact .inl (by rw [← hab]; exact List.mem_append_left _ h)
        · rcases List.mem_cons.1 h with rfl | h
          · refine .inr ⟨rfl, ?_⟩
            unfold checkN at hc ⊢
            split
            · rfl
            · rename_i h2; rw [if_neg h2] at hc; exact absurd rfl hc
          · exact .inl (by rw [← hab]; exact List.mem_append_right _ h)
theorem putRes_len (M : MM) (c : Cell) (h : Int) : (putRes M c h).2.length ≤ M.length + 1 := by
  unfold putRes
  split
  · simp
  · split
    · simp
    · split
      · simp
      · have := congrArg List.length (ahead_behind M c.key c.seq)
        simp at this ⊢
        omega
theorem agrM_ok (l : List Cell) (hs : ∀ c ∈ l, 0 ≤ c.seq) : ∀ k, SortedM (agrM l k) ∧ (∀ x ∈ agrM l k, checkN x.1 = 0 ∧ 0 ≤ x.1.seq) ∧ (agrM l k).length ≤ k
  | 0 => ⟨List.Pairwise.nil, by simp [agrM], by simp [agrM]⟩
  | k + 1 => by
    obtain ⟨h1, h2, h3⟩ := agrM_ok l hs k
    cases hc : l[k]? with
    | none =>
      have e : agrM l (k + 1) = agrM l k := by simp only [agrM, hc]
      rw [e]
      exact ⟨h1, h2, by omega⟩
    | some c =>
      have e : agrM l (k + 1) = (putRes (agrM l k) c (1 + (k % 4 : Nat))).2 := by simp only [agrM, hc]
      rw [e]
      refine ⟨sorted_put h1 _ _, fun x hx => ?_, by have := putRes_len (agrM l k) c (1 + (k % 4 : Nat)); omega⟩
      rcases putRes_mem hx with h | ⟨h, h4⟩
      · exact h2 x h
      · rw [h]; exact ⟨h4, hs c (List.mem_of_getElem? hc)⟩
theorem adjC_pair : ∀ l : List Cell, (l.Pairwise fun x y => PLt x.key x.seq y.key y.seq) → adjC l = true
  | [], _ => rfl
  | [_], _ => rfl
  | x :: y :: l, h => by
    rw [adjC, Bool.and_eq_true]
    refine ⟨decide_eq_true ((List.pairwise_cons.1 h).1 y (by simp)), adjC_pair (y :: l) (List.pairwise_cons.1 h).2⟩
theorem check_table {M : MM} (hs : SortedM M) (hc : ∀ x ∈ M, checkN x.1 = 0) : checkL (M.map (·.1)) = 0 := by
  have h1 : ¬ ∃ c ∈ M.map (·.1), checkN c = 60 := by
    rintro ⟨c, hm, h⟩
    obtain ⟨x, hx, rfl⟩ := List.mem_map.1 hm
    rw [hc x hx] at h
    exact absurd h (by decide)
  unfold checkL
  rw [if_neg h1, if_pos (adjC_pair _ (List.pairwise_map.2 hs))]
theorem encC_len {n : Nat} {c : Cell} (hc : checkN c = 0) (hn : n ≤ 128) : (encC n c).length ≤ 1167 := by
  have h1 := checkN_ok hc
  have e1 := varN_len 1 n (by have : (128 : Nat) ^ 2 = 16384 := by decide
                              omega)
  have e2 := varN_len 1 (c.key.size - n) (by have : (128 : Nat) ^ 2 = 16384 := by decide
                                             omega)
  have e3 := varN_len 1 c.val.size (by have : (128 : Nat) ^ 2 = 16384 := by decide
                                       omega)
  have e4 := varN_len 7 c.seq.toNat (by have : (128 : Nat) ^ 8 = 72057594037927936 := by decide
                                        omega)
  have k1 : (c.key.data.toList.drop n).length ≤ c.key.size := by rw [List.length_drop]; show c.key.data.toList.length - n ≤ _; show c.key.size - n ≤ _; omega
  have k2 : c.val.data.toList.length = c.val.size := rfl
  unfold encC
  simp only [List.length_append, List.length_singleton, k2]
  omega
theorem body_len {l : List Cell} (hc : ∀ c ∈ l, checkN c = 0) (r : Nat) : ∀ k, (bodyN l r k).length ≤ 1167 * k
  | 0 => by simp [bodyN]
  | k + 1 => by
    have ih := body_len hc r k
    rw [bodyN_succ, List.length_append]
    have : (encAt l r k).length ≤ 1167 := by
      cases hk : l[k]? with
      | none => simp [encAt, hk]
      | some c =>
        have h0 := hc c (List.mem_of_getElem? hk)
        have e : encAt l r k = encC (shAt l r k) c := by simp [encAt, hk]
        rw [e]
        refine encC_len h0 ?_
        unfold shAt
        split
        · omega
        · have h2 := sharedN_le_right (keyAt l (k - 1)) (keyAt l k)
          have h3 : keyAt l k = c.key.data.toList := by simp [keyAt, hk]
          have h4 : c.key.data.toList.length = c.key.size := rfl
          have h5 := (checkN_ok h0).2.1
          rw [h3] at h2
          rw [h3]
          omega
    omega
theorem block_fits {l : List Cell} (hc : ∀ c ∈ l, checkN c = 0) (hl : l.length ≤ 40) (r : Nat) : (blockN l r).length ≤ 65536 := by
  have h1 := body_len hc r l.length
  have h2 : (startsN l r l.length).length ≤ l.length := by
    unfold startsN
    rw [List.length_map]
    have := List.length_filter_le (fun i => decide (i % r = 0)) (List.range l.length)
    simpa using this
  have h3 := be4_flat (startsN l r l.length)
  unfold blockN tailN
  simp only [List.length_append, h3]
  show _ + (_ + (4 + 2)) + 4 ≤ _
  omega
theorem build_table {M : MM} (hs : SortedM M) (hc : ∀ x ∈ M, checkN x.1 = 0) (hl : M.length ≤ 40) : (buildN (M.map (·.1)) 3).2 = 0 := by
  have h1 := check_table hs hc
  have h2 := block_fits (l := M.map (·.1)) (by intro c h; obtain ⟨x, hx, rfl⟩ := List.mem_map.1 h; exact hc x hx) (by rw [List.length_map]; exact hl) 3
  unfold buildN
  rw [if_neg (by decide), if_neg (by rw [h1]; simp), show (3 : Int).toNat = 3 from rfl, if_pos h2]
theorem pos_ahead : ∀ (M : MM) (k : ByteArray) (q : Int), posN (M.map (·.1)) k q = (aheadM M k q).length
  | [], _, _ => rfl
  | x :: M, k, q => by
    have ih := pos_ahead M k q
    unfold posN aheadM at ih ⊢
    rw [List.map_cons, List.takeWhile_cons, List.takeWhile_cons]
    unfold ahd at ih ⊢
    by_cases h : PLt x.1.key x.1.seq k q
    · rw [if_pos (by simpa using h), if_pos (by simpa using h), List.length_cons, List.length_cons, ih]
    · rw [if_neg (by simpa using h), if_neg (by simpa using h)]; rfl
theorem get_table (M : MM) (k : ByteArray) (q : Int) : getS k (seekC (M.map (·.1)) k q) = getM M k q := by
  have hp := pos_ahead M k q
  have hab := ahead_behind M k q
  unfold getM seekC
  rw [hp]
  cases hb : behindM M k q with
  | nil =>
    rw [hb, List.append_nil] at hab
    rw [List.getElem?_eq_none (by rw [List.length_map, hab]; exact Nat.le_refl _)]
    rfl
  | cons x B =>
    have h1 : (M.map (·.1))[(aheadM M k q).length]? = some x.1 := by
      rw [List.getElem?_map]
      have h2 : ∀ n, n = (aheadM M k q).length → M[n]? = some x := fun n hn => by
        rw [← hab, hb, List.getElem?_append_right (by omega), hn]
        simp
      rw [h2 _ rfl]
      rfl
    rw [h1]
    unfold getS
    simp only [true_and]
end Go.Proofs.Ytbcaiegglbdonaa
