/-
  Cells of a block sought: each by its own place, and the next one from each on. Plain.
-/
import Derived.Test.YtbcaiegglbdonaaBlk8
namespace Go.Proofs.Ytbcaiegglbdonaa
open Go Go.RowKit

theorem checkL_both {l : List Cell} (h : checkL l = 0) : adjC l = true ∧ ∀ c ∈ l, checkN c = 0 := by
  unfold checkL at h
  split at h
  · exact absurd h (by decide)
  · rename_i h1
    split at h
    · rename_i h2
      refine ⟨h2, fun c hc => ?_⟩
      by_cases h3 : checkN c = 60
      · exact absurd ⟨c, hc, h3⟩ h1
      · unfold checkN at h3 ⊢
        split
        · rfl
        · rename_i h4; rw [if_neg h4] at h3; exact absurd rfl h3
    · exact absurd h (by decide)
theorem checkN_ok {c : Cell} (h : checkN c = 0) : 1 ≤ c.key.size ∧ c.key.size ≤ 128 ∧ c.val.size ≤ 1024 ∧ c.seq ≤ 72057594037927935 := by
  unfold checkN at h
  split at h
  · rename_i h1; exact ⟨h1.1, h1.2.1, h1.2.2.1, h1.2.2.2.2⟩
  · exact absurd h (by decide)
theorem fit_of {l : List Cell} (h : checkL l = 0) (hs : ∀ c ∈ l, 0 ≤ c.seq) : ∀ c ∈ l, fitC c := fun c hc => by
  have h1 := checkN_ok ((checkL_both h).2 c hc)
  exact ⟨by omega, by omega, hs c hc, by omega⟩
theorem fit_of2 {l : List Cell} (h : checkL l = 0) (hs : ∀ c ∈ l, 0 ≤ c.seq) : ∀ c ∈ l, fitC c ∧ c.key.size ≤ 65536 ∧ c.val.size ≤ 65536 := fun c hc => by
  have h1 := checkN_ok ((checkL_both h).2 c hc)
  exact ⟨fit_of h hs c hc, by omega, by omega⟩
/-- What Open tells of what Build made. -/
theorem build_open {l : List Cell} {r : Int} {b : List UInt8} (hs : ∀ c ∈ l, 0 ≤ c.seq) (h : buildN l r = (b, 0)) : openN ⟨b.toArray⟩ = some (l, r) ∧ adjC l = true ∧ (∀ c ∈ l, checkN c = 0) ∧ b.length ≤ 65536 ∧ 10 ≤ b.length := by
  obtain ⟨h1, h2, h3, h4, h5⟩ := buildN_ok h
  have h6 := openN_build (fit_of h3 hs) h
  exact ⟨h6, (checkL_both h3).1, (checkL_both h3).2, h5, (openN_some h6).2.1⟩
theorem build_none {l : List Cell} {r : Int} {b : List UInt8} {e : Int} (h : buildN l r = (b, e)) (he : e ≠ 0) : b = [] := by
  unfold buildN at h
  split at h
  · exact (congrArg Prod.fst h).symm
  · split at h
    · exact (congrArg Prod.fst h).symm
    · split at h
      · exact absurd (congrArg Prod.snd h).symm he
      · exact (congrArg Prod.fst h).symm
theorem open_empty : openN ⟨([] : List UInt8).toArray⟩ = none := by
  unfold openN
  rw [if_pos (.inl (by decide))]
theorem pos_at {l : List Cell} (h : adjC l = true) {i : Nat} {c : Cell} (hc : l[i]? = some c) : posN l c.key c.seq = i := by
  have hlt := (List.getElem?_eq_some_iff.1 hc).1
  refine posN_eq l c.key c.seq i (by omega) (fun j x hj hx => adjC_lt h (i - j - 1) j x c hx (by rw [show j + (i - j - 1) + 1 = i by omega]; exact hc)) (fun x hx => ?_)
  rw [hc] at hx
  cases hx
  exact PLt.irrefl _ _
theorem seek_pos {l : List Cell} {k : ByteArray} {q : Int} {i : Nat} {c : Cell} (hp : posN l k q = i) (hc : l[i]? = some c) : seekC l k q = (c, true) := by unfold seekC; rw [hp, hc]
theorem seek_end {l : List Cell} {k : ByteArray} {q : Int} (hp : posN l k q = l.length) : seekC l k q = (Cell.zero, false) := by unfold seekC; rw [hp, List.getElem?_eq_none (Nat.le_refl _)]
theorem seek_at {l : List Cell} (h : adjC l = true) {i : Nat} {c : Cell} (hc : l[i]? = some c) : seekC l c.key c.seq = (c, true) := seek_pos (pos_at h hc) hc
theorem get_at {l : List Cell} (h : adjC l = true) {i : Nat} {c : Cell} (hc : l[i]? = some c) : getS c.key (seekC l c.key c.seq) = (c, true) := by
  rw [seek_at h hc]
  unfold getS
  rw [if_pos ⟨rfl, rfl⟩]
/-! ### The next one -/
theorem not_lt_empty (k : ByteArray) : ¬ SLt k ⟨#[]⟩ := by
  unfold SLt
  cases h : k.data.toList with
  | nil => simp [Op.bytesLess]
  | cons a t => simp [Op.bytesLess]
theorem pos_first {l : List Cell} (hc : ∀ c ∈ l, checkN c = 0) (q : Int) : posN l ⟨#[]⟩ q = 0 := by
  refine posN_eq l _ _ 0 (Nat.zero_le _) (fun j _ hj => by omega) (fun x hx => ?_)
  have h1 := checkN_ok (hc x (List.mem_of_getElem? hx))
  rintro (h2 | ⟨h2, _⟩)
  · exact not_lt_empty _ h2
  · have h3 := h1.1
    rw [h2] at h3
    exact absurd h3 (by decide)
theorem SLt.asymm' {a b : ByteArray} (h : SLt a b) (k : SLt b a) : False := by
  have h1 : PLt a 0 b 0 := .inl h
  exact PLt.irrefl a 0 (h1.trans (.inl k))
theorem pos_next {l : List Cell} (h : adjC l = true) {i : Nat} {c : Cell} (hc : l[i]? = some c) : posN l c.key (c.seq - 1) = i + 1 := by
  have hlt := (List.getElem?_eq_some_iff.1 hc).1
  have h0 : PLt c.key c.seq c.key (c.seq - 1) := .inr ⟨rfl, by omega⟩
  refine posN_eq l c.key (c.seq - 1) (i + 1) hlt (fun j x hj hx => ?_) (fun x hx => ?_)
  · exact adjC_down h (by omega) hx hc h0
  · have h1 := adjC_lt h 0 i c x hc hx
    rintro (h2 | ⟨h2, h3⟩)
    · rcases h1 with h4 | ⟨h4, _⟩
      · exact h2.asymm' h4
      · rw [h4] at h2; exact SLt.irrefl _ h2
    · rcases h1 with h4 | ⟨_, h5⟩
      · rw [h2] at h4; exact SLt.irrefl _ h4
      · omega
theorem less_zero : ∀ (a : List UInt8), Op.bytesLess a (a ++ [0]) = true
  | [] => rfl
  | x :: a => by simp [Op.bytesLess, less_zero a]
theorem less_gap : ∀ (a b : List UInt8), Op.bytesLess a b = true → Op.bytesLess b (a ++ [0]) = false
  | [], [], h => by simp [Op.bytesLess] at h
  | [], y :: b, _ => by
    show (decide (y < 0) || (y == 0 && Op.bytesLess b [])) = false
    have h1 : ¬ y < 0 := by simp
    have h2 : Op.bytesLess b [] = false := by cases b <;> rfl
    simp [h1, h2]
  | x :: a, [], h => by simp [Op.bytesLess] at h
  | x :: a, y :: b, h => by
    simp only [Op.bytesLess, Bool.or_eq_true, decide_eq_true_eq, Bool.and_eq_true, beq_iff_eq] at h
    show (decide (y < x) || (y == x && Op.bytesLess b (a ++ [0]))) = false
    rcases h with h | ⟨rfl, h⟩
    · have h1 : ¬ y < x := UInt8.lt_asymm h
      have h2 : ¬ y = x := by rintro rfl; exact UInt8.lt_irrefl _ h
      simp [h1, h2]
    · have := less_gap a b h
      simp [this]
def keyZ (k : ByteArray) : ByteArray := ⟨k.data ++ #[0]⟩
theorem keyZ_list (k : ByteArray) : (keyZ k).data.toList = k.data.toList ++ [0] := by simp [keyZ]
theorem pos_nextZ {l : List Cell} (h : adjC l = true) (hk : ∀ c ∈ l, checkN c = 0) (hs : ∀ c ∈ l, 0 ≤ c.seq) {i : Nat} {c : Cell} (hc : l[i]? = some c) (h0 : c.seq = 0) : posN l (keyZ c.key) 72057594037927935 = i + 1 := by
  have hlt := (List.getElem?_eq_some_iff.1 hc).1
  have hz : SLt c.key (keyZ c.key) := by unfold SLt; rw [keyZ_list]; exact less_zero _
  refine posN_eq l _ _ (i + 1) hlt (fun j x hj hx => ?_) (fun x hx => ?_)
  · exact adjC_down h (by omega) hx hc (.inl hz)
  · have hm := List.mem_of_getElem? hx
    have h1 := adjC_lt h 0 i c x hc hx
    have h2 := checkN_ok (hk x hm)
    have h3 := hs x hm
    have h4 : SLt c.key x.key := by
      rcases h1 with h4 | ⟨_, h5⟩
      · exact h4
      · omega
    rintro (h5 | ⟨_, h6⟩)
    · unfold SLt at h4 h5
      rw [keyZ_list, less_gap _ _ h4] at h5
      exact absurd h5 (by simp)
    · omega
end Go.Proofs.Ytbcaiegglbdonaa
