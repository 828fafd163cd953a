/-
  The order of strings and of cells. Plain.
-/
import Derived.Lib.Bytealg
import Derived.Lib.Strings
namespace Go.Proofs.Ytbcaiegglbdonaa

theorem str_beq {a b : ByteArray} : (a.toList == b.toList) = true ↔ a = b := by
  rw [beq_iff_eq, Lib.toList_data, Lib.toList_data]
  constructor
  · intro h
    cases a; cases b
    simp only [ByteArray.mk.injEq]
    exact Array.toList_inj.1 h
  · rintro rfl; rfl
theorem str_beq_false {a b : ByteArray} : (a.toList == b.toList) = false ↔ a ≠ b := by
  rw [Bool.eq_false_iff, Ne, str_beq]
theorem str_ext {a b : ByteArray} (h : a.data.toList = b.data.toList) : a = b := by
  cases a; cases b
  simp only [ByteArray.mk.injEq]
  exact Array.toList_inj.1 h
theorem toList_nil {a : ByteArray} : a.toList = [] ↔ a = ByteArray.empty := by
  rw [Lib.toList_data]
  constructor
  · intro h; exact str_ext h
  · rintro rfl; rfl

/-- Strings in order. -/
def SLt (a b : ByteArray) : Prop := Op.bytesLess a.data.toList b.data.toList = true
instance (a b : ByteArray) : Decidable (SLt a b) := by unfold SLt; infer_instance
theorem less_irrefl (a : List UInt8) : Op.bytesLess a a = false := by
  induction a with
  | nil => rfl
  | cons x a ih => simp [Op.bytesLess, ih]
theorem less_trans : ∀ {a b c : List UInt8}, Op.bytesLess a b = true → Op.bytesLess b c = true → Op.bytesLess a c = true := by
  intro a
  induction a with
  | nil => intro b c h1 h2; cases b with
    | nil => simp [Op.bytesLess] at h1
    | cons y b => cases c with
      | nil => simp [Op.bytesLess] at h2
      | cons z c => rfl
  | cons x a ih => intro b c h1 h2; cases b with
    | nil => simp [Op.bytesLess] at h1
    | cons y b => cases c with
      | nil => simp [Op.bytesLess] at h2
      | cons z c =>
        simp only [Op.bytesLess, Bool.or_eq_true, Bool.and_eq_true, decide_eq_true_eq, beq_iff_eq] at *
        rcases h1 with h1 | ⟨rfl, h1⟩
        · rcases h2 with h2 | ⟨rfl, _⟩
          · exact .inl (UInt8.lt_trans h1 h2)
          · exact .inl h1
        · rcases h2 with h2 | ⟨rfl, h2⟩
          · exact .inl h2
          · exact .inr ⟨rfl, ih h1 h2⟩
theorem less_total : ∀ (a b : List UInt8), Op.bytesLess a b = true ∨ a = b ∨ Op.bytesLess b a = true := by
  intro a
  induction a with
  | nil => intro b; cases b with
    | nil => exact .inr (.inl rfl)
    | cons y b => exact .inl rfl
  | cons x a ih => intro b; cases b with
    | nil => exact .inr (.inr rfl)
    | cons y b =>
      simp only [Op.bytesLess, Bool.or_eq_true, Bool.and_eq_true, decide_eq_true_eq, beq_iff_eq]
      rcases UInt8.lt_or_lt_of_ne (a := x) (b := y) |> fun h => Classical.em (x = y) |>.imp id h with rfl | h | h
      · rcases ih b with h | rfl | h
        · exact .inl (.inr ⟨rfl, h⟩)
        · exact .inr (.inl rfl)
        · exact .inr (.inr (.inr ⟨rfl, h⟩))
      · exact .inl (.inl h)
      · exact .inr (.inr (.inl h))
theorem cmpB_spec : ∀ (a b : List UInt8), (Op.bytesLess a b = true → Lib.compareBytes a b = -1) ∧ (a = b → Lib.compareBytes a b = 0) ∧ (Op.bytesLess b a = true → Lib.compareBytes a b = 1) := by
  intro a
  induction a with
  | nil => intro b; cases b <;> simp [Op.bytesLess, Lib.compareBytes]
  | cons x a ih => intro b; cases b with
    | nil => simp [Op.bytesLess, Lib.compareBytes]
    | cons y b =>
      obtain ⟨i1, i2, i3⟩ := ih b
      simp only [Op.bytesLess, Bool.or_eq_true, Bool.and_eq_true, decide_eq_true_eq, beq_iff_eq, Lib.compareBytes, List.cons.injEq]
      refine ⟨?_, ?_, ?_⟩
      · rintro (h | ⟨rfl, h⟩)
        · rw [if_pos h]
        · rw [if_neg (UInt8.lt_irrefl _), if_neg (UInt8.lt_irrefl _), i1 h]
      · rintro ⟨rfl, h⟩
        rw [if_neg (UInt8.lt_irrefl _), if_neg (UInt8.lt_irrefl _), i2 h]
      · rintro (h | ⟨rfl, h⟩)
        · rw [if_neg (fun h' => UInt8.lt_irrefl _ (UInt8.lt_trans h h')), if_pos h]
        · rw [if_neg (UInt8.lt_irrefl _), if_neg (UInt8.lt_irrefl _), i3 h]

theorem SLt.irrefl (a : ByteArray) : ¬ SLt a a := by unfold SLt; rw [less_irrefl]; simp
theorem SLt.trans {a b c : ByteArray} (h : SLt a b) (k : SLt b c) : SLt a c := less_trans h k
theorem SLt.total (a b : ByteArray) : SLt a b ∨ a = b ∨ SLt b a := by
  rcases less_total a.data.toList b.data.toList with h | h | h
  · exact .inl h
  · exact .inr (.inl (str_ext h))
  · exact .inr (.inr h)

/-- How two places stand. -/
def PLt (k1 : ByteArray) (s1 : Int) (k2 : ByteArray) (s2 : Int) : Prop := SLt k1 k2 ∨ (k1 = k2 ∧ s2 < s1)
instance (k1 : ByteArray) (s1 : Int) (k2 : ByteArray) (s2 : Int) : Decidable (PLt k1 s1 k2 s2) := by unfold PLt; infer_instance
theorem PLt.irrefl (k : ByteArray) (s : Int) : ¬ PLt k s k s := by rintro (h | ⟨_, h⟩); exact SLt.irrefl _ h; omega
theorem PLt.trans {k1 k2 k3 : ByteArray} {s1 s2 s3 : Int} (h : PLt k1 s1 k2 s2) (k : PLt k2 s2 k3 s3) : PLt k1 s1 k3 s3 := by
  rcases h with h | ⟨rfl, h⟩
  · rcases k with k | ⟨rfl, _⟩
    · exact .inl (h.trans k)
    · exact .inl h
  · rcases k with k | ⟨rfl, k⟩
    · exact .inl k
    · exact .inr ⟨rfl, by omega⟩
theorem PLt.total (k1 : ByteArray) (s1 : Int) (k2 : ByteArray) (s2 : Int) : PLt k1 s1 k2 s2 ∨ (k1 = k2 ∧ s1 = s2) ∨ PLt k2 s2 k1 s1 := by
  rcases SLt.total k1 k2 with h | rfl | h
  · exact .inl (.inl h)
  · rcases Int.lt_trichotomy s1 s2 with h | h | h
    · exact .inr (.inr (.inr ⟨rfl, h⟩))
    · exact .inr (.inl ⟨rfl, h⟩)
    · exact .inl (.inr ⟨rfl, h⟩)
  · exact .inr (.inr (.inl h))
theorem PLt.asymm {k1 k2 : ByteArray} {s1 s2 : Int} (h : PLt k1 s1 k2 s2) : ¬ PLt k2 s2 k1 s1 := fun k => PLt.irrefl _ _ (h.trans k)

def cmpInt (a b : Int) : Int := if a < b then -1 else if b < a then 1 else 0
def orInt (a b : Int) : Int := if a = 0 then b else a
def cellCmp (k1 : ByteArray) (s1 : Int) (k2 : ByteArray) (s2 : Int) : Int := orInt (Lib.compareBytes k1.data.toList k2.data.toList) (cmpInt s2 s1)
theorem cellCmp_lt {k1 : ByteArray} {s1 : Int} {k2 : ByteArray} {s2 : Int} (h : PLt k1 s1 k2 s2) : cellCmp k1 s1 k2 s2 = -1 := by
  obtain ⟨i1, i2, i3⟩ := cmpB_spec k1.data.toList k2.data.toList
  unfold cellCmp orInt
  rcases h with h | ⟨rfl, h⟩
  · rw [i1 h]; rfl
  · rw [i2 rfl, if_pos rfl]; unfold cmpInt; rw [if_pos h]
theorem cellCmp_eq (k : ByteArray) (s : Int) : cellCmp k s k s = 0 := by
  obtain ⟨i1, i2, i3⟩ := cmpB_spec k.data.toList k.data.toList
  unfold cellCmp orInt
  rw [i2 rfl, if_pos rfl]; unfold cmpInt; rw [if_neg (by omega), if_neg (by omega)]
theorem cellCmp_gt {k1 : ByteArray} {s1 : Int} {k2 : ByteArray} {s2 : Int} (h : PLt k2 s2 k1 s1) : cellCmp k1 s1 k2 s2 = 1 := by
  obtain ⟨i1, i2, i3⟩ := cmpB_spec k1.data.toList k2.data.toList
  unfold cellCmp orInt
  rcases h with h | ⟨rfl, h⟩
  · rw [i3 h]; rfl
  · rw [i2 rfl, if_pos rfl]; unfold cmpInt; rw [if_neg (by omega), if_pos h]
theorem cellCmp_neg_iff {k1 : ByteArray} {s1 : Int} {k2 : ByteArray} {s2 : Int} : cellCmp k1 s1 k2 s2 < 0 ↔ PLt k1 s1 k2 s2 := by
  rcases PLt.total k1 s1 k2 s2 with h | ⟨rfl, rfl⟩ | h
  · rw [cellCmp_lt h]; exact ⟨fun _ => h, fun _ => by omega⟩
  · rw [cellCmp_eq]; exact ⟨fun h => by omega, fun h => absurd h (PLt.irrefl _ _)⟩
  · rw [cellCmp_gt h]; exact ⟨fun h => by omega, fun k => absurd k h.asymm⟩
theorem cellCmp_zero_iff {k1 : ByteArray} {s1 : Int} {k2 : ByteArray} {s2 : Int} : cellCmp k1 s1 k2 s2 = 0 ↔ k1 = k2 ∧ s1 = s2 := by
  rcases PLt.total k1 s1 k2 s2 with h | ⟨rfl, rfl⟩ | h
  · rw [cellCmp_lt h]; exact ⟨fun h => by omega, by rintro ⟨rfl, rfl⟩; exact absurd h (PLt.irrefl _ _)⟩
  · rw [cellCmp_eq]; simp
  · rw [cellCmp_gt h]; exact ⟨fun h => by omega, by rintro ⟨rfl, rfl⟩; exact absurd h (PLt.irrefl _ _)⟩
end Go.Proofs.Ytbcaiegglbdonaa
