/-
  How many bytes two texts share at their beginning; two cells compared.
-/
import Derived.Test.YtbcaiegglbdonaaMemLess
namespace Go.Proofs.Ytbcaiegglbdonaa
open Go Go.RowKit

def sharedN : List UInt8 → List UInt8 → Nat
  | x :: a, y :: b => if x = y then sharedN a b + 1 else 0
  | _, _ => 0
theorem sharedN_le_left : ∀ a b : List UInt8, sharedN a b ≤ a.length
  | [], _ => by simp [sharedN]
  | _ :: _, [] => by simp [sharedN]
  | x :: a, y :: b => by
    unfold sharedN
    split
    · have := sharedN_le_left a b; simp; omega
    · simp
theorem sharedN_le_right : ∀ a b : List UInt8, sharedN a b ≤ b.length
  | [], _ => by simp [sharedN]
  | _ :: _, [] => by simp [sharedN]
  | x :: a, y :: b => by
    unfold sharedN
    split
    · have := sharedN_le_right a b; simp; omega
    · simp
theorem sharedN_take : ∀ a b : List UInt8, a.take (sharedN a b) = b.take (sharedN a b)
  | [], _ => by simp [sharedN]
  | _ :: _, [] => by simp [sharedN]
  | x :: a, y :: b => by
    unfold sharedN
    split
    · rename_i h
      have := sharedN_take a b
      simp [h, this]
    · simp
def ShRel (w : World) (a b : ByteArray) (n : Value) (W : World) : Prop :=
  ∃ k : Nat, k ≤ a.size ∧ k ≤ b.size ∧ n = .int .i64 k ∧ k + sharedN (a.data.toList.drop k) (b.data.toList.drop k) = sharedN a.data.toList b.data.toList ∧ Below w.heap.size w W
theorem drop_step {l : List UInt8} {k : Nat} {x : UInt8} (h : l[k]? = some x) : l.drop k = x :: l.drop (k + 1) := by
  obtain ⟨h1, h2⟩ := List.getElem?_eq_some_iff.1 h
  rw [List.drop_eq_getElem_cons h1, h2]
set_option maxRecDepth 100000 in
set_option maxHeartbeats 1000000 in
theorem shared_spec (a b : ByteArray) (ha : a.size ≤ 4611686018427387904) (w : World) : Calls Try.prog 85 #[.string a, .string b] w fun e w' => e = .returned (.int .i64 (sharedN a.data.toList b.data.toList)) ∧ Below w.heap.size w w' := by
  go_enter Try.func85, Try.ntmps85
  go_wp2_with fail
  go_loopw [5] (ShRel w a b) (fun i _ => a.size - (intOf i).toNat)
  case atStart => exact ⟨0, by omega, by omega, rfl, by simp, Below.refl _ _⟩
  case round =>
    obtain ⟨k, hka, hkb, rfl, hsh, hb⟩ := hrel
    have HS := Lib.hid hsh
    clear hsh
    by_cases h1 : k < a.size
    · by_cases h2 : k < b.size
      · have i0 : (0 : Int) ≤ (k : Int) := by omega
        have i1 : (k : Int) < (a.size : Int) := by omega
        have i2 : (k : Int) < (b.size : Int) := by omega
        obtain ⟨x, hx⟩ : ∃ x, a.data.toList[k]? = some x := ⟨_, List.getElem?_eq_getElem (by simpa using h1)⟩
        obtain ⟨y, hy⟩ : ∃ y, b.data.toList[k]? = some y := ⟨_, List.getElem?_eq_getElem (by simpa using h2)⟩
        have hdx := drop_step hx
        have hdy := drop_step hy
        have hxa : a[k] = x := by obtain ⟨h3, h4⟩ := List.getElem?_eq_some_iff.1 hx; rw [← h4]; rfl
        have hyb : b[k] = y := by obtain ⟨h3, h4⟩ := List.getElem?_eq_some_iff.1 hy; rw [← h4]; rfl
        have HDX := Lib.hid hdx
        have HDY := Lib.hid hdy
        clear hx hy hdx hdy
        by_cases hxy : x = y
        · have HXY := Lib.hid hxy
          have he : (((a[k]).toNat : Int) == ((b[k]).toNat : Int)) = true := by rw [hxa, hyb, hxy]; simp
          clear hxa hyb hxy
          go_wp2_with fail
          go_quiet (fail)
          go_wp2_with fail
          go_roundw
          case rel =>
            refine ⟨k + 1, by omega, by omega, by go_num, ?_, below_drewN hb nq⟩
            rw [← HS.out, HDX.out, HDY.out, sharedN, if_pos HXY.out]
            omega
          case measure => simp [intOf]; omega
        · have HXY := Lib.hid hxy
          have he : (((a[k]).toNat : Int) == ((b[k]).toNat : Int)) = false := by
            rw [hxa, hyb]
            simp only [beq_eq_false_iff_ne, ne_eq, Int.natCast_inj]
            exact fun h => hxy (UInt8.toNat_inj.1 h)
          clear hxa hyb hxy
          go_wp2_with fail
          go_quiet (fail)
          go_wp2_with fail
          go_ret
          refine ⟨?_, below_drewN hb nq⟩
          rw [← HS.out, HDX.out, HDY.out, sharedN, if_neg HXY.out]
          rfl
      · have i0 : (0 : Int) ≤ (k : Int) := by omega
        have i1 : (k : Int) < (a.size : Int) := by omega
        have i2 : ¬ (k : Int) < (b.size : Int) := by omega
        have HE := Lib.hid (show sharedN (a.data.toList.drop k) (b.data.toList.drop k) = 0 by
          rw [show b.data.toList.drop k = [] from List.drop_eq_nil_of_le (by simpa using Nat.le_of_not_lt h2)]
          cases a.data.toList.drop k <;> rfl)
        go_wp2_with fail
        go_quiet (fail)
        go_wp2_with fail
        go_ret
        refine ⟨?_, below_drewN hb nq⟩
        rw [← HS.out, HE.out]
        rfl
    · have i0 : (0 : Int) ≤ (k : Int) := by omega
      have i1 : ¬ (k : Int) < (a.size : Int) := by omega
      have HE := Lib.hid (show sharedN (a.data.toList.drop k) (b.data.toList.drop k) = 0 by
        rw [show a.data.toList.drop k = [] from List.drop_eq_nil_of_le (by simpa using Nat.le_of_not_lt h1)]
        rfl)
      go_wp2_with fail
      go_quiet (fail)
      go_wp2_with fail
      go_ret
      refine ⟨?_, below_drewN hb nq⟩
      rw [← HS.out, HE.out]
      rfl
set_option maxRecDepth 100000 in
set_option maxHeartbeats 1000000 in
theorem ref_shared (a b : ByteArray) (ha : a.size ≤ 4611686018427387904) (w : World) : Calls Try.prog 93 #[.string a, .string b] w fun e w' => e = .returned (.int .i64 (sharedN a.data.toList b.data.toList)) ∧ Below w.heap.size w w' := by
  go_enter Try.func93, Try.ntmps93
  go_wp2_with fail
  go_loopw [5] (ShRel w a b) (fun i _ => a.size - (intOf i).toNat)
  case atStart => exact ⟨0, by omega, by omega, rfl, by simp, Below.refl _ _⟩
  case round =>
    obtain ⟨k, hka, hkb, rfl, hsh, hb⟩ := hrel
    have HS := Lib.hid hsh
    clear hsh
    by_cases h1 : k < a.size
    · by_cases h2 : k < b.size
      · have i0 : (0 : Int) ≤ (k : Int) := by omega
        have i1 : (k : Int) < (a.size : Int) := by omega
        have i2 : (k : Int) < (b.size : Int) := by omega
        obtain ⟨x, hx⟩ : ∃ x, a.data.toList[k]? = some x := ⟨_, List.getElem?_eq_getElem (by simpa using h1)⟩
        obtain ⟨y, hy⟩ : ∃ y, b.data.toList[k]? = some y := ⟨_, List.getElem?_eq_getElem (by simpa using h2)⟩
        have hdx := drop_step hx
        have hdy := drop_step hy
        have hxa : a[k] = x := by obtain ⟨h3, h4⟩ := List.getElem?_eq_some_iff.1 hx; rw [← h4]; rfl
        have hyb : b[k] = y := by obtain ⟨h3, h4⟩ := List.getElem?_eq_some_iff.1 hy; rw [← h4]; rfl
        have HDX := Lib.hid hdx
        have HDY := Lib.hid hdy
        clear hx hy hdx hdy
        by_cases hxy : x = y
        · have HXY := Lib.hid hxy
          have he : (((a[k]).toNat : Int) == ((b[k]).toNat : Int)) = true := by rw [hxa, hyb, hxy]; simp
          clear hxa hyb hxy
          go_wp2_with fail
          go_quiet (fail)
          go_wp2_with fail
          go_roundw
          case rel =>
            refine ⟨k + 1, by omega, by omega, by go_num, ?_, below_drewN hb nq⟩
            rw [← HS.out, HDX.out, HDY.out, sharedN, if_pos HXY.out]
            omega
          case measure => simp [intOf]; omega
        · have HXY := Lib.hid hxy
          have he : (((a[k]).toNat : Int) == ((b[k]).toNat : Int)) = false := by
            rw [hxa, hyb]
            simp only [beq_eq_false_iff_ne, ne_eq, Int.natCast_inj]
            exact fun h => hxy (UInt8.toNat_inj.1 h)
          clear hxa hyb hxy
          go_wp2_with fail
          go_quiet (fail)
          go_wp2_with fail
          go_ret
          refine ⟨?_, below_drewN hb nq⟩
          rw [← HS.out, HDX.out, HDY.out, sharedN, if_neg HXY.out]
          rfl
      · have i0 : (0 : Int) ≤ (k : Int) := by omega
        have i1 : (k : Int) < (a.size : Int) := by omega
        have i2 : ¬ (k : Int) < (b.size : Int) := by omega
        have HE := Lib.hid (show sharedN (a.data.toList.drop k) (b.data.toList.drop k) = 0 by
          rw [show b.data.toList.drop k = [] from List.drop_eq_nil_of_le (by simpa using Nat.le_of_not_lt h2)]
          cases a.data.toList.drop k <;> rfl)
        go_wp2_with fail
        go_quiet (fail)
        go_wp2_with fail
        go_ret
        refine ⟨?_, below_drewN hb nq⟩
        rw [← HS.out, HE.out]
        rfl
    · have i0 : (0 : Int) ≤ (k : Int) := by omega
      have i1 : ¬ (k : Int) < (a.size : Int) := by omega
      have HE := Lib.hid (show sharedN (a.data.toList.drop k) (b.data.toList.drop k) = 0 by
        rw [show a.data.toList.drop k = [] from List.drop_eq_nil_of_le (by simpa using Nat.le_of_not_lt h1)]
        rfl)
      go_wp2_with fail
      go_quiet (fail)
      go_wp2_with fail
      go_ret
      refine ⟨?_, below_drewN hb nq⟩
      rw [← HS.out, HE.out]
      rfl
end Go.Proofs.Ytbcaiegglbdonaa
