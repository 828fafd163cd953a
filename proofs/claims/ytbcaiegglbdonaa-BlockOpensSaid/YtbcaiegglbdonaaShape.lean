/-
  The shape of a number in groups of seven bits.
-/
import Derived.Test.YtbcaiegglbdonaaReader2
namespace Go.Proofs.Ytbcaiegglbdonaa
open Go Go.RowKit

def shp (i n : Nat) : List UInt8 → Nat × Nat × Int
  | [] => (0, 0, 20)
  | c :: l => if i = 9 ∧ c ≠ 1 then (0, 0, 21) else if c.toNat < 128 then (if c = 0 ∧ 0 < i then (0, 0, 21) else (n + c.toNat * 128 ^ i, i + 1, 0)) else shp (i + 1) (n + c.toNat % 128 * 128 ^ i) l
def shapeN (l : List UInt8) : Nat × Nat × Int := shp 0 0 l
theorem and127 : ∀ n : Fin 256, bits .and .u8 (n.val : Int) 127 = ((n.val % 128 : Nat) : Int) := by decide +kernel
theorem shp_or {m k c : Nat} (hc : c < 256) (hm : m < 128 ^ k) (hb : c % 128 * 128 ^ k < 18446744073709551616) (hm2 : m < 18446744073709551616) :
    bits .or .u64 (m : Int) (IntKind.u64.wrap (IntKind.u64.wrap (bits .and .u8 (c : Int) 127) * 2 ^ (7 * k))) = ((m + c % 128 * 128 ^ k : Nat) : Int) := by
  have h1 := and127 ⟨c, hc⟩
  have hp : (128 : Nat) ^ k = 2 ^ (7 * k) := by rw [Nat.pow_mul]
  have hp2 : (2 : Int) ^ (7 * k) = ((128 ^ k : Nat) : Int) := by rw [hp]; norm_cast
  simp only at h1
  have hw1 : IntKind.u64.wrap ((c % 128 : Nat) : Int) = ((c % 128 : Nat) : Int) := by rw [IntKind.wrap_u64]; omega
  have hw2 : IntKind.u64.wrap ((c % 128 * 128 ^ k : Nat) : Int) = ((c % 128 * 128 ^ k : Nat) : Int) := by
    rw [IntKind.wrap_u64]
    exact Int.emod_eq_of_lt (Int.natCast_nonneg _) (Int.ofNat_lt.2 hb)
  rw [h1, hw1, hp2, ← Int.natCast_mul, hw2, bits_or_u64_nat _ _ hm2 hb]
  congr 1
  rw [hp] at hm ⊢
  have := Nat.shiftLeft_add_eq_or_of_lt (i := 7 * k) (b := m) hm (c % 128)
  rw [Nat.shiftLeft_eq] at this
  rw [Nat.or_comm, ← this, Nat.add_comm]
def ShpRel (w : World) (s : ByteArray) (n i : Value) (W : World) : Prop :=
  ∃ k m : Nat, k ≤ s.size ∧ k ≤ 9 ∧ m < 128 ^ k ∧ i = .int .i64 k ∧ n = .int .u64 m ∧ shapeN s.data.toList = shp k m (s.data.toList.drop k) ∧ W = w
set_option maxRecDepth 100000 in
set_option maxHeartbeats 1000000 in
theorem shape_spec (s : ByteArray) (hs : s.size ≤ 4611686018427387904) (w : World) :
    Calls Try.prog 149 #[.string s] w fun e w' => e = .returned (.tuple #[.int .u64 ((shapeN s.data.toList).1 : Nat), .int .i64 ((shapeN s.data.toList).2.1 : Nat), .int .i64 (shapeN s.data.toList).2.2]) ∧ w' = w := by
  go_enter Try.func149, Try.ntmps149
  go_wp2_with fail
  go_loopw [2, 9] (ShpRel w s) (fun _ i _ => s.size - (intOf i).toNat)
  case atStart => exact ⟨0, 0, by omega, by omega, by decide, rfl, rfl, rfl, rfl⟩
  case round =>
    obtain ⟨k, m, hk, hk9, hm, rfl, rfl, hsh, rfl⟩ := hrel
    by_cases hlt : k < s.size
    · obtain ⟨c, hc⟩ : ∃ c, s.data.toList[k]? = some c := ⟨_, List.getElem?_eq_getElem (by simpa using hlt)⟩
      have hd := drop_step hc
      have hsk : s[k].toNat = c.toNat := by
        obtain ⟨h3, h4⟩ := List.getElem?_eq_some_iff.1 hc
        rw [← h4]; rfl
      rw [hd, shp] at hsh
      have j0 : (0 : Int) ≤ (k : Int) := by omega
      have j1 : (k : Int) < (s.size : Int) := by omega
      have hct := c.toNat_lt
      have hpk : 128 ^ k ≤ 128 ^ 9 := Nat.pow_le_pow_right (by decide) hk9
      have hp9 : (128 : Nat) ^ 9 = 9223372036854775808 := by decide
      have hm2 : m < 18446744073709551616 := by omega
      by_cases h9 : k = 9
      · have hk' : ((k : Int) == 9) = true := by simp; omega
        by_cases hc1 : c = 1
        · have HS := Lib.hid (show shapeN s.data.toList = (m + c.toNat % 128 * 128 ^ k, k + 1, 0) by
            rw [hsh, if_neg (by rintro ⟨_, h⟩; exact h hc1), hc1, if_pos (by decide), if_neg (by rintro ⟨h, _⟩; exact absurd h (by decide))]
            rfl)
          have hcn : c.toNat = 1 := by rw [hc1]; rfl
          have HO := Lib.hid (shp_or (m := m) (k := k) (c := c.toNat) (by omega) hm (by rw [hcn, h9]; decide) hm2)
          have hq1 : ((c.toNat : Int) == 1) = true := by rw [hcn]; rfl
          have hq2 : ((c.toNat : Int) == 0) = false := by rw [hcn]; rfl
          have hq3 : (c.toNat : Int) < 128 := by omega
          clear hsh hd hc hpk hp9 h9 hcn hc1
          go_wp2_with fail
          go_ret3
          refine ⟨?_, rfl⟩
          rw [HS.out]
          show Ending.returned (Value.tuple #[.int .u64 (bits .or .u64 (m : Int) (IntKind.u64.wrap (IntKind.u64.wrap (bits .and .u8 (c.toNat : Int) 127) * 2 ^ (7 * k)))), .int .i64 ((k : Int) + 1), .int .i64 0]) = _
          rw [HO.out]
          rfl
        · have HS := Lib.hid (show shapeN s.data.toList = (0, 0, 21) by rw [hsh, if_pos ⟨h9, hc1⟩])
          have hq1 : ((c.toNat : Int) == 1) = false := by
            simp only [beq_eq_false_iff_ne, ne_eq]
            intro h
            exact hc1 (UInt8.toNat_inj.1 (by have : c.toNat = 1 := by omega
                                             rw [this]; rfl))
          clear hsh hd hc hpk hp9 h9
          go_wp2_with fail
          go_ret3
          exact ⟨by rw [HS.out]; rfl, rfl⟩
      · have hk' : ((k : Int) == 9) = false := by simp; omega
        have hpk8 : 128 ^ k ≤ 128 ^ 8 := Nat.pow_le_pow_right (by decide) (by omega)
        have hp8 : (128 : Nat) ^ 8 = 72057594037927936 := by decide
        have hbd : c.toNat % 128 * 128 ^ k < 18446744073709551616 := by
          have : c.toNat % 128 * 128 ^ k ≤ 127 * 72057594037927936 := Nat.mul_le_mul (by omega) (by omega)
          omega
        have HO := Lib.hid (shp_or (m := m) (k := k) (c := c.toNat) (by omega) hm hbd hm2)
        rw [if_neg (by omega)] at hsh
        have HS := Lib.hid hsh
        have HM := Lib.hid hm
        clear hsh hd hc hpk hp9 hpk8 hp8 hbd hm
        by_cases h128 : c.toNat < 128
        · have hq3 : (c.toNat : Int) < 128 := by omega
          by_cases hz : c = 0 ∧ 0 < k
          · have HT := Lib.hid (show shapeN s.data.toList = (0, 0, 21) by rw [HS.out, if_pos h128, if_pos hz])
            have hq2 : ((c.toNat : Int) == 0) = true := by rw [hz.1]; rfl
            have hq4 : (0 : Int) < (k : Int) := by omega
            go_wp2_with fail
            go_ret3
            exact ⟨by rw [HT.out]; rfl, rfl⟩
          · have HT := Lib.hid (show shapeN s.data.toList = (m + c.toNat % 128 * 128 ^ k, k + 1, 0) by rw [HS.out, if_pos h128, if_neg hz, Nat.mod_eq_of_lt h128])
            by_cases hc0 : c = 0
            · have hq2 : ((c.toNat : Int) == 0) = true := by rw [hc0]; rfl
              have hq4 : ¬ (0 : Int) < (k : Int) := by have : ¬ 0 < k := fun h => hz ⟨hc0, h⟩
                                                       omega
              go_wp2_with fail
              go_ret3
              refine ⟨?_, rfl⟩
              rw [HT.out]
              have h := HO.out
              rw [show c.toNat = 0 by rw [hc0]; rfl] at h ⊢
              show Ending.returned (Value.tuple #[.int .u64 (bits .or .u64 (m : Int) (IntKind.u64.wrap (IntKind.u64.wrap (bits .and .u8 ((0 : Nat) : Int) 127) * 2 ^ (7 * k)))), .int .i64 ((k : Int) + 1), .int .i64 0]) = _
              rw [h]
              rfl
            · have hq2 : ((c.toNat : Int) == 0) = false := by
                simp only [beq_eq_false_iff_ne, ne_eq]
                intro h
                exact hc0 (UInt8.toNat_inj.1 (by have : c.toNat = 0 := by omega
                                                 rw [this]; rfl))
              go_wp2_with fail
              go_ret3
              refine ⟨?_, rfl⟩
              rw [HT.out]
              show Ending.returned (Value.tuple #[.int .u64 (bits .or .u64 (m : Int) (IntKind.u64.wrap (IntKind.u64.wrap (bits .and .u8 (c.toNat : Int) 127) * 2 ^ (7 * k)))), .int .i64 ((k : Int) + 1), .int .i64 0]) = _
              rw [HO.out]
              rfl
        · have hcl : ¬ ((c.toNat : Int) < 128) := by omega
          go_wp2_with fail
          go_roundw
          case rel =>
            refine ⟨k + 1, m + c.toNat % 128 * 128 ^ k, by omega, by omega, ?_, by go_num, ?_, ?_, rfl⟩
            · rw [Nat.pow_succ]
              have := HM.out
              have h2 : c.toNat % 128 * 128 ^ k ≤ 127 * 128 ^ k := Nat.mul_le_mul_right _ (by omega)
              omega
            · rw [HO.out]
            · rw [HS.out, if_neg h128]
          case measure => simp [intOf]; omega
    · have HS := Lib.hid (show shapeN s.data.toList = (0, 0, 20) by
        rw [hsh, List.drop_eq_nil_of_le (by show s.size ≤ k; omega)]; rfl)
      have j1 : ¬ (k : Int) < (s.size : Int) := by omega
      clear hsh
      go_wp2_with fail
      go_ret3
      exact ⟨by rw [HS.out]; rfl, rfl⟩
end Go.Proofs.Ytbcaiegglbdonaa
