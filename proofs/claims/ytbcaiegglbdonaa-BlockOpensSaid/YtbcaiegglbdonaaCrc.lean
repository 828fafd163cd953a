/-
  The check sum, the codec's and the reference's.
-/
import Derived.Test.YtbcaiegglbdonaaWriter2
namespace Go.Proofs.Ytbcaiegglbdonaa
open Go Go.RowKit

def crcBit (c : Nat) : Nat := (c / 2) ^^^ (if c % 2 = 1 then 2197175160 else 0)
def crcBits : Nat → Nat → Nat
  | 0, c => c
  | j + 1, c => crcBits j (crcBit c)
def crcByte (c : Nat) (b : UInt8) : Nat := crcBits 8 (c ^^^ b.toNat)
def crcN (l : List UInt8) : Nat := (l.foldl crcByte 4294967295) ^^^ 4294967295
theorem bits_xor_u32_nat (a b : Nat) (ha : a < 4294967296) (hb : b < 4294967296) : bits .xor .u32 (a : Int) (b : Int) = ((a ^^^ b : Nat) : Int) := by
  have hx : a ^^^ b < 2 ^ 32 := Nat.xor_lt_two_pow (by omega) (by omega)
  have h1 : (BitVec.ofInt 32 (a : Int)).toNat = a := by
    rw [BitVec.ofInt_natCast, BitVec.toNat_ofNat]; exact Nat.mod_eq_of_lt (by omega)
  have h2 : (BitVec.ofInt 32 (b : Int)).toNat = b := by
    rw [BitVec.ofInt_natCast, BitVec.toNat_ofNat]; exact Nat.mod_eq_of_lt (by omega)
  show IntKind.u32.wrap ((BitVec.ofInt 32 (a : Int) ^^^ BitVec.ofInt 32 (b : Int)).toNat : Int) = _
  rw [BitVec.toNat_xor, h1, h2]
  simp [IntKind.wrap, IntKind.bits, IntKind.signed]
  omega
theorem bits_and_u32_nat (a b : Nat) (ha : a < 4294967296) (hb : b < 4294967296) : bits .and .u32 (a : Int) (b : Int) = ((a &&& b : Nat) : Int) := by
  have hx : a &&& b < 2 ^ 32 := Nat.and_lt_two_pow _ (by omega)
  have h1 : (BitVec.ofInt 32 (a : Int)).toNat = a := by
    rw [BitVec.ofInt_natCast, BitVec.toNat_ofNat]; exact Nat.mod_eq_of_lt (by omega)
  have h2 : (BitVec.ofInt 32 (b : Int)).toNat = b := by
    rw [BitVec.ofInt_natCast, BitVec.toNat_ofNat]; exact Nat.mod_eq_of_lt (by omega)
  show IntKind.u32.wrap ((BitVec.ofInt 32 (a : Int) &&& BitVec.ofInt 32 (b : Int)).toNat : Int) = _
  rw [BitVec.toNat_and, h1, h2]
  simp [IntKind.wrap, IntKind.bits, IntKind.signed]
  omega
theorem crc_step {c : Nat} (h : c < 4294967296) : bits .xor .u32 ((c : Int) / 2) (bits .and .u32 2197175160 (-bits .and .u32 (c : Int) 1 % 4294967296)) = ((crcBit c : Nat) : Int) := by
  have h1 : bits .and .u32 (c : Int) 1 = ((c % 2 : Nat) : Int) := by
    have := bits_and_u32_nat c 1 h (by decide)
    rw [Nat.and_one_is_mod] at this
    exact this
  rw [h1]
  have h2 : ((c : Int) / 2) = ((c / 2 : Nat) : Int) := by omega
  rw [h2]
  unfold crcBit
  rcases Nat.mod_two_eq_zero_or_one c with hc | hc
  · rw [hc, if_neg (by decide)]
    rw [show bits .and .u32 2197175160 (-((0 : Nat) : Int) % 4294967296) = ((0 : Nat) : Int) from by decide +kernel]
    exact bits_xor_u32_nat _ _ (by omega) (by decide)
  · rw [hc, if_pos rfl]
    rw [show bits .and .u32 2197175160 (-((1 : Nat) : Int) % 4294967296) = ((2197175160 : Nat) : Int) from by decide +kernel]
    exact bits_xor_u32_nat _ _ (by omega) (by decide)
theorem crcBit_lt {c : Nat} (h : c < 4294967296) : crcBit c < 4294967296 := by
  unfold crcBit
  exact Nat.xor_lt_two_pow (n := 32) (by omega) (by split <;> omega)
theorem crcBits_lt : ∀ (j : Nat) {c : Nat}, c < 4294967296 → crcBits j c < 4294967296
  | 0, _, h => h
  | j + 1, _, h => crcBits_lt j (crcBit_lt h)
theorem crcBits_succ : ∀ (j c : Nat), crcBits (j + 1) c = crcBit (crcBits j c)
  | 0, _ => rfl
  | j + 1, c => crcBits_succ j (crcBit c)
theorem crcByte_lt {c : Nat} (b : UInt8) (h : c < 4294967296) : crcByte c b < 4294967296 := crcBits_lt 8 (Nat.xor_lt_two_pow (n := 32) (by omega) (by have := b.toNat_lt; omega))
theorem crcFold_lt : ∀ (l : List UInt8) {c : Nat}, c < 4294967296 → l.foldl crcByte c < 4294967296
  | [], _, h => h
  | b :: l, _, h => crcFold_lt l (crcByte_lt b h)
def CrcOut (w : World) (s : ByteArray) (t i : Value) (W : World) : Prop := ∃ k : Nat, k ≤ s.size ∧ i = .int .i64 k ∧ t = .int .u32 ((s.data.toList.take k).foldl crcByte 4294967295 : Nat) ∧ W = w
def CrcIn (c0 : Nat) (wo : World) (t i : Value) (W : World) : Prop := ∃ j : Nat, j ≤ 8 ∧ i = .int .i64 j ∧ t = .int .u32 (crcBits j c0 : Nat) ∧ W = wo
set_option maxRecDepth 100000 in
set_option maxHeartbeats 1000000 in
theorem crc_spec (s : ByteArray) (w : World) (hs : s.size ≤ 9223372036854775807) : Calls Try.prog 92 #[.string s] w fun e w' => e = .returned (.int .u32 (crcN s.data.toList)) ∧ w' = w := by
  go_enter Try.func92, Try.ntmps92
  go_wp2_with fail
  go_loopw [3, 7] (CrcOut w s) (fun _ i _ => s.size - (intOf i).toNat)
  case atStart => exact ⟨0, by omega, rfl, rfl, rfl⟩
  case round =>
    obtain ⟨k, hk, rfl, rfl, rfl⟩ := hrel
    by_cases hlt : k < s.size
    · have i0 : (0 : Int) ≤ (k : Int) := by omega
      have i1 : (k : Int) < (s.size : Int) := by omega
      go_wp2_with fail
      obtain ⟨b, hb⟩ : ∃ b, s.data.toList[k]? = some b := ⟨_, List.getElem?_eq_getElem (by simpa using hlt)⟩
      have hsk : s[k].toNat = b.toNat := by
        have h2 := List.getElem?_eq_some_iff.1 hb
        obtain ⟨h3, h4⟩ := h2
        rw [← h4]
        rfl
      have HB := Lib.hid hb
      have HK := Lib.hid hsk
      have hc0 := crcFold_lt (s.data.toList.take k) (c := 4294967295) (by decide)
      obtain ⟨c, hc⟩ : ∃ c, (s.data.toList.take k).foldl crcByte 4294967295 = c := ⟨_, rfl⟩
      rw [hc] at hc0 ⊢
      have HC := Lib.hid hc
      clear hb hsk hc
      have hcb : c ^^^ b.toNat < 4294967296 := Nat.xor_lt_two_pow (n := 32) (by omega) (by have := b.toNat_lt; omega)
      go_loopw [3, 16] (CrcIn (c ^^^ b.toNat) wr) (fun _ i _ => 8 - (intOf i).toNat)
      case atStart =>
        refine ⟨0, by omega, rfl, ?_, rfl⟩
        rw [HK.out, show ((b.toNat : Int) % 4294967296) = ((b.toNat : Nat) : Int) from by have := b.toNat_lt; omega, bits_xor_u32_nat _ _ hc0 (by have := b.toNat_lt; omega)]
        rfl
      case round =>
        obtain ⟨j, hj, rfl, rfl, rfl⟩ := hrel
        have hcj := crcBits_lt j hcb
        have HS := Lib.hid (crc_step hcj)
        have HN := Lib.hid (crcBits_succ j (c ^^^ b.toNat))
        by_cases hj8 : j < 8
        · go_wp2_with fail
          go_roundw
          case rel => exact ⟨j + 1, by omega, by go_num, by rw [HS.out, HN.out], rfl⟩
          case measure => simp [intOf]; omega
        · obtain rfl : j = 8 := by omega
          go_wp2_with fail
          go_roundw
          case rel =>
            refine ⟨k + 1, by omega, by go_num, ?_, rfl⟩
            rw [List.take_add_one, HB.out, List.foldl_append, HC.out]
            rfl
          case measure => simp [intOf]; omega
    · obtain rfl : k = s.size := by omega
      go_wp2_with fail
      go_ret
      refine ⟨?_, rfl⟩
      have h1 : s.data.toList.take s.size = s.data.toList := List.take_of_length_le (Nat.le_refl _)
      have h2 := crcFold_lt s.data.toList (c := 4294967295) (by decide)
      rw [h1]
      show Ending.returned (Value.int IntKind.u32 (bits .xor .u32 ((4294967295 : Nat) : Int) _)) = _
      rw [bits_xor_u32_nat _ _ (by decide) h2, Nat.xor_comm]
      rfl

set_option maxRecDepth 100000 in
set_option maxHeartbeats 1000000 in
theorem ref_crc (s : ByteArray) (w : World) (hs : s.size ≤ 4611686018427387904) : Calls Try.prog 96 #[.string s] w fun e w' => e = .returned (.int .u32 (crcN s.data.toList)) ∧ w' = w := by
  go_enter Try.func96, Try.ntmps96
  go_wp2_with fail
  go_loopw [3, 4] (CrcOut w s) (fun _ i _ => s.size - (intOf i).toNat)
  case atStart => exact ⟨0, by omega, rfl, rfl, rfl⟩
  case round =>
    obtain ⟨k, hk, rfl, rfl, rfl⟩ := hrel
    by_cases hlt : k < s.size
    · have i0 : (0 : Int) ≤ (k : Int) := by omega
      have i1 : (k : Int) < (s.size : Int) := by omega
      go_wp2_with fail
      obtain ⟨b, hb⟩ : ∃ b, s.data.toList[k]? = some b := ⟨_, List.getElem?_eq_getElem (by simpa using hlt)⟩
      have hsk : s[k].toNat = b.toNat := by
        have h2 := List.getElem?_eq_some_iff.1 hb
        obtain ⟨h3, h4⟩ := h2
        rw [← h4]
        rfl
      have HB := Lib.hid hb
      have HK := Lib.hid hsk
      have hc0 := crcFold_lt (s.data.toList.take k) (c := 4294967295) (by decide)
      obtain ⟨c, hc⟩ : ∃ c, (s.data.toList.take k).foldl crcByte 4294967295 = c := ⟨_, rfl⟩
      rw [hc] at hc0 ⊢
      have HC := Lib.hid hc
      clear hb hsk hc
      have hcb : c ^^^ b.toNat < 4294967296 := Nat.xor_lt_two_pow (n := 32) (by omega) (by have := b.toNat_lt; omega)
      go_loopw [3, 5] (CrcIn (c ^^^ b.toNat) wr) (fun _ i _ => 8 - (intOf i).toNat)
      case atStart =>
        refine ⟨0, by omega, rfl, ?_, rfl⟩
        rw [HK.out, show ((b.toNat : Int) % 4294967296) = ((b.toNat : Nat) : Int) from by have := b.toNat_lt; omega, bits_xor_u32_nat _ _ hc0 (by have := b.toNat_lt; omega)]
        rfl
      case round =>
        obtain ⟨j, hj, rfl, rfl, rfl⟩ := hrel
        have hcj := crcBits_lt j hcb
        have HN := Lib.hid (crcBits_succ j (c ^^^ b.toNat))
        by_cases hj8 : j < 8
        · obtain ⟨q, hq⟩ : ∃ q, crcBits j (c ^^^ b.toNat) = q := ⟨_, rfl⟩
          rw [hq] at HN hcj ⊢
          clear hq
          by_cases hodd : q % 2 = 1
          · have ho : (q : Int) % 2 = 1 := by omega
            have HX := Lib.hid (show bits .xor .u32 ((q : Int) / 2) 2197175160 = ((crcBit q : Nat) : Int) by
              unfold crcBit
              rw [if_pos hodd]
              exact bits_xor_u32_nat (q / 2) 2197175160 (by omega) (by decide))
            go_wp2_with fail
            go_roundw
            case rel => exact ⟨j + 1, by omega, by go_num, by rw [HX.out, HN.out], rfl⟩
            case measure => simp [intOf]; omega
          · have ho : ¬ (q : Int) % 2 = 1 := by omega
            have HX := Lib.hid (show ((q : Int) / 2) = ((crcBit q : Nat) : Int) by
              unfold crcBit
              rw [if_neg hodd, Nat.xor_zero]
              omega)
            go_wp2_with fail
            go_roundw
            case rel => exact ⟨j + 1, by omega, by go_num, by rw [HX.out, HN.out], rfl⟩
            case measure => simp [intOf]; omega
        · obtain rfl : j = 8 := by omega
          go_wp2_with fail
          go_roundw
          case rel =>
            refine ⟨k + 1, by omega, by go_num, ?_, rfl⟩
            rw [List.take_add_one, HB.out, List.foldl_append, HC.out]
            rfl
          case measure => simp [intOf]; omega
    · obtain rfl : k = s.size := by omega
      go_wp2_with fail
      go_ret
      refine ⟨?_, rfl⟩
      have h1 : s.data.toList.take s.size = s.data.toList := List.take_of_length_le (Nat.le_refl _)
      have h2 := crcFold_lt s.data.toList (c := 4294967295) (by decide)
      rw [h1]
      show Ending.returned (Value.int IntKind.u32 (bits .xor .u32 _ ((4294967295 : Nat) : Int))) = _
      rw [bits_xor_u32_nat _ _ h2 (by decide)]
      rfl
end Go.Proofs.Ytbcaiegglbdonaa
