/-
  The codec's Reader: numbers of one, two and four bytes.
-/
import Derived.Test.YtbcaiegglbdonaaReader
import Derived.Laws.Bits64b
namespace Go.Proofs.Ytbcaiegglbdonaa
open Go Go.RowKit

def numN (l : List UInt8) : Nat := l.foldl (fun n b => n * 256 + b.toNat) 0
theorem numN_snoc (l : List UInt8) (b : UInt8) : numN (l ++ [b]) = numN l * 256 + b.toNat := by unfold numN; rw [List.foldl_append]; rfl
theorem foldN_lt : ∀ (l : List UInt8) (n k : Nat), n < 256 ^ k → l.foldl (fun n b => n * 256 + b.toNat) n < 256 ^ (k + l.length)
  | [], _, _, h => h
  | b :: l, n, k, h => by
    have := foldN_lt l (n * 256 + b.toNat) (k + 1) (by rw [Nat.pow_succ]; have := b.toNat_lt; omega)
    rw [List.foldl_cons, List.length_cons]
    have e : k + 1 + l.length = k + (l.length + 1) := by omega
    rwa [e] at this
theorem numN_lt (l : List UInt8) : numN l < 256 ^ l.length := by
  have := foldN_lt l 0 0 (by decide)
  simpa [numN] using this
theorem shl_or (n b : Nat) (hn : n < 72057594037927936) (hb : b < 256) : bits .or .u64 ((n : Int) * 256) (b : Int) = ((n * 256 + b : Nat) : Int) := by
  have h := bits_or_u64_nat (n * 256) b (by omega) (by omega)
  have e : n * 256 ||| b = n * 256 + b := by
    have := Nat.shiftLeft_add_eq_or_of_lt (i := 8) (b := b) (by omega) n
    rw [Nat.shiftLeft_eq] at this
    exact this.symm
  rw [e] at h
  rw [Int.natCast_mul] at h
  exact h
def RdRel (wb : World) (l : List UInt8) (n i : Value) (W : World) : Prop := ∃ k : Nat, k ≤ l.length ∧ i = .int .i64 k ∧ n = .int .u64 (numN (l.take k) : Nat) ∧ W = wb
set_option maxRecDepth 100000 in
set_option maxHeartbeats 1000000 in
theorem reader_read {w : World} {p : Nat} {s : ByteArray} {e : Int} (h : RdIs w p s e) (n : Nat) (hn : n ≤ 4) :
    Calls Try.prog 133 #[.pointer (some ⟨p, 0, none⟩), .int .i64 n] w (ReadsR w p (.int .u64 (numN (rawR s e n).1.data.toList : Nat)) (rawR s e n).2.1 (rawR s e n).2.2) := by
  have H := Lib.hid h
  clear h
  have hsz : (rawR s e n).1.size ≤ 4 := by
    unfold rawR
    split
    · exact Nat.zero_le _
    · split
      · exact Nat.zero_le _
      · split
        · exact Nat.zero_le _
        · rw [ByteArray.size_extract]; omega
  obtain ⟨R, hR⟩ : ∃ R, rawR s e n = R := ⟨_, rfl⟩
  have hraw := reader_raw H.out n
  rw [hR] at hraw hsz ⊢
  have HRW := Lib.hid hraw
  clear hR hraw
  have hcv : ∀ W, (convert 9 74 (.string R.1)).run Try.prog W = .ok (.slice (some ⟨W.heap.size, 0, none⟩) R.1.size (grownCap W R.1.size 0 5)) (Lib.bytesWorld W 5 R.1) := fun W => Lib.run_convert_string_bytes W 9 74 5 R.1 Try.underlying9 Try.underlying74 Try.underlying5
  go_enter Try.func133, Try.ntmps133
  go_wp2_with (go_at_call 138; refine HRW.out.mono ?_; rintro e w1 ⟨rfl, hr, ho⟩)
  have hbb := bytes_below w1 R.1
  have hcell := Lib.bytesWorld_cell w1 5 R.1
  have hlt1 : w1.heap.size < (Lib.bytesWorld w1 5 R.1).heap.size := by rw [Lib.bytesWorld_size]; omega
  clear hcv
  go_loopw [5, 13] (RdRel (Lib.bytesWorld w1 5 R.1) R.1.data.toList) (fun _ i _ => R.1.size - (intOf i).toNat)
  case atStart => exact ⟨0, by omega, rfl, rfl, rfl⟩
  case round =>
    obtain ⟨k, hk, rfl, rfl, rfl⟩ := hrel
    by_cases hlt : k < R.1.size
    · obtain ⟨b, hb⟩ : ∃ b, R.1.data.toList[k]? = some b := ⟨_, List.getElem?_eq_getElem (by simpa using hlt)⟩
      have c0 := hcell k hlt
      rw [show R.1.data.toList.getD k 0 = b by simp [List.getD, hb]] at c0
      have j0 : (0 : Int) ≤ (k : Int) := by omega
      have j1 : (k : Int) < (R.1.size : Int) := by omega
      have HB := Lib.hid hb
      clear hb hcell
      have hnl := numN_lt (R.1.data.toList.take k)
      have hpw : 256 ^ (R.1.data.toList.take k).length ≤ 256 ^ 4 := Nat.pow_le_pow_right (by decide) (by rw [List.length_take]; omega)
      obtain ⟨m, hm⟩ : ∃ m, numN (R.1.data.toList.take k) = m := ⟨_, rfl⟩
      rw [hm] at hnl ⊢
      have hm4 : m < 4294967296 := by have : 256 ^ 4 = 4294967296 := by decide
                                      omega
      have HM := Lib.hid hm
      have hbt := b.toNat_lt
      clear hnl hpw hm
      go_wp2_with fail
      go_roundw
      case rel =>
        refine ⟨k + 1, by show k + 1 ≤ R.1.size; omega, by go_num, ?_, rfl⟩
        rw [shl_or m b.toNat (by omega) (by omega), List.take_add_one, HB.out]
        show _ = Value.int .u64 ((numN (_ ++ [b]) : Nat) : Int)
        rw [numN_snoc, HM.out]
      case measure => simp [intOf]; omega
    · obtain rfl : k = R.1.size := by have : k ≤ R.1.size := hk; omega
      have h1 : R.1.data.toList.take R.1.size = R.1.data.toList := List.take_of_length_le (Nat.le_refl _)
      rw [h1]
      have HRr := Lib.hid hr
      clear hcell
      go_wp2_with fail
      go_ret
      exact ⟨rfl, Blk.kept HRr.out hbb, ho.trans (Only.of_below hbb)⟩
set_option maxRecDepth 100000 in
theorem reader_u32 {w : World} {p : Nat} {s : ByteArray} {e : Int} (h : RdIs w p s e) :
    Calls Try.prog 99 #[.pointer (some ⟨p, 0, none⟩)] w (ReadsR w p (.int .u32 (numN (rawR s e 4).1.data.toList % 4294967296 : Nat)) (rawR s e 4).2.1 (rawR s e 4).2.2) := by
  have HN := Lib.hid (reader_read h 4 (by decide))
  clear h
  go_enter Try.func99, Try.ntmps99
  go_wp2_with (go_at_call 133; refine HN.out.mono ?_; rintro e w1 ⟨rfl, hr, ho⟩)
  go_ret
  exact ⟨rfl, hr, ho⟩
set_option maxRecDepth 100000 in
theorem reader_u16 {w : World} {p : Nat} {s : ByteArray} {e : Int} (h : RdIs w p s e) :
    Calls Try.prog 100 #[.pointer (some ⟨p, 0, none⟩)] w (ReadsR w p (.int .u16 (numN (rawR s e 2).1.data.toList % 65536 : Nat)) (rawR s e 2).2.1 (rawR s e 2).2.2) := by
  have HN := Lib.hid (reader_read h 2 (by decide))
  clear h
  go_enter Try.func100, Try.ntmps100
  go_wp2_with (go_at_call 133; refine HN.out.mono ?_; rintro e w1 ⟨rfl, hr, ho⟩)
  go_ret
  exact ⟨rfl, hr, ho⟩
set_option maxRecDepth 100000 in
theorem reader_u8 {w : World} {p : Nat} {s : ByteArray} {e : Int} (h : RdIs w p s e) :
    Calls Try.prog 136 #[.pointer (some ⟨p, 0, none⟩)] w (ReadsR w p (.int .u8 (numN (rawR s e 1).1.data.toList % 256 : Nat)) (rawR s e 1).2.1 (rawR s e 1).2.2) := by
  have HN := Lib.hid (reader_read h 1 (by decide))
  clear h
  go_enter Try.func136, Try.ntmps136
  go_wp2_with (go_at_call 133; refine HN.out.mono ?_; rintro e w1 ⟨rfl, hr, ho⟩)
  go_ret
  exact ⟨rfl, hr, ho⟩
end Go.Proofs.Ytbcaiegglbdonaa
