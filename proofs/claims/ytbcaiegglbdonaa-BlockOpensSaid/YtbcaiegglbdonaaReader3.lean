/-
  The codec's Reader: a number in groups of seven bits.
-/
import Derived.Test.YtbcaiegglbdonaaShape
namespace Go.Proofs.Ytbcaiegglbdonaa
open Go Go.RowKit

theorem shp_size : ∀ (l : List UInt8) (i n : Nat), (shp i n l).2.1 ≤ i + l.length
  | [], i, n => by simp [shp]
  | c :: l, i, n => by
    rw [shp]
    split
    · simp
    · split
      · split
        · simp
        · simp <;> omega
      · have := shp_size l (i + 1) (n + c.toNat % 128 * 128 ^ i)
        simp at this ⊢
        omega
def varR (s : ByteArray) (e : Int) : Nat × ByteArray × Int :=
  if e ≠ 0 then (0, s, e) else if (shapeN s.data.toList).2.2 ≠ 0 then (0, s, (shapeN s.data.toList).2.2) else ((shapeN s.data.toList).1, s.extract (shapeN s.data.toList).2.1 s.size, 0)
set_option maxRecDepth 100000 in
set_option maxHeartbeats 1000000 in
theorem reader_varint {w : World} {p : Nat} {s : ByteArray} {e : Int} (h : RdIs w p s e) (hs : s.size ≤ 4611686018427387904) :
    Calls Try.prog 135 #[.pointer (some ⟨p, 0, none⟩)] w (ReadsR w p (.int .u64 ((varR s e).1 : Nat)) (varR s e).2.1 (varR s e).2.2) := by
  have c0 : w.cell? ⟨p, 0, none⟩ = some (.string s) := Blk.cell h 0 _ rfl
  have c1 : w.cell? ⟨p, 1, none⟩ = some (.int .i64 e) := Blk.cell h 1 _ rfl
  have cf := Blk.frozen h
  have pl := Blk.lt h
  have H := Lib.hid h
  clear h
  by_cases he : e = 0
  · subst he
    have hsh := shape_spec s hs w
    have hsz := shp_size s.data.toList 0 0
    obtain ⟨T, hT⟩ : ∃ T, shapeN s.data.toList = T := ⟨_, rfl⟩
    have hT2 : T.2.1 ≤ s.size := by rw [← hT]; show (shp 0 0 s.data.toList).2.1 ≤ s.size; have h1 : s.data.toList.length = s.size := rfl; omega
    rw [hT] at hsh
    have HSH := Lib.hid hsh
    clear hsh hsz
    by_cases hf : T.2.2 = 0
    · have HR := Lib.hid (show varR s 0 = (T.1, s.extract T.2.1 s.size, 0) by unfold varR; rw [if_neg (by simp), hT, if_neg (by simp [hf])])
      have hfq : (T.2.2 == 0) = true := by simpa using hf
      have h3 : (0 : Int) ≤ (T.2.1 : Int) := by omega
      have h4 : (T.2.1 : Int) ≤ (s.size : Int) := by omega
      clear hT
      go_enter Try.func135, Try.ntmps135
      go_wp2_with (go_at_call 149; refine HSH.out.mono ?_; rintro e w1 ⟨rfl, rfl⟩)
      go_ret
      rw [HR.out]
      exact ⟨rfl, Blk.setCell H.out 0 _, only_set 0 _⟩
    · have HR := Lib.hid (show varR s 0 = (0, s, T.2.2) by unfold varR; rw [if_neg (by simp), hT, if_pos hf])
      have hfq : (T.2.2 == 0) = false := by simpa using hf
      clear hT
      go_enter Try.func135, Try.ntmps135
      go_wp2_with (first | (go_at_call 149; refine HSH.out.mono ?_; rintro e w1 ⟨rfl, rfl⟩) | (go_at_call 150; refine (reader_fault H.out _).mono ?_; rintro e w2 ⟨rfl, hr, ho⟩))
      go_ret
      rw [HR.out]
      exact ⟨rfl, hr, ho⟩
  · have HR := Lib.hid (show varR s e = (0, s, e) by unfold varR; rw [if_pos he])
    have heq : (e == 0) = false := by simpa using he
    go_enter Try.func135, Try.ntmps135
    go_wp2_with fail
    go_ret
    rw [HR.out]
    exact ⟨rfl, H.out, Only.refl _ _⟩
end Go.Proofs.Ytbcaiegglbdonaa
