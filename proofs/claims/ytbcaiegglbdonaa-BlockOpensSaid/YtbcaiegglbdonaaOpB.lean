/-
  The reference reads a block.
-/
import Derived.Test.YtbcaiegglbdonaaBack8
import Derived.Test.YtbcaiegglbdonaaBlk8
import Derived.Test.YtbcaiegglbdonaaPlan
import Derived.Laws.Concat
import Derived.Test.YtbcaiegglbdonaaSeek8
import Derived.Test.YtbcaiegglbdonaaMemCells
import Derived.Test.YtbcaiegglbdonaaMemLess
namespace Go.Proofs.Ytbcaiegglbdonaa
open Go

/-! ### What the reference reads -/
def refOne (s ah : ByteArray) : Option (Cell × Nat) :=
  let a := shapeN s.data.toList
  if a.2.2 ≠ 0 ∨ 65536 < a.1 then none
  else
    let b := shapeN (s.extract a.2.1 s.size).data.toList
    if b.2.2 ≠ 0 ∨ 65536 < b.1 then none
    else
      let c := shapeN (s.extract (a.2.1 + b.2.1) s.size).data.toList
      if c.2.2 ≠ 0 ∨ 65536 < c.1 then none
      else
        let t := a.2.1 + b.2.1 + c.2.1
        match s.data.toList[t]? with
        | none => none
        | some g =>
          if 1 < g.toNat ∨ ah.size < a.1 then none
          else
            let q := shapeN (s.extract (t + 1) s.size).data.toList
            let u := t + 1 + q.2.1
            if q.2.2 ≠ 0 ∨ s.size < u + b.1 + c.1 then none
            else some (⟨⟨(ah.extract 0 a.1).data ++ (s.extract u (u + b.1)).data⟩, q.1, s.extract (u + b.1) (u + b.1 + c.1), g.toNat == 1⟩, u + b.1 + c.1)
def refAll : Nat → ByteArray → ByteArray → Option (List Cell)
  | 0, s, _ => if s.size = 0 then some [] else none
  | n + 1, s, ah => if s.size = 0 then some [] else match refOne s ah with
    | none => none
    | some (c, t) => (refAll n (s.extract t s.size) c.key).map (c :: ·)
def refRead (s : ByteArray) : Option (List Cell) := refAll s.size s ⟨#[]⟩
theorem ex_app2 (a b : List UInt8) (i : Nat) (hi : i = a.length) : (⟨(a ++ b).toArray⟩ : ByteArray).extract i (⟨(a ++ b).toArray⟩ : ByteArray).size = ⟨b.toArray⟩ := by
  subst hi
  exact ex_app a b
theorem ex_mid2 (a b c : List UInt8) (i j : Nat) (hi : i = a.length) (hj : j = a.length + b.length) : (⟨(a ++ (b ++ c)).toArray⟩ : ByteArray).extract i j = ⟨b.toArray⟩ := by
  apply ByteArray.ext
  apply Array.ext'
  exact ex_mid a b c i j hi hj
theorem refOne_enc (c : Cell) (ah : ByteArray) (n : Nat) (rest : List UInt8) (hn : n ≤ ah.size) (hk : n ≤ c.key.size) (he : ah.data.toList.take n = c.key.data.toList.take n)
    (hkz : c.key.size ≤ 65536) (hvz : c.val.size ≤ 65536) (hs : 0 ≤ c.seq) (hs2 : c.seq < 18446744073709551616) :
    refOne ⟨(encC n c ++ rest).toArray⟩ ah = some (c, (encC n c).length) := by
  obtain ⟨G, hG⟩ : ∃ G, UInt8.ofNat (if c.gone then 1 else 0) = G := ⟨_, rfl⟩
  have hg : G.toNat = if c.gone then 1 else 0 := by rw [← hG]; cases c.gone <;> rfl
  have hseq : ((c.seq.toNat : Nat) : Int) = c.seq := by omega
  obtain ⟨A, hA⟩ : ∃ A, varN n = A := ⟨_, rfl⟩
  obtain ⟨B, hB⟩ : ∃ B, varN (c.key.size - n) = B := ⟨_, rfl⟩
  obtain ⟨C, hC⟩ : ∃ C, varN c.val.size = C := ⟨_, rfl⟩
  obtain ⟨Q, hQ⟩ : ∃ Q, varN c.seq.toNat = Q := ⟨_, rfl⟩
  obtain ⟨K, hK⟩ : ∃ K, c.key.data.toList.drop n = K := ⟨_, rfl⟩
  obtain ⟨V, hV⟩ : ∃ V, c.val.data.toList = V := ⟨_, rfl⟩
  have k1 : K.length = c.key.size - n := by rw [← hK, List.length_drop]; rfl
  have k2 : V.length = c.val.size := by rw [← hV]; rfl
  have e1 : encC n c = A ++ (B ++ (C ++ ([G] ++ (Q ++ (K ++ V))))) := by rw [← hA, ← hB, ← hC, ← hG, ← hQ, ← hK, ← hV]; rfl
  have e0 : encC n c ++ rest = A ++ (B ++ (C ++ ([G] ++ (Q ++ (K ++ (V ++ rest)))))) := by rw [e1]; simp only [List.append_assoc]
  have s1 : ∀ r, shapeN (A ++ r) = (n, A.length, 0) := fun r => by rw [← hA]; exact shape_varN n r (by omega)
  have s2 : ∀ r, shapeN (B ++ r) = (c.key.size - n, B.length, 0) := fun r => by rw [← hB]; exact shape_varN _ r (by omega)
  have s3 : ∀ r, shapeN (C ++ r) = (c.val.size, C.length, 0) := fun r => by rw [← hC]; exact shape_varN _ r (by omega)
  have s4 : ∀ r, shapeN (Q ++ r) = (c.seq.toNat, Q.length, 0) := fun r => by rw [← hQ]; exact shape_varN _ r (by omega)
  have hlen : (encC n c).length = A.length + B.length + C.length + 1 + Q.length + (c.key.size - n) + c.val.size := by
    rw [e1]; simp only [List.length_append, k1, k2, List.length_singleton]; omega
  have x1 : (⟨(encC n c ++ rest).toArray⟩ : ByteArray).extract A.length (⟨(encC n c ++ rest).toArray⟩ : ByteArray).size = ⟨(B ++ (C ++ ([G] ++ (Q ++ (K ++ (V ++ rest)))))).toArray⟩ := by
    rw [e0]; exact ex_app2 _ _ _ rfl
  have x2 : (⟨(encC n c ++ rest).toArray⟩ : ByteArray).extract (A.length + B.length) (⟨(encC n c ++ rest).toArray⟩ : ByteArray).size = ⟨(C ++ ([G] ++ (Q ++ (K ++ (V ++ rest))))).toArray⟩ := by
    rw [e0, ← List.append_assoc]; exact ex_app2 _ _ _ (by simp)
  have x3 : (⟨(encC n c ++ rest).toArray⟩ : ByteArray).extract (A.length + B.length + C.length + 1) (⟨(encC n c ++ rest).toArray⟩ : ByteArray).size = ⟨(Q ++ (K ++ (V ++ rest))).toArray⟩ := by
    rw [e0, ← List.append_assoc, ← List.append_assoc, ← List.append_assoc]; exact ex_app2 _ _ _ (by simp; omega)
  have x4 : (⟨(encC n c ++ rest).toArray⟩ : ByteArray).data.toList[A.length + B.length + C.length]? = some G := by
    show (encC n c ++ rest)[A.length + B.length + C.length]? = _
    rw [e0, ← List.append_assoc, ← List.append_assoc, List.getElem?_append_right (by simp; omega)]
    simp only [List.length_append, Nat.sub_self]
    rfl
  have x5 : (⟨(encC n c ++ rest).toArray⟩ : ByteArray).extract (A.length + B.length + C.length + 1 + Q.length) (A.length + B.length + C.length + 1 + Q.length + (c.key.size - n)) = ⟨K.toArray⟩ := by
    rw [e0, ← List.append_assoc, ← List.append_assoc, ← List.append_assoc, ← List.append_assoc]
    exact ex_mid2 _ _ _ _ _ (by simp; omega) (by simp [k1]; omega)
  have x6 : (⟨(encC n c ++ rest).toArray⟩ : ByteArray).extract (A.length + B.length + C.length + 1 + Q.length + (c.key.size - n)) (A.length + B.length + C.length + 1 + Q.length + (c.key.size - n) + c.val.size) = ⟨V.toArray⟩ := by
    rw [e0, ← List.append_assoc, ← List.append_assoc, ← List.append_assoc, ← List.append_assoc, ← List.append_assoc]
    exact ex_mid2 _ _ _ _ _ (by simp [k1]; omega) (by simp [k1, k2]; omega)
  have x0 : (⟨(encC n c ++ rest).toArray⟩ : ByteArray).data.toList = A ++ (B ++ (C ++ ([G] ++ (Q ++ (K ++ (V ++ rest)))))) := e0
  have xz : (⟨(encC n c ++ rest).toArray⟩ : ByteArray).size = (encC n c).length + rest.length := by
    show (encC n c ++ rest).length = _
    rw [List.length_append]
  generalize (⟨(encC n c ++ rest).toArray⟩ : ByteArray) = X at x0 x1 x2 x3 x4 x5 x6 xz ⊢
  have s1' := s1 (B ++ (C ++ ([G] ++ (Q ++ (K ++ (V ++ rest))))))
  rw [← x0] at s1'
  unfold refOne
  simp only []
  rw [s1']
  simp only []
  rw [if_neg (by omega), x1]
  simp only []
  rw [s2]
  simp only []
  rw [if_neg (by omega), x2]
  simp only []
  rw [s3]
  simp only []
  rw [if_neg (by omega), x4]
  simp only []
  rw [if_neg (by rw [hg]; split <;> omega), x3]
  simp only []
  rw [s4]
  simp only []
  rw [xz, if_neg (by omega), x5, x6]
  have hkey : (⟨(ah.extract 0 n).data ++ (⟨K.toArray⟩ : ByteArray).data⟩ : ByteArray) = c.key := by
    apply ByteArray.ext
    apply Array.ext'
    rw [ByteArray.data_extract]
    simp only [Array.toList_append, Array.toList_extract]
    rw [List.extract_eq_take_drop]
    simp only [Nat.sub_zero, List.drop_zero]
    rw [he, ← hK, List.take_append_drop]
  rw [hkey, hseq, hg, ← hV, hlen]
  cases c with
  | mk key seq val gone => cases gone <;> rfl
theorem refAll_suf (l : List Cell) (r : Nat) (hf : ∀ c ∈ l, fitC c ∧ c.key.size ≤ 65536 ∧ c.val.size ≤ 65536) : ∀ (d j n : Nat), l.length - j = d → (sufN l r j).length ≤ n → refAll n ⟨(sufN l r j).toArray⟩ (aheadN l j) = some (l.drop j) := by
  intro d
  induction d with
  | zero =>
    intro j n hd hn
    rw [sufN_end l r (by omega), List.drop_eq_nil_of_le (by omega)]
    cases n <;> rfl
  | succ d ih =>
    intro j n hd hn
    obtain ⟨c, hc⟩ : ∃ c, l[j]? = some c := ⟨_, List.getElem?_eq_getElem (by omega)⟩
    obtain ⟨hfc, hkz, hvz⟩ := hf c (List.mem_of_getElem? hc)
    rw [sufN_step hc] at hn ⊢
    have hp := encC_pos (shAt l r j) c
    rw [List.length_append] at hn
    obtain ⟨n, rfl⟩ : ∃ m, n = m + 1 := ⟨n - 1, by omega⟩
    have hkj : keyAt l j = c.key.data.toList := by unfold keyAt; rw [hc]; rfl
    have hz : ¬ (⟨(encC (shAt l r j) c ++ sufN l r (j + 1)).toArray⟩ : ByteArray).size = 0 := by
      show ¬ (encC (shAt l r j) c ++ sufN l r (j + 1)).length = 0
      rw [List.length_append]; omega
    have hsh : shAt l r j ≤ (aheadN l j).size ∧ shAt l r j ≤ c.key.size ∧ (aheadN l j).data.toList.take (shAt l r j) = c.key.data.toList.take (shAt l r j) := by
      unfold shAt
      split
      · exact ⟨Nat.zero_le _, Nat.zero_le _, by simp⟩
      · rename_i h0
        have hj : j ≠ 0 := by rintro rfl; exact h0 (Nat.zero_mod r)
        unfold aheadN
        rw [if_neg hj]
        exact ⟨sharedN_le_left _ _, by rw [hkj]; exact sharedN_le_right _ _, by rw [hkj]; exact sharedN_take _ _⟩
    have h1 := refOne_enc c (aheadN l j) (shAt l r j) (sufN l r (j + 1)) hsh.1 hsh.2.1 hsh.2.2 hkz hvz hfc.2.2.1 hfc.2.2.2
    have hah : aheadN l (j + 1) = c.key := by
      unfold aheadN
      rw [if_neg (by omega)]
      simp only [Nat.add_sub_cancel]
      rw [hkj]
    have h2 := ih (j + 1) n (by omega) (by omega)
    rw [hah] at h2
    unfold refAll
    rw [if_neg hz, h1]
    simp only
    rw [ex_app, h2, Option.map_some]
    congr 1
    obtain ⟨h5, h6⟩ := List.getElem?_eq_some_iff.1 hc
    rw [← h6, List.drop_eq_getElem_cons h5]
theorem refRead_body (l : List Cell) (r : Nat) (hf : ∀ c ∈ l, fitC c ∧ c.key.size ≤ 65536 ∧ c.val.size ≤ 65536) : refRead ⟨(bodyN l r l.length).toArray⟩ = some l := by
  have h := refAll_suf l r hf l.length 0 (bodyN l r l.length).length rfl (by rw [sufN_zero]; exact Nat.le_refl _)
  rw [sufN_zero] at h
  exact h
end Go.Proofs.Ytbcaiegglbdonaa

namespace Go.Proofs.Ytbcaiegglbdonaa
open Go Go.RowKit
set_option linter.unusedSimpArgs false

def valN : List UInt8 → Nat
  | [] => 0
  | c :: l => c.toNat % 128 + 128 * valN l
theorem valN_snoc : ∀ (l : List UInt8) (c : UInt8), valN (l ++ [c]) = valN l + c.toNat % 128 * 128 ^ l.length
  | [], c => by simp [valN]
  | x :: l, c => by
    rw [List.cons_append, valN, valN, valN_snoc l c, List.length_cons, Nat.pow_succ, Nat.mul_add, Nat.mul_left_comm, Nat.mul_comm 128 (128 ^ l.length)]
    omega
theorem valN_lt : ∀ l : List UInt8, valN l < 128 ^ l.length
  | [] => by simp [valN]
  | c :: l => by
    have := valN_lt l
    rw [valN, List.length_cons, Nat.pow_succ]
    omega
theorem valN_top (l : List UInt8) {c : UInt8} (hc : c.toNat ≤ 1) : valN (l ++ [c]) < 2 * 128 ^ l.length := by
  rw [valN_snoc]
  have h1 := valN_lt l
  have h2 : c.toNat % 128 ≤ 1 := by omega
  have h3 : c.toNat % 128 * 128 ^ l.length ≤ 1 * 128 ^ l.length := Nat.mul_le_mul_right _ h2
  omega
/-- What the inner loop holds fits 64 bits. -/
theorem valN_fits {L : List UInt8} {k : Nat} {c : UInt8} (hc : L[k]? = some c) (hk : k ≤ 9) (h9 : k = 9 → c.toNat ≤ 1) (j : Nat) : valN ((L.take (k + 1)).drop j) < 18446744073709551616 := by
  have hlt := (List.getElem?_eq_some_iff.1 hc).1
  have hlen : ((L.take (k + 1)).drop j).length ≤ k + 1 - j := by rw [List.length_drop, List.length_take]; omega
  have hp9 : (128 : Nat) ^ 9 = 9223372036854775808 := by decide
  by_cases h : k = 9
  · have h1 : L.take (k + 1) = L.take k ++ [c] := by rw [List.take_add_one, hc]; rfl
    rw [h1]
    by_cases hj : j ≤ (L.take k).length
    · rw [List.drop_append_of_le_length hj]
      have h2 := valN_top ((L.take k).drop j) (h9 h)
      have h3 : ((L.take k).drop j).length ≤ 9 := by rw [List.length_drop, List.length_take]; omega
      have h4 : (128 : Nat) ^ ((L.take k).drop j).length ≤ 128 ^ 9 := Nat.pow_le_pow_right (by decide) h3
      omega
    · have h2 : (L.take k ++ [c]).drop j = [] := List.drop_eq_nil_of_le (by rw [List.length_append, List.length_singleton]; omega)
      rw [h2]
      decide
  · have h1 := valN_lt ((L.take (k + 1)).drop j)
    have h4 : (128 : Nat) ^ ((L.take (k + 1)).drop j).length ≤ 128 ^ 9 := Nat.pow_le_pow_right (by decide) (by omega)
    omega
def RvOut (w : World) (L : List UInt8) (i : Value) (W : World) : Prop := ∃ k : Nat, k ≤ 9 ∧ k ≤ L.length ∧ i = .int .i64 k ∧ shapeN L = shp k (valN (L.take k)) (L.drop k) ∧ W = w
def RvIn (w : World) (L : List UInt8) (k : Nat) (t i : Value) (W : World) : Prop := ∃ (j : Nat) (x : Int), j ≤ k + 1 ∧ x + 1 = j ∧ i = .int .i64 x ∧ t = .int .u64 (valN ((L.take (k + 1)).drop j) : Nat) ∧ W = w
set_option maxRecDepth 100000 in
set_option maxHeartbeats 2000000 in
theorem ref_readvarint (s : ByteArray) (hs : s.size ≤ 4611686018427387904) (w : World) :
    Calls Try.prog 140 #[.string s] w fun e w' => e = .returned (.tuple #[.int .u64 ((shapeN s.data.toList).1 : Nat), .int .i64 ((shapeN s.data.toList).2.1 : Nat), .int .i64 (shapeN s.data.toList).2.2]) ∧ w' = w := by
  obtain ⟨L, hL⟩ : ∃ L, s.data.toList = L := ⟨_, rfl⟩
  have hsz : L.length = s.size := by rw [← hL]; rfl
  have HSZ := Lib.hid hsz
  have HL := Lib.hid hL
  rw [hL]
  clear hsz hL
  go_enter Try.func140, Try.ntmps140
  go_wp2_with fail
  go_loopw [5] (RvOut w L) (fun i _ => 10 - (intOf i).toNat)
  case atStart => exact ⟨0, by omega, by omega, rfl, rfl, rfl⟩
  case round =>
    obtain ⟨k, hk9, hk, rfl, hsh, rfl⟩ := hrel
    have j9 : (k : Int) < 10 := by omega
    by_cases hlt : k < s.size
    · obtain ⟨c, hc⟩ : ∃ c, L[k]? = some c := ⟨_, List.getElem?_eq_getElem (by rw [HSZ.out]; exact hlt)⟩
      have hd := drop_step hc
      have hsk : s[k].toNat = c.toNat := by
        have h0 : s.data.toList[k]? = some c := by rw [HL.out]; exact hc
        obtain ⟨h3, h4⟩ := List.getElem?_eq_some_iff.1 h0
        rw [← h4]; rfl
      rw [hd, shp] at hsh
      have j0 : (0 : Int) ≤ (k : Int) := by omega
      have j1 : (k : Int) < (s.size : Int) := by omega
      have hct := c.toNat_lt
      have HC := Lib.hid hc
      have HSH := Lib.hid hsh
      clear hc hd hsh
      by_cases h9 : k = 9
      · subst h9
        by_cases hgt : 1 < c.toNat
        · have hr := Lib.hid (show shapeN L = (0, 0, 21) by rw [HSH.out, if_pos ⟨rfl, by rintro rfl; exact absurd hgt (by decide)⟩])
          have hq1 : (1 : Int) < (c.toNat : Int) := by omega
          go_wp2_with fail
          go_ret3
          exact ⟨by rw [hr.out]; rfl, rfl⟩
        · have hq1 : (c.toNat : Int) ≤ 1 := by omega
          have hq2 : (c.toNat : Int) < 128 := by omega
          by_cases h0 : c.toNat = 0
          · have hc0 : c = 0 := UInt8.toNat_inj.1 (by rw [h0]; rfl)
            have hr := Lib.hid (show shapeN L = (0, 0, 21) by rw [HSH.out, if_pos ⟨rfl, by rw [hc0]; decide⟩])
            have hq3 : ((c.toNat : Int) == 0) = true := by simpa using h0
            clear h0 hc0
            go_wp2_with fail
            go_ret3
            exact ⟨by rw [hr.out]; rfl, rfl⟩
          · have hc1 : c = 1 := UInt8.toNat_inj.1 (by show c.toNat = 1; omega)
            have hq3 : ((c.toNat : Int) == 0) = false := by simpa using h0
            have h9c : 9 = 9 → c.toNat ≤ 1 := fun _ => by omega
            have hcz : ¬ (c = 0 ∧ 0 < 9) := by rintro ⟨rfl, _⟩; exact h0 rfl
            have HR := Lib.hid (show shapeN L = (valN (L.take (9 + 1)), 9 + 1, 0) by
              rw [HSH.out, if_neg (by rintro ⟨h, h'⟩; first | exact h' (by assumption) | exact absurd h (by omega) | exact h' hc1), if_pos (by omega), if_neg (by rintro ⟨h, h'⟩; first | omega | (subst h; exact hcz ⟨rfl, h'⟩))]
              have h1 : L.take (9 + 1) = L.take 9 ++ [c] := by rw [List.take_add_one, HC.out]; rfl
              rw [h1, valN_snoc, List.length_take, Nat.min_eq_left hk, Nat.mod_eq_of_lt (by omega)])
            have HF := Lib.hid (fun j => valN_fits HC.out hk9 h9c j)
            clear hct
            go_wp2_with fail
            go_loopw [6, 7] (RvIn wr L 9) (fun _ i _ => (intOf i + 1).toNat)
            case atStart => exact ⟨9 + 1, 9, Nat.le_refl _, rfl, rfl, by rw [List.drop_eq_nil_of_le (by rw [List.length_take]; omega)]; rfl, rfl⟩
            case round =>
              obtain ⟨j, x, hj, hx, rfl, rfl, rfl⟩ := hrel
              by_cases hneg : x < 0
              · obtain rfl : j = 0 := by omega
                go_wp2_with fail
                go_ret3
                exact ⟨by rw [HR.out]; rfl, rfl⟩
              · obtain ⟨y, rfl⟩ : ∃ y : Nat, x = y := ⟨x.toNat, by omega⟩
                obtain rfl : j = y + 1 := by omega
                obtain ⟨d, hd⟩ : ∃ d, L[y]? = some d := ⟨_, List.getElem?_eq_getElem (by have := HSZ.out; omega)⟩
                have hsd : s[y].toNat = d.toNat := by
                  have h0 : s.data.toList[y]? = some d := by rw [HL.out]; exact hd
                  obtain ⟨h3, h4⟩ := List.getElem?_eq_some_iff.1 h0
                  rw [← h4]; rfl
                have g0 : (0 : Int) ≤ (y : Int) := by omega
                have g1 : (y : Int) < (s.size : Int) := by have := HSZ.out; omega
                have hdr : valN ((L.take (9 + 1)).drop y) = d.toNat % 128 + 128 * valN ((L.take (9 + 1)).drop (y + 1)) := by
                  have h1 : (L.take (9 + 1))[y]? = some d := by rw [List.getElem?_take_of_lt (by omega)]; exact hd
                  rw [drop_step h1, valN]
                have hft := HF.out y
                rw [hdr] at hft
                obtain ⟨V, hV⟩ : ∃ V, valN ((L.take (9 + 1)).drop (y + 1)) = V := ⟨_, rfl⟩
                rw [hV] at hft hdr ⊢
                have hdt := d.toNat_lt
                have hmod : (d.toNat : Int).tmod 128 = ((d.toNat % 128 : Nat) : Int) := by rw [Int.tmod_eq_emod_of_nonneg (Int.natCast_nonneg _)]; norm_cast
                obtain ⟨m, hm⟩ : ∃ m, d.toNat % 128 = m := ⟨_, rfl⟩
                have hm1 : m < 128 := by omega
                rw [hm] at hmod hft hdr
                have hfI : (V : Int) * 128 + (m : Int) < 18446744073709551616 := by omega
                have hw5 : IntKind.u64.wrap ((V : Int) * 128) = (V : Int) * 128 := by rw [IntKind.wrap_u64]; omega
                have hw6 : IntKind.u64.wrap ((V : Int) * 128 + (m : Int)) = (V : Int) * 128 + (m : Int) := by rw [IntKind.wrap_u64]; omega
                have HDR := Lib.hid hdr
                clear hd hdr hV hm
                go_wp2_with fail
                go_roundw
                case rel => exact ⟨y, (y : Int) - 1, by omega, by omega, by go_num, by rw [HDR.out]; congr 1; omega, rfl⟩
                case measure => simp [intOf] <;> omega
      · have h9q : ((k : Int) == 9) = false := by simp; omega
        have hk8 : k ≤ 8 := by omega
        by_cases hbig : 128 ≤ c.toNat
        · have hr := Lib.hid (show shapeN L = shp (k + 1) (valN (L.take (k + 1))) (L.drop (k + 1)) by
            rw [HSH.out, if_neg (by rintro ⟨h, _⟩; exact h9 h), if_neg (by omega)]
            have h1 : L.take (k + 1) = L.take k ++ [c] := by rw [List.take_add_one, HC.out]; rfl
            rw [h1, valN_snoc, List.length_take, Nat.min_eq_left hk])
          have hq1 : (128 : Int) ≤ (c.toNat : Int) := by omega
          go_wp2_with fail
          go_roundw
          case rel => exact ⟨k + 1, by omega, by have := HSZ.out; omega, by go_num, hr.out, rfl⟩
          case measure => simp [intOf]; omega
        · have hq2 : (c.toNat : Int) < 128 := by omega
          have h9c : k = 9 → c.toNat ≤ 1 := fun h => absurd h h9
          have hc1 : ¬ (k = 9 ∧ c ≠ 1) := by rintro ⟨h, _⟩; exact h9 h
          by_cases h0 : c.toNat = 0
          · have hc0 : c = 0 := UInt8.toNat_inj.1 (by rw [h0]; rfl)
            have hq3 : ((c.toNat : Int) == 0) = true := by simpa using h0
            by_cases hk0 : 0 < k
            · have hr := Lib.hid (show shapeN L = (0, 0, 21) by rw [HSH.out, if_neg (by rintro ⟨h, _⟩; exact h9 h), if_pos (by omega), if_pos ⟨hc0, hk0⟩])
              have hq4 : (0 : Int) < (k : Int) := by omega
              clear h0 hc0
              go_wp2_with fail
              go_ret3
              exact ⟨by rw [hr.out]; rfl, rfl⟩
            · have hq4 : (k : Int) ≤ 0 := by omega
              have hcz : ¬ (c = 0 ∧ 0 < k) := by omega
              clear hc0
              have HR := Lib.hid (show shapeN L = (valN (L.take (k + 1)), k + 1, 0) by
                rw [HSH.out, if_neg (by rintro ⟨h, h'⟩; first | exact h' (by assumption) | exact absurd h (by omega) | exact h' hc1), if_pos (by omega), if_neg (by rintro ⟨h, h'⟩; first | omega | (subst h; exact hcz ⟨rfl, h'⟩))]
                have h1 : L.take (k + 1) = L.take k ++ [c] := by rw [List.take_add_one, HC.out]; rfl
                rw [h1, valN_snoc, List.length_take, Nat.min_eq_left hk, Nat.mod_eq_of_lt (by omega)])
              have HF := Lib.hid (fun j => valN_fits HC.out hk9 h9c j)
              clear hct
              go_wp2_with fail
              go_loopw [6, 7] (RvIn wr L k) (fun _ i _ => (intOf i + 1).toNat)
              case atStart => exact ⟨k + 1, k, Nat.le_refl _, rfl, rfl, by rw [List.drop_eq_nil_of_le (by rw [List.length_take]; omega)]; rfl, rfl⟩
              case round =>
                obtain ⟨j, x, hj, hx, rfl, rfl, rfl⟩ := hrel
                by_cases hneg : x < 0
                · obtain rfl : j = 0 := by omega
                  go_wp2_with fail
                  go_ret3
                  exact ⟨by rw [HR.out]; rfl, rfl⟩
                · obtain ⟨y, rfl⟩ : ∃ y : Nat, x = y := ⟨x.toNat, by omega⟩
                  obtain rfl : j = y + 1 := by omega
                  obtain ⟨d, hd⟩ : ∃ d, L[y]? = some d := ⟨_, List.getElem?_eq_getElem (by have := HSZ.out; omega)⟩
                  have hsd : s[y].toNat = d.toNat := by
                    have h0 : s.data.toList[y]? = some d := by rw [HL.out]; exact hd
                    obtain ⟨h3, h4⟩ := List.getElem?_eq_some_iff.1 h0
                    rw [← h4]; rfl
                  have g0 : (0 : Int) ≤ (y : Int) := by omega
                  have g1 : (y : Int) < (s.size : Int) := by have := HSZ.out; omega
                  have hdr : valN ((L.take (k + 1)).drop y) = d.toNat % 128 + 128 * valN ((L.take (k + 1)).drop (y + 1)) := by
                    have h1 : (L.take (k + 1))[y]? = some d := by rw [List.getElem?_take_of_lt (by omega)]; exact hd
                    rw [drop_step h1, valN]
                  have hft := HF.out y
                  rw [hdr] at hft
                  obtain ⟨V, hV⟩ : ∃ V, valN ((L.take (k + 1)).drop (y + 1)) = V := ⟨_, rfl⟩
                  rw [hV] at hft hdr ⊢
                  have hdt := d.toNat_lt
                  have hmod : (d.toNat : Int).tmod 128 = ((d.toNat % 128 : Nat) : Int) := by rw [Int.tmod_eq_emod_of_nonneg (Int.natCast_nonneg _)]; norm_cast
                  obtain ⟨m, hm⟩ : ∃ m, d.toNat % 128 = m := ⟨_, rfl⟩
                  have hm1 : m < 128 := by omega
                  rw [hm] at hmod hft hdr
                  have hfI : (V : Int) * 128 + (m : Int) < 18446744073709551616 := by omega
                  have hw5 : IntKind.u64.wrap ((V : Int) * 128) = (V : Int) * 128 := by rw [IntKind.wrap_u64]; omega
                  have hw6 : IntKind.u64.wrap ((V : Int) * 128 + (m : Int)) = (V : Int) * 128 + (m : Int) := by rw [IntKind.wrap_u64]; omega
                  have HDR := Lib.hid hdr
                  clear hd hdr hV hm
                  go_wp2_with fail
                  go_roundw
                  case rel => exact ⟨y, (y : Int) - 1, by omega, by omega, by go_num, by rw [HDR.out]; congr 1; omega, rfl⟩
                  case measure => simp [intOf] <;> omega
          · have hq3 : ((c.toNat : Int) == 0) = false := by simpa using h0
            have hcz : ¬ (c = 0 ∧ 0 < k) := by rintro ⟨rfl, _⟩; exact h0 rfl
            have HR := Lib.hid (show shapeN L = (valN (L.take (k + 1)), k + 1, 0) by
              rw [HSH.out, if_neg (by rintro ⟨h, h'⟩; first | exact h' (by assumption) | exact absurd h (by omega) | exact h' hc1), if_pos (by omega), if_neg (by rintro ⟨h, h'⟩; first | omega | (subst h; exact hcz ⟨rfl, h'⟩))]
              have h1 : L.take (k + 1) = L.take k ++ [c] := by rw [List.take_add_one, HC.out]; rfl
              rw [h1, valN_snoc, List.length_take, Nat.min_eq_left hk, Nat.mod_eq_of_lt (by omega)])
            have HF := Lib.hid (fun j => valN_fits HC.out hk9 h9c j)
            clear hct
            go_wp2_with fail
            go_loopw [6, 7] (RvIn wr L k) (fun _ i _ => (intOf i + 1).toNat)
            case atStart => exact ⟨k + 1, k, Nat.le_refl _, rfl, rfl, by rw [List.drop_eq_nil_of_le (by rw [List.length_take]; omega)]; rfl, rfl⟩
            case round =>
              obtain ⟨j, x, hj, hx, rfl, rfl, rfl⟩ := hrel
              by_cases hneg : x < 0
              · obtain rfl : j = 0 := by omega
                go_wp2_with fail
                go_ret3
                exact ⟨by rw [HR.out]; rfl, rfl⟩
              · obtain ⟨y, rfl⟩ : ∃ y : Nat, x = y := ⟨x.toNat, by omega⟩
                obtain rfl : j = y + 1 := by omega
                obtain ⟨d, hd⟩ : ∃ d, L[y]? = some d := ⟨_, List.getElem?_eq_getElem (by have := HSZ.out; omega)⟩
                have hsd : s[y].toNat = d.toNat := by
                  have h0 : s.data.toList[y]? = some d := by rw [HL.out]; exact hd
                  obtain ⟨h3, h4⟩ := List.getElem?_eq_some_iff.1 h0
                  rw [← h4]; rfl
                have g0 : (0 : Int) ≤ (y : Int) := by omega
                have g1 : (y : Int) < (s.size : Int) := by have := HSZ.out; omega
                have hdr : valN ((L.take (k + 1)).drop y) = d.toNat % 128 + 128 * valN ((L.take (k + 1)).drop (y + 1)) := by
                  have h1 : (L.take (k + 1))[y]? = some d := by rw [List.getElem?_take_of_lt (by omega)]; exact hd
                  rw [drop_step h1, valN]
                have hft := HF.out y
                rw [hdr] at hft
                obtain ⟨V, hV⟩ : ∃ V, valN ((L.take (k + 1)).drop (y + 1)) = V := ⟨_, rfl⟩
                rw [hV] at hft hdr ⊢
                have hdt := d.toNat_lt
                have hmod : (d.toNat : Int).tmod 128 = ((d.toNat % 128 : Nat) : Int) := by rw [Int.tmod_eq_emod_of_nonneg (Int.natCast_nonneg _)]; norm_cast
                obtain ⟨m, hm⟩ : ∃ m, d.toNat % 128 = m := ⟨_, rfl⟩
                have hm1 : m < 128 := by omega
                rw [hm] at hmod hft hdr
                have hfI : (V : Int) * 128 + (m : Int) < 18446744073709551616 := by omega
                have hw5 : IntKind.u64.wrap ((V : Int) * 128) = (V : Int) * 128 := by rw [IntKind.wrap_u64]; omega
                have hw6 : IntKind.u64.wrap ((V : Int) * 128 + (m : Int)) = (V : Int) * 128 + (m : Int) := by rw [IntKind.wrap_u64]; omega
                have HDR := Lib.hid hdr
                clear hd hdr hV hm
                go_wp2_with fail
                go_roundw
                case rel => exact ⟨y, (y : Int) - 1, by omega, by omega, by go_num, by rw [HDR.out]; congr 1; omega, rfl⟩
                case measure => simp [intOf] <;> omega
    · have hks : k = L.length := by have := HSZ.out; omega
      have hr := Lib.hid (show shapeN L = (0, 0, 20) by rw [hsh, hks, List.drop_length]; rfl)
      have hge : (s.size : Int) ≤ (k : Int) := by omega
      clear hks hsh
      go_wp2_with fail
      go_ret3
      exact ⟨by rw [hr.out]; rfl, rfl⟩
def RnRel (w : World) (L : List UInt8) (t i : Value) (W : World) : Prop := ∃ k : Nat, k ≤ L.length ∧ i = .int .i64 k ∧ t = .int .u64 (numN (L.take k) : Nat) ∧ W = w
set_option maxRecDepth 100000 in
set_option maxHeartbeats 2000000 in
theorem ref_numread (s : ByteArray) (hs : s.size ≤ 4) (w : World) : Calls Try.prog 104 #[.string s] w fun e w' => e = .returned (.int .u64 (numN s.data.toList : Nat)) ∧ w' = w := by
  obtain ⟨L, hL⟩ : ∃ L, s.data.toList = L := ⟨_, rfl⟩
  have hsz : L.length = s.size := by rw [← hL]; rfl
  have HSZ := Lib.hid hsz
  have HL := Lib.hid hL
  rw [hL]
  clear hsz hL
  go_enter Try.func104, Try.ntmps104
  go_wp2_with fail
  go_loopw [3, 4] (RnRel w L) (fun _ i _ => L.length - (intOf i).toNat)
  case atStart => exact ⟨0, by omega, rfl, rfl, rfl⟩
  case round =>
    obtain ⟨k, hk, rfl, rfl, rfl⟩ := hrel
    by_cases hlt : k < s.size
    · obtain ⟨c, hc⟩ : ∃ c, L[k]? = some c := ⟨_, List.getElem?_eq_getElem (by rw [HSZ.out]; exact hlt)⟩
      have hsk : s[k].toNat = c.toNat := by
        have h0 : s.data.toList[k]? = some c := by rw [HL.out]; exact hc
        obtain ⟨h3, h4⟩ := List.getElem?_eq_some_iff.1 h0
        rw [← h4]; rfl
      have j0 : (0 : Int) ≤ (k : Int) := by omega
      have j1 : (k : Int) < (s.size : Int) := by omega
      have hct := c.toNat_lt
      have hn : numN (L.take k) < 16777216 := by
        have h1 := numN_lt (L.take k)
        have h2 : (256 : Nat) ^ (L.take k).length ≤ 256 ^ 3 := Nat.pow_le_pow_right (by decide) (by rw [List.length_take]; omega)
        have h3 : (256 : Nat) ^ 3 = 16777216 := by decide
        omega
      have hsn : numN (L.take (k + 1)) = numN (L.take k) * 256 + c.toNat := by rw [List.take_add_one, hc]; exact numN_snoc _ _
      obtain ⟨V, hV⟩ : ∃ V, numN (L.take k) = V := ⟨_, rfl⟩
      rw [hV] at hn hsn ⊢
      have HSN := Lib.hid hsn
      have hw5 : IntKind.u64.wrap ((V : Int) * 256) = (V : Int) * 256 := by rw [IntKind.wrap_u64]; omega
      have hw6 : IntKind.u64.wrap ((V : Int) * 256 + (c.toNat : Int)) = (V : Int) * 256 + (c.toNat : Int) := by rw [IntKind.wrap_u64]; omega
      clear hc hsn hV
      go_wp2_with fail
      go_roundw
      case rel => exact ⟨k + 1, by have := HSZ.out; omega, by go_num, by rw [HSN.out]; norm_cast, rfl⟩
      case measure => have := HSZ.out; simp [intOf] <;> omega
    · have hks : L.take k = L := List.take_of_length_le (by have := HSZ.out; omega)
      have hge : (s.size : Int) ≤ (k : Int) := by omega
      rw [hks]
      clear hks
      go_wp2_with fail
      go_ret
      exact ⟨rfl, rfl⟩
end Go.Proofs.Ytbcaiegglbdonaa

namespace Go.Proofs.Ytbcaiegglbdonaa
open Go Go.RowKit
set_option linter.unusedSimpArgs false

def roAt (s : ByteArray) : Nat → Nat
  | 0 => 0
  | i + 1 => roAt s i + (shapeN (s.extract (roAt s i) s.size).data.toList).2.1
def roV (s : ByteArray) (i : Nat) : Nat := (shapeN (s.extract (roAt s i) s.size).data.toList).1
def roE (s : ByteArray) (i : Nat) : Int := (shapeN (s.extract (roAt s i) s.size).data.toList).2.2
def roOk (s : ByteArray) (i : Nat) : Prop := ¬ (roE s i ≠ 0 ∨ 65536 < roV s i)
theorem roAt_le (s : ByteArray) : ∀ i, roAt s i ≤ s.size
  | 0 => Nat.zero_le _
  | i + 1 => by
    have h1 := roAt_le s i
    have h2 := shp_size (s.extract (roAt s i) s.size).data.toList 0 0
    have h3 : (s.extract (roAt s i) s.size).data.toList.length = (s.extract (roAt s i) s.size).size := rfl
    rw [h3, ByteArray.size_extract] at h2
    unfold roAt
    show roAt s i + (shp 0 0 (s.extract (roAt s i) s.size).data.toList).2.1 ≤ _
    omega
theorem ex_zero (s : ByteArray) : s.extract 0 s.size = s := by
  apply ByteArray.ext
  rw [ByteArray.data_extract]
  show s.data.extract 0 s.data.size = s.data
  simp
theorem roAt_succ (s : ByteArray) (i : Nat) : roAt s (i + 1) = roAt s i + (shapeN (s.extract (roAt s i) s.size).data.toList).2.1 := rfl
theorem roAt_one (s : ByteArray) : roAt s 1 = (shapeN s.data.toList).2.1 := by
  rw [roAt_succ]
  show 0 + (shapeN (s.extract 0 s.size).data.toList).2.1 = _
  rw [ex_zero, Nat.zero_add]
theorem roAt_two (s : ByteArray) : roAt s 2 = (shapeN s.data.toList).2.1 + (shapeN (s.extract (shapeN s.data.toList).2.1 s.size).data.toList).2.1 := by
  rw [roAt_succ, roAt_one]
theorem roAt_three (s : ByteArray) : roAt s 3 = (shapeN s.data.toList).2.1 + (shapeN (s.extract (shapeN s.data.toList).2.1 s.size).data.toList).2.1 + (shapeN (s.extract ((shapeN s.data.toList).2.1 + (shapeN (s.extract (shapeN s.data.toList).2.1 s.size).data.toList).2.1) s.size).data.toList).2.1 := by
  rw [roAt_succ, roAt_two]
theorem ro_zero (s : ByteArray) : shapeN (s.extract (roAt s 0) s.size).data.toList = shapeN s.data.toList := by
  show shapeN (s.extract 0 s.size).data.toList = _
  rw [ex_zero]
theorem refOne_bad {s ah : ByteArray} {j : Nat} (hj : j < 3) (hb : ¬ roOk s j) : refOne s ah = none := by
  unfold roOk at hb
  have hb' : roE s j ≠ 0 ∨ 65536 < roV s j := Classical.not_not.1 hb
  unfold refOne
  simp only []
  have e0 := (ro_zero s).symm
  have e1 := roAt_one s
  have e2 := roAt_two s
  rcases (by omega : j = 0 ∨ j = 1 ∨ j = 2) with rfl | rfl | rfl
  · unfold roE roV at hb'
    rw [← e0] at hb'
    rw [if_pos hb']
  · unfold roE roV at hb'
    rw [e1] at hb'
    by_cases h0 : (shapeN s.data.toList).2.2 ≠ 0 ∨ 65536 < (shapeN s.data.toList).1
    · rw [if_pos h0]
    · rw [if_neg h0, if_pos hb']
  · unfold roE roV at hb'
    rw [e2] at hb'
    by_cases h0 : (shapeN s.data.toList).2.2 ≠ 0 ∨ 65536 < (shapeN s.data.toList).1
    · rw [if_pos h0]
    · rw [if_neg h0]
      by_cases h1 : (shapeN (s.extract (shapeN s.data.toList).2.1 s.size).data.toList).2.2 ≠ 0 ∨ 65536 < (shapeN (s.extract (shapeN s.data.toList).2.1 s.size).data.toList).1
      · rw [if_pos h1]
      · rw [if_neg h1, if_pos hb']
theorem refOne_eq {s ah : ByteArray} (h : ∀ j, j < 3 → roOk s j) {T v0 v1 v2 : Nat} (hT : roAt s 3 = T) (h0 : roV s 0 = v0) (h1 : roV s 1 = v1) (h2 : roV s 2 = v2) : refOne s ah = match s.data.toList[T]? with
    | none => none
    | some g =>
      if 1 < g.toNat ∨ ah.size < v0 then none
      else if (shapeN (s.extract (T + 1) s.size).data.toList).2.2 ≠ 0 ∨ s.size < T + 1 + (shapeN (s.extract (T + 1) s.size).data.toList).2.1 + v1 + v2 then none
      else some (⟨⟨(ah.extract 0 v0).data ++ (s.extract (T + 1 + (shapeN (s.extract (T + 1) s.size).data.toList).2.1) (T + 1 + (shapeN (s.extract (T + 1) s.size).data.toList).2.1 + v1)).data⟩, (shapeN (s.extract (T + 1) s.size).data.toList).1,
          s.extract (T + 1 + (shapeN (s.extract (T + 1) s.size).data.toList).2.1 + v1) (T + 1 + (shapeN (s.extract (T + 1) s.size).data.toList).2.1 + v1 + v2), g.toNat == 1⟩, T + 1 + (shapeN (s.extract (T + 1) s.size).data.toList).2.1 + v1 + v2) := by
  have e0 := (ro_zero s).symm
  have e1 := roAt_one s
  have e2 := roAt_two s
  have e3 := hT.symm.trans (roAt_three s)
  have k0 := h 0 (by omega)
  have k1 := h 1 (by omega)
  have k2 := h 2 (by omega)
  unfold roOk roE roV at k0 k1 k2
  unfold roV at h0 h1 h2
  rw [← e0] at k0 h0
  rw [e1] at k1 h1
  rw [e2] at k2 h2
  unfold refOne
  simp only []
  rw [if_neg k0, if_neg k1, if_neg k2, ← e3, h0, h1, h2] <;> (cases s.data.toList[T]? <;> rfl)
/-- What one leaves. -/
def OnePost (w : World) (r : Option (Cell × Nat)) (e : Ending) (w' : World) : Prop :=
  Below w.heap.size w w' ∧ e = .returned (.tuple #[cellW (r.map (·.1) |>.getD Cell.zero), .int .i64 (r.map (·.2) |>.getD 0 : Nat)])
def zv (s : ByteArray) (i j : Nat) : Value := .int .u64 ((if j < i then roV s j else 0 : Nat) : Int)
theorem one_none {w w' : World} {r : Option (Cell × Nat)} (h : r = none) (hb : Below w.heap.size w w') : OnePost w r (.returned (.tuple #[cellW Cell.zero, .int .i64 0])) w' := by
  subst h
  exact ⟨hb, rfl⟩
theorem zv_step {s : ByteArray} {k : Nat} (hk : k < 3) : (#[zv s k 0, zv s k 1, zv s k 2] : Array Value).setIfInBounds k (.int .u64 (roV s k : Nat)) = #[zv s (k + 1) 0, zv s (k + 1) 1, zv s (k + 1) 2] := by
  rcases (by omega : k = 0 ∨ k = 1 ∨ k = 2) with rfl | rfl | rfl <;> simp [zv]
def OneRel (w : World) (s : ByteArray) (a i : Value) (W : World) : Prop :=
  ∃ k : Nat, k ≤ 3 ∧ i = .int .i64 k ∧ a = .int .i64 (roAt s k) ∧ (∀ j, j < k → roOk s j) ∧ Blk W w.heap.size #[.string ⟨#[]⟩, .int .u64 0, .string ⟨#[]⟩, .bool false] 25 ∧ Blk W (w.heap.size + 1) #[zv s k 0, zv s k 1, zv s k 2] 175 ∧ Below w.heap.size w W
set_option maxRecDepth 100000 in
set_option maxHeartbeats 4000000 in
theorem ref_one (s ah : ByteArray) (hs : s.size ≤ 65536) (hah : ah.size ≤ 65536) (w : World) : Calls Try.prog 105 #[.string s, .string ah] w (OnePost w (refOne s ah)) := by
  go_enter Try.func105, Try.ntmps105
  go_wp2_with fail
  go_loopw [7, 17] (OneRel w s) (fun _ i _ => 3 - (intOf i).toNat)
  case atStart => exact ⟨0, by omega, rfl, rfl, fun j hj => by omega, (Blk.new w _ _).alloc _, Blk.new' _ _ _ (by simp), ((Below.refl _ _).alloc (Nat.le_refl _) _).alloc (by simp) _⟩
  case round =>
    obtain ⟨k, hk, rfl, rfl, hok, hZ, hA, hb⟩ := hrel
    have f0 := hZ.frozen
    have f1 := hZ.lt
    obtain ⟨z0, z1, z2, z3⟩ := cell4 hZ
    by_cases hlt : k < 3
    · have hle := roAt_le s k
      have j0 : (k : Int) < 3 := by omega
      have j1 : (roAt s k : Int) ≤ (s.size : Int) := by omega
      have hRV := ref_readvarint (s.extract (roAt s k) s.size) (by have := ex_size_le s (roAt s k) s.size; omega) wr
      have hnx := roAt_succ s k
      have hnl := roAt_le s (k + 1)
      obtain ⟨q, hq⟩ : ∃ q, shapeN (s.extract (roAt s k) s.size).data.toList = q := ⟨_, rfl⟩
      rw [hq] at hRV hnx
      have hV : roV s k = q.1 := by unfold roV; rw [hq]
      have hE : roE s k = q.2.2 := by unfold roE; rw [hq]
      obtain ⟨v, n, er⟩ := q
      dsimp only at hRV hnx hV hE
      obtain ⟨P, hP⟩ : ∃ P, roAt s k = P := ⟨_, rfl⟩
      rw [hP] at hRV hnx j1 hle ⊢
      have HRV := Lib.hid hRV
      have HOK := Lib.hid hok
      have HNX := Lib.hid hnx
      have HV := Lib.hid hV
      have HEQ := Lib.hid hE
      clear hRV hok hnx hV hE hq hP
      have hA0 := hA.frozen
      have hA1 := hA.lt
      have ck : wr.cell? ⟨w.heap.size + 1, k, none⟩ = some (zv s k k) := by
        rcases (by omega : k = 0 ∨ k = 1 ∨ k = 2) with rfl | rfl | rfl
        · exact hA.cell 0 _ rfl
        · exact hA.cell 1 _ rfl
        · exact hA.cell 2 _ rfl
      have jk : (0 : Int) ≤ (k : Int) := by omega
      have hnI : (P : Int) + (n : Int) ≤ 65536 := by have := HNX.out; omega
      by_cases he : er = 0
      · subst he
        by_cases hv : 65536 < v
        · have HN := Lib.hid (refOne_bad (s := s) (ah := ah) hlt (by unfold roOk; rw [HEQ.out, HV.out]; omega))
          have hvI : (65536 : Int) < (v : Int) := by omega
          go_wp2_with (go_at_call 140; refine HRV.out.mono ?_; rintro e w' ⟨rfl, rfl⟩)
          refine bodyPost_ret (v := .tuple #[cellW Cell.zero, .int .i64 0]) ?_ rfl (one_none HN.out (Below.set4 hb (Nat.le_refl _) 0 1 2 3 _ _ _ _))
          have hZ2 := (((hZ.setCell 0 (.string ⟨#[]⟩)).setCell 1 (.int .u64 0)).setCell 2 (.string ⟨#[]⟩)).setCell 3 (.bool false)
          obtain ⟨r0, r1, r2, r3⟩ := cell4 (v0 := .string ⟨#[]⟩) (v1 := .int .u64 0) (v2 := .string ⟨#[]⟩) (v3 := .bool false) hZ2
          simp [results, Try.results105, go_sem, cellW, Cell.zero, r0, r1, r2, r3]; rfl
        · have hvI : (v : Int) ≤ 65536 := by omega
          go_wp2_with (go_at_call 140; refine HRV.out.mono ?_; rintro e w' ⟨rfl, rfl⟩)
          go_roundw
          case rel =>
            refine ⟨k + 1, by omega, by go_num, by rw [HNX.out]; norm_cast, fun j hj => ?_, hZ.setCell_ne (by omega) k _, ?_, hb.setCell (by show _ ≤ w.heap.size + 1; omega) _⟩
            · by_cases hjk : j = k
              · subst hjk; unfold roOk; rw [HEQ.out, HV.out]; omega
              · exact HOK.out j (by omega)
            · have := hA.setCell k (.int .u64 (v : Nat))
              rw [← HV.out, zv_step hlt] at this
              rw [← HV.out]
              exact this
          case measure => simp [intOf] <;> omega
      · have HN := Lib.hid (refOne_bad (s := s) (ah := ah) hlt (by unfold roOk; rw [HEQ.out, HV.out]; exact fun h => h (.inl he)))
        have heq : (er == 0) = false := by simpa using he
        go_wp2_with (go_at_call 140; refine HRV.out.mono ?_; rintro e w' ⟨rfl, rfl⟩)
        refine bodyPost_ret (v := .tuple #[cellW Cell.zero, .int .i64 0]) ?_ rfl (one_none HN.out (Below.set4 hb (Nat.le_refl _) 0 1 2 3 _ _ _ _))
        have hZ2 := (((hZ.setCell 0 (.string ⟨#[]⟩)).setCell 1 (.int .u64 0)).setCell 2 (.string ⟨#[]⟩)).setCell 3 (.bool false)
        obtain ⟨r0, r1, r2, r3⟩ := cell4 (v0 := .string ⟨#[]⟩) (v1 := .int .u64 0) (v2 := .string ⟨#[]⟩) (v3 := .bool false) hZ2
        simp [results, Try.results105, go_sem, cellW, Cell.zero, r0, r1, r2, r3]; rfl
    · obtain rfl : k = 3 := by omega
      have hTle := roAt_le s 3
      obtain ⟨T, hT⟩ : ∃ T, roAt s 3 = T := ⟨_, rfl⟩
      obtain ⟨v0, hv0⟩ : ∃ v, roV s 0 = v := ⟨_, rfl⟩
      obtain ⟨v1, hv1⟩ : ∃ v, roV s 1 = v := ⟨_, rfl⟩
      obtain ⟨v2, hv2⟩ : ∃ v, roV s 2 = v := ⟨_, rfl⟩
      have hE := refOne_eq (ah := ah) hok hT hv0 hv1 hv2
      have b0 : v0 ≤ 65536 := by have := hok 0 (by omega); unfold roOk at this; rw [hv0] at this; omega
      have b1 : v1 ≤ 65536 := by have := hok 1 (by omega); unfold roOk at this; rw [hv1] at this; omega
      have b2 : v2 ≤ 65536 := by have := hok 2 (by omega); unfold roOk at this; rw [hv2] at this; omega
      have hA2 : Blk wr (w.heap.size + 1) #[.int .u64 (v0 : Nat), .int .u64 (v1 : Nat), .int .u64 (v2 : Nat)] 175 := by
        have e : (#[zv s 3 0, zv s 3 1, zv s 3 2] : Array Value) = #[.int .u64 (v0 : Nat), .int .u64 (v1 : Nat), .int .u64 (v2 : Nat)] := by
          simp [zv, hv0, hv1, hv2]
        rw [e] at hA
        exact hA
      rw [hT] at hTle ⊢
      have y0 : wr.cell? ⟨w.heap.size + 1, 0, none⟩ = some (.int .u64 (v0 : Nat)) := hA2.cell 0 _ rfl
      have y1 : wr.cell? ⟨w.heap.size + 1, 1, none⟩ = some (.int .u64 (v1 : Nat)) := hA2.cell 1 _ rfl
      have y2 : wr.cell? ⟨w.heap.size + 1, 2, none⟩ = some (.int .u64 (v2 : Nat)) := hA2.cell 2 _ rfl
      have yl := hA2.lt
      have w0 : IntKind.i64.wrap (v0 : Int) = v0 := IntWalk.i64_in _ (by omega)
      have w1 : IntKind.i64.wrap (v1 : Int) = v1 := IntWalk.i64_in _ (by omega)
      have w2 : IntKind.i64.wrap (v2 : Int) = v2 := IntWalk.i64_in _ (by omega)
      have HE := Lib.hid hE
      clear hE hok hA hT hv0 hv1 hv2
      by_cases hTs : T < s.size
      · obtain ⟨g, hg⟩ : ∃ g, s.data.toList[T]? = some g := ⟨_, List.getElem?_eq_getElem hTs⟩
        have hsg : s[T].toNat = g.toNat := by
          obtain ⟨h3, h4⟩ := List.getElem?_eq_some_iff.1 hg
          rw [← h4]; rfl
        have HG := Lib.hid (HE.out.trans (by rw [hg]))
        have j0 : (0 : Int) ≤ (T : Int) := by omega
        have j1 : (T : Int) < (s.size : Int) := by omega
        have hgt := g.toNat_lt
        clear hg
        by_cases hg1 : 1 < g.toNat
        · have HN := Lib.hid (HG.out.trans (by simp only []; rw [if_pos (.inl hg1)]))
          have hgI : (1 : Int) < (g.toNat : Int) := by omega
          go_wp2_with fail
          refine bodyPost_ret (v := .tuple #[cellW Cell.zero, .int .i64 0]) ?_ rfl (one_none HN.out (Below.set4 hb (Nat.le_refl _) 0 1 2 3 _ _ _ _))
          have hZ2 := (((hZ.setCell 0 (.string ⟨#[]⟩)).setCell 1 (.int .u64 0)).setCell 2 (.string ⟨#[]⟩)).setCell 3 (.bool false)
          obtain ⟨r0, r1, r2, r3⟩ := cell4 (v0 := .string ⟨#[]⟩) (v1 := .int .u64 0) (v2 := .string ⟨#[]⟩) (v3 := .bool false) hZ2
          simp [results, Try.results105, go_sem, cellW, Cell.zero, r0, r1, r2, r3]; rfl
        have hgI : (g.toNat : Int) ≤ 1 := by omega
        by_cases hav : ah.size < v0
        · have HN := Lib.hid (HG.out.trans (by simp only []; rw [if_pos (.inr hav)]))
          have havI : (ah.size : Int) < (v0 : Int) := by omega
          go_wp2_with fail
          refine bodyPost_ret (v := .tuple #[cellW Cell.zero, .int .i64 0]) ?_ rfl (one_none HN.out (Below.set4 hb (Nat.le_refl _) 0 1 2 3 _ _ _ _))
          have hZ2 := (((hZ.setCell 0 (.string ⟨#[]⟩)).setCell 1 (.int .u64 0)).setCell 2 (.string ⟨#[]⟩)).setCell 3 (.bool false)
          obtain ⟨r0, r1, r2, r3⟩ := cell4 (v0 := .string ⟨#[]⟩) (v1 := .int .u64 0) (v2 := .string ⟨#[]⟩) (v3 := .bool false) hZ2
          simp [results, Try.results105, go_sem, cellW, Cell.zero, r0, r1, r2, r3]; rfl
        have havI : (v0 : Int) ≤ (ah.size : Int) := by omega
        have hgb : ((g.toNat : Int) == 1) = (g.toNat == 1) := by rw [Bool.eq_iff_iff]; simp; omega
        obtain ⟨T1, hT1⟩ : ∃ T1, T1 = T + 1 := ⟨_, rfl⟩
        have hT1I : (T : Int) + 1 = (T1 : Int) := by omega
        have hT1s : (T1 : Int) ≤ (s.size : Int) := by omega
        have hRV := ref_readvarint (s.extract T1 s.size) (by have := ex_size_le s T1 s.size; omega) wr
        have hq2 : (shapeN (s.extract T1 s.size).data.toList).2.1 ≤ s.size - T1 := by
          have h2 := shp_size (s.extract T1 s.size).data.toList 0 0
          have h3 : (s.extract T1 s.size).data.toList.length = (s.extract T1 s.size).size := rfl
          rw [h3, ByteArray.size_extract] at h2
          show (shp 0 0 (s.extract T1 s.size).data.toList).2.1 ≤ _
          omega
        have hG := HG.out
        rw [← hT1] at hG
        simp only [] at hG
        rw [if_neg (by omega)] at hG
        obtain ⟨q, hq⟩ : ∃ q, shapeN (s.extract T1 s.size).data.toList = q := ⟨_, rfl⟩
        rw [hq] at hRV hq2 hG
        obtain ⟨qv, qn, qe⟩ := q
        dsimp only at hRV hq2 hG
        obtain ⟨U, hU⟩ : ∃ U, T1 + qn = U := ⟨_, rfl⟩
        rw [hU] at hG
        have hUI : (T1 : Int) + (qn : Int) = (U : Int) := by omega
        have hUs : (U : Int) ≤ (s.size : Int) := by omega
        have HRV := Lib.hid hRV
        have HG2 := Lib.hid hG
        clear hRV hG hq hU hT1 HG HE
        by_cases hqe : ¬ qe = 0
        · have HN := Lib.hid (HG2.out.trans (if_pos (.inl hqe)))
          have hqq : (qe == 0) = false := by simpa using hqe
          go_wp2_with (go_at_call 140; refine HRV.out.mono ?_; rintro e w' ⟨rfl, rfl⟩)
          refine bodyPost_ret (v := .tuple #[cellW Cell.zero, .int .i64 0]) ?_ rfl (one_none HN.out (Below.set4 hb (Nat.le_refl _) 0 1 2 3 _ _ _ _))
          have hZ2 := (((hZ.setCell 0 (.string ⟨#[]⟩)).setCell 1 (.int .u64 0)).setCell 2 (.string ⟨#[]⟩)).setCell 3 (.bool false)
          obtain ⟨r0, r1, r2, r3⟩ := cell4 (v0 := .string ⟨#[]⟩) (v1 := .int .u64 0) (v2 := .string ⟨#[]⟩) (v3 := .bool false) hZ2
          simp [results, Try.results105, go_sem, cellW, Cell.zero, r0, r1, r2, r3]; rfl
        have hqe : qe = 0 := by omega
        subst hqe
        by_cases hvv : s.size < U + v1 + v2
        · have HN := Lib.hid (HG2.out.trans (if_pos (.inr hvv)))
          have hvI : (s.size : Int) - (U : Int) < (v1 : Int) + (v2 : Int) := by omega
          go_wp2_with (go_at_call 140; refine HRV.out.mono ?_; rintro e w' ⟨rfl, rfl⟩)
          refine bodyPost_ret (v := .tuple #[cellW Cell.zero, .int .i64 0]) ?_ rfl (one_none HN.out (Below.set4 hb (Nat.le_refl _) 0 1 2 3 _ _ _ _))
          have hZ2 := (((hZ.setCell 0 (.string ⟨#[]⟩)).setCell 1 (.int .u64 0)).setCell 2 (.string ⟨#[]⟩)).setCell 3 (.bool false)
          obtain ⟨r0, r1, r2, r3⟩ := cell4 (v0 := .string ⟨#[]⟩) (v1 := .int .u64 0) (v2 := .string ⟨#[]⟩) (v3 := .bool false) hZ2
          simp [results, Try.results105, go_sem, cellW, Cell.zero, r0, r1, r2, r3]; rfl
        have hvI : (v1 : Int) + (v2 : Int) ≤ (s.size : Int) - (U : Int) := by omega
        have hG3 := HG2.out
        rw [if_neg (by omega)] at hG3
        obtain ⟨Ke, hKe⟩ : ∃ K, U + v1 = K := ⟨_, rfl⟩
        rw [hKe] at hG3
        have hKI : (U : Int) + (v1 : Int) = (Ke : Int) := by omega
        obtain ⟨E, hE2⟩ : ∃ E, Ke + v2 = E := ⟨_, rfl⟩
        rw [hE2] at hG3
        have hEI : (Ke : Int) + (v2 : Int) = (E : Int) := by omega
        have hEs : (E : Int) ≤ (s.size : Int) := by omega
        have hwE : IntKind.i64.wrap (E : Int) = E := IntWalk.i64_in _ (by omega)
        have hKE : (Ke : Int) ≤ (E : Int) := by omega
        have hUK : (U : Int) ≤ (Ke : Int) := by omega
        have hKs : (Ke : Int) ≤ (s.size : Int) := by omega
        obtain ⟨kk, hkk⟩ : ∃ kk : ByteArray, ⟨(ah.extract 0 v0).data ++ (s.extract U Ke).data⟩ = kk := ⟨_, rfl⟩
        rw [hkk] at hG3
        have hcat : ∀ W, (Op.stringOp .add (ah.extract 0 v0) (s.extract U Ke)).run Try.prog W = .ok (.string kk) W := fun W => by
          have h1 : ((ah.extract 0 v0).size : Int) ≤ 8388608 := by have := ex_size_le ah 0 v0; omega
          have h2 : ((s.extract U Ke).size : Int) ≤ 8388608 := by have := ex_size_le s U Ke; omega
          have h3 : kk = ah.extract 0 v0 ++ s.extract U Ke := by rw [← hkk]; apply ByteArray.ext; simp [ByteArray.data_append]
          rw [h3]
          exact run_string_add W _ _ h1 h2
        have HG4 := Lib.hid hG3
        clear hG3 hkk hKe hE2 HG2
        go_wp2_with (go_at_call 140; refine HRV.out.mono ?_; rintro e w' ⟨rfl, rfl⟩)
        refine region_plan (S := fun W => W.cell? ⟨w.heap.size + 1, 0, none⟩ = some (.int .u64 (v0 : Nat)) ∧ W.cell? ⟨w.heap.size + 1, 1, none⟩ = some (.int .u64 (v1 : Nat)) ∧ W.cell? ⟨w.heap.size + 1, 2, none⟩ = some (.int .u64 (v2 : Nat)))
          ((0, true) :: (1, true) :: (2, true) :: (3, true) :: (4, true) :: (5, true) :: (6, true) :: (7, true) :: (8, true) :: (9, true) :: (10, true) :: (11, true) :: (12, true) :: (13, true) :: (14, true) :: (15, true) :: (16, true) :: (17, true) :: (18, true) :: (19, true) :: (20, true) :: (21, true) :: (22, true) :: (23, true) :: (24, true) :: (25, false) :: (26, true) :: [])
          (by kernel_rfl) (by kernel_rfl) (by kernel_rfl) (by kernel_rfl) (fun _ _ _ dst _ h => by cases dst <;> exact h) ⟨y0, y1, y2⟩ (fun hH => ?_)
        (repeat (first | (refine plan_take (v := ?_) (by (simp only [List.getElem?_toArray, List.getElem?_cons_succ, List.getElem?_cons_zero]; exact rfl)) (by rfl) ?_ ?_; rotate_left; (focus (intro wS hS; (try dsimp only at hS); go_split_ands; go_simp; (try with_reducible rfl))); simp only [Act.put, List.setIfInBounds_toArray, List.set_cons_zero, List.set_cons_succ]) | (refine plan_skip (by (simp only [List.getElem?_toArray, List.getElem?_cons_succ, List.getElem?_cons_zero]; exact rfl)) (by rfl) ?_; simp only [Act.put, List.setIfInBounds_toArray, List.set_cons_zero, List.set_cons_succ])))
        (refine plan_solo (by (simp only [List.getElem?_toArray, List.getElem?_cons_succ, List.getElem?_cons_zero]; exact rfl)) (by rfl) ?_; intro K hK; go_simp)
        have hS4 := (((hA2.setCell_ne (b' := w.heap.size) (by omega) 0 (.string kk)).setCell_ne (b' := w.heap.size) (by omega) 1 (.int .u64 (qv : Nat))).setCell_ne (b' := w.heap.size) (by omega) 2 (.string (s.extract Ke E))).setCell_ne (b' := w.heap.size) (by omega) 3 (.bool (g.toNat == 1))
        refine hK.out _ _ ⟨hS4.cell 0 _ rfl, hS4.cell 1 _ rfl, hS4.cell 2 _ rfl⟩ (fun hH => ?_)
        clear hK K
        (repeat (first | (refine plan_take (v := ?_) (by (simp only [List.getElem?_toArray, List.getElem?_cons_succ, List.getElem?_cons_zero]; exact rfl)) (by rfl) ?_ ?_; rotate_left; (focus (intro wS hS; (try dsimp only at hS); go_split_ands; go_simp; (try with_reducible rfl))); simp only [Act.put, List.setIfInBounds_toArray, List.set_cons_zero, List.set_cons_succ]) | (refine plan_skip (by (simp only [List.getElem?_toArray, List.getElem?_cons_succ, List.getElem?_cons_zero]; exact rfl)) (by rfl) ?_; simp only [Act.put, List.setIfInBounds_toArray, List.set_cons_zero, List.set_cons_succ])))
        refine plan_nil ?_
        go_wp2_with fail
        refine bodyPost_ret (v := .tuple #[cellW ⟨kk, qv, s.extract Ke E, g.toNat == 1⟩, .int .i64 E]) ?_ rfl ⟨Below.set4 hb.drew (Nat.le_refl _) 0 1 2 3 _ _ _ _, by rw [HG4.out]; rfl⟩
        have hZ2 := ((((hZ.setCell 0 (.string kk)).setCell 1 (.int .u64 qv)).setCell 2 (.string (s.extract Ke E))).setCell 3 (.bool (g.toNat == 1))).drew
        obtain ⟨r0, r1, r2, r3⟩ := cell4 (v0 := .string kk) (v1 := .int .u64 qv) (v2 := .string (s.extract Ke E)) (v3 := .bool (g.toNat == 1)) hZ2
        simp [results, Try.results105, go_sem, cellW, r0, r1, r2, r3]
      · have HN := Lib.hid (HE.out.trans (by rw [List.getElem?_eq_none (by show s.size ≤ T; omega)]))
        have hTI : (s.size : Int) ≤ (T : Int) := by omega
        go_wp2_with fail
        refine bodyPost_ret (v := .tuple #[cellW Cell.zero, .int .i64 0]) ?_ rfl (one_none HN.out (Below.set4 hb (Nat.le_refl _) 0 1 2 3 _ _ _ _))
        have hZ2 := (((hZ.setCell 0 (.string ⟨#[]⟩)).setCell 1 (.int .u64 0)).setCell 2 (.string ⟨#[]⟩)).setCell 3 (.bool false)
        obtain ⟨r0, r1, r2, r3⟩ := cell4 (v0 := .string ⟨#[]⟩) (v1 := .int .u64 0) (v2 := .string ⟨#[]⟩) (v3 := .bool false) hZ2
        simp [results, Try.results105, go_sem, cellW, Cell.zero, r0, r1, r2, r3]; rfl
end Go.Proofs.Ytbcaiegglbdonaa

namespace Go.Proofs.Ytbcaiegglbdonaa
open Go Go.RowKit
set_option linter.unusedSimpArgs false

theorem foot_size {s : ByteArray} {i j : Nat} : (s.extract i j).size ≤ j - i := by
  rw [ByteArray.size_extract]
  omega
/-- What the reference tells: as the program's Open. -/
def refOpenN (s : ByteArray) : Option (List Cell × Int) :=
  if s.size < 10 ∨ 65536 < s.size then none
  else if (s.size - 10) / 4 < numN (s.extract (s.size - 10) (s.size - 6)).data.toList then none
  else match refRead (s.extract 0 (s.size - 10 - 4 * numN (s.extract (s.size - 10) (s.size - 6)).data.toList)) with
    | none => none
    | some l => if buildN l (numN (s.extract (s.size - 6) (s.size - 4)).data.toList) = (s.data.toList, 0) then some (l, (numN (s.extract (s.size - 6) (s.size - 4)).data.toList : Int)) else none
theorem refOne_size {s ah : ByteArray} {c : Cell} {n : Nat} (h : refOne s ah = some (c, n)) : 1 ≤ n ∧ n ≤ s.size ∧ c.key.size ≤ ah.size + n ∧ 0 ≤ c.seq := by
  unfold refOne at h
  simp only [] at h
  split at h
  · exact absurd h (by simp)
  · split at h
    · exact absurd h (by simp)
    · split at h
      · exact absurd h (by simp)
      · split at h
        · exact absurd h (by simp)
        · split at h
          · exact absurd h (by simp)
          · split at h
            · exact absurd h (by simp)
            · rename_i h1
              injection h with h
              injection h with h3 h4
              subst h3
              subst h4
              refine ⟨by omega, by omega, ?_, Int.natCast_nonneg _⟩
              show (_ ++ _ : Array UInt8).size ≤ _
              rw [Array.size_append]
              have e1 := ex_size_le ah 0 (shapeN s.data.toList).1
              show (ah.extract 0 _).size + (s.extract _ _).size ≤ _
              have e2 := @foot_size s
              refine Nat.add_le_add e1 (Nat.le_trans e2 ?_)
              omega
theorem refAll_seq : ∀ (n : Nat) (s ah : ByteArray) (l : List Cell), refAll n s ah = some l → l.length ≤ s.size ∧ ∀ c ∈ l, 0 ≤ c.seq
  | 0, s, ah, l, h => by
    unfold refAll at h
    split at h
    · injection h with h; subst h; simp
    · exact absurd h (by simp)
  | n + 1, s, ah, l, h => by
    unfold refAll at h
    split at h
    · injection h with h; subst h; simp
    · split at h
      · exact absurd h (by simp)
      · rename_i c t h1
        obtain ⟨l', h2, rfl⟩ := Option.map_eq_some_iff.1 h
        have h3 := refOne_size h1
        have h4 := refAll_seq n _ c.key l' h2
        have h5 : (s.extract t s.size).size = s.size - t := by rw [ByteArray.size_extract]; omega
        refine ⟨by simp; omega, ?_⟩
        intro x hx
        rcases List.mem_cons.1 hx with rfl | hx
        · exact h3.2.2.2
        · exact h4.2 x hx
theorem refAll_step {n : Nat} {s ah : ByteArray} (hs : s.size ≠ 0) (hn : s.size ≤ n) : refAll n s ah = match refOne s ah with | none => none | some (c, t) => (refAll (n - 1) (s.extract t s.size) c.key).map (c :: ·) := by
  obtain ⟨m, rfl⟩ : ∃ m, n = m + 1 := ⟨n - 1, by omega⟩
  rw [refAll, if_neg hs]
  rfl
theorem refOpenN_some {s : ByteArray} {l : List Cell} {r : Int} (h : refOpenN s = some (l, r)) : ∃ k : Nat, r = k ∧ buildN l k = (s.data.toList, 0) ∧ ∀ c ∈ l, 0 ≤ c.seq := by
  unfold refOpenN at h
  split at h
  · exact absurd h (by simp)
  · split at h
    · exact absurd h (by simp)
    · split at h
      · exact absurd h (by simp)
      · rename_i l' hr
        split at h
        · rename_i h2
          injection h with h
          injection h with h3 h4
          subst h3
          subst h4
          exact ⟨_, rfl, h2, (refAll_seq _ _ _ _ hr).2⟩
        · exact absurd h (by simp)
theorem openN_some2 {s : ByteArray} {l : List Cell} {r : Int} (h : openN s = some (l, r)) : ∃ k : Nat, r = k ∧ buildN l k = (s.data.toList, 0) ∧ ∀ c ∈ l, 0 ≤ c.seq := by
  unfold openN at h
  split at h
  · exact absurd h (by simp)
  · simp only at h
    split at h
    · exact absurd h (by simp)
    · split at h
      · exact absurd h (by simp)
      · rename_i l' hr
        split at h
        · rename_i h2
          injection h with h
          injection h with h3 h4
          subst h3
          subst h4
          exact ⟨_, rfl, h2, (readN_seq hr).2⟩
        · exact absurd h (by simp)
theorem refOpenN_build {l : List Cell} {k : Nat} {b : List UInt8} (hf : ∀ c ∈ l, fitC c ∧ c.key.size ≤ 65536 ∧ c.val.size ≤ 65536) (h : buildN l k = (b, 0)) : refOpenN ⟨b.toArray⟩ = some (l, (k : Int)) := by
  obtain ⟨h1, h2, h3, h4, h5⟩ := buildN_ok h
  rw [Int.toNat_natCast] at h4
  have hst : (startsN l k l.length).length < 65536 := by
    have h6 : 4 * (startsN l k l.length).length ≤ b.length := by
      rw [h4, blockN, tailN]
      simp only [List.length_append, be4_flat]
      omega
    omega
  obtain ⟨S, hS⟩ : ∃ S, startsN l k l.length = S := ⟨_, rfl⟩
  rw [hS] at hst
  have hb : b = bodyN l k l.length ++ (S.flatMap be4 ++ (be4 S.length ++ (be2 k ++ be4 (crcN (tailN l k))))) := by
    rw [h4, blockN]
    conv => lhs; arg 1; rw [tailN, hS]
    simp only [List.append_assoc]
  have hl4 : ∀ n, (be4 n).length = 4 := fun _ => rfl
  have hl2 : ∀ n, (be2 n).length = 2 := fun _ => rfl
  have hfl := be4_flat S
  obtain ⟨B, hB⟩ : ∃ B, bodyN l k l.length = B := ⟨_, rfl⟩
  have hread := refRead_body l k hf
  rw [hB] at hb hread
  have hz : b.length = B.length + (4 * S.length + 10) := by
    rw [hb]
    simp only [List.length_append, hl4, hl2, hfl]
  have hsz : (⟨b.toArray⟩ : ByteArray).size = b.length := rfl
  have e1 : ((⟨b.toArray⟩ : ByteArray).extract (b.length - 10) (b.length - 6)).data.toList = be4 S.length := by
    conv => lhs; rw [hz, hb, ← List.append_assoc]
    exact ex_mid _ _ _ _ _ (by rw [List.length_append]; omega) (by rw [List.length_append, hl4]; omega)
  have e2 : ((⟨b.toArray⟩ : ByteArray).extract (b.length - 6) (b.length - 4)).data.toList = be2 k := by
    conv => lhs; rw [hz, hb, ← List.append_assoc, ← List.append_assoc]
    exact ex_mid _ _ _ _ _ (by simp only [List.length_append, hl4]; omega) (by simp only [List.length_append, hl4, hl2]; omega)
  unfold refOpenN
  rw [hsz, if_neg (by omega), e1, e2, numN_be4 (by omega), numN_be2 (by omega), if_neg (by omega)]
  have e3 : (⟨b.toArray⟩ : ByteArray).extract 0 (b.length - 10 - 4 * S.length) = ⟨B.toArray⟩ := by
    conv => lhs; arg 1; rw [hb]
    exact ex_head _ _ _ (by omega)
  rw [e3, hread]
  simp only
  rw [if_pos h]
/-- The two tell the same: of just those bytes that Build would make. -/
theorem refOpen_eq (s : ByteArray) : refOpenN s = openN s := by
  have hsx : (⟨s.data.toList.toArray⟩ : ByteArray) = s := by simp
  have f1 : ∀ (l : List Cell) (r : Int), refOpenN s = some (l, r) → openN s = some (l, r) := fun l r h => by
    obtain ⟨k, rfl, hb, hs⟩ := refOpenN_some h
    have h3 := (buildN_ok hb).2.2.1
    have := openN_build (fit_of h3 hs) hb
    rwa [hsx] at this
  have f2 : ∀ (l : List Cell) (r : Int), openN s = some (l, r) → refOpenN s = some (l, r) := fun l r h => by
    obtain ⟨k, rfl, hb, hs⟩ := openN_some2 h
    have h3 := (buildN_ok hb).2.2.1
    have := refOpenN_build (fit_of2 h3 hs) hb
    rwa [hsx] at this
  cases h1 : refOpenN s with
  | some q => exact (f1 q.1 q.2 h1).symm
  | none =>
    cases h2 : openN s with
    | none => rfl
    | some q => rw [f2 q.1 q.2 h2] at h1; cases h1
/-! ### The walk -/
theorem refOpenN_eq {s : ByteArray} {c r : Nat} (h : ¬ (s.size < 10 ∨ 65536 < s.size)) (hc : numN (s.extract (s.size - 10) (s.size - 6)).data.toList = c) (hr : numN (s.extract (s.size - 6) (s.size - 4)).data.toList = r) :
    refOpenN s = if (s.size - 10) / 4 < c then none else match refRead (s.extract 0 (s.size - 10 - 4 * c)) with
      | none => none
      | some l => if buildN l r = (s.data.toList, 0) then some (l, (r : Int)) else none := by
  unfold refOpenN
  rw [if_neg h, hc, hr]
def ROpenPost (w : World) (o : Option (List Cell × Int)) (e : Ending) (w' : World) : Prop :=
  Below w.heap.size w w' ∧ match o with
    | none => e = .returned (.tuple #[.slice none 0 0, .int .i64 0, .int .i64 80])
    | some (l, r) => ∃ v, e = .returned (.tuple #[v, .int .i64 r, .int .i64 0]) ∧ w'.ownsRow w.heap.size 25 4 v l.length (cellVals l)
theorem ropen_none {w w' : World} {o : Option (List Cell × Int)} (h : o = none) (hb : Below w.heap.size w w') : ROpenPost w o (.returned (.tuple #[.slice none 0 0, .int .i64 0, .int .i64 80])) w' := by
  subst h
  exact ⟨hb, rfl⟩
def strSize : Value → Nat
  | .string t => t.size
  | _ => 0
def RORel (w : World) (B : ByteArray) (bd out ah : Value) (W : World) : Prop :=
  ∃ (l : List Cell) (t k : ByteArray) (n : Nat), bd = .string t ∧ ah = .string k ∧ t.size ≤ n ∧ l.length + t.size ≤ B.size ∧ k.size + t.size ≤ B.size ∧ refRead B = (refAll n t k).map (l ++ ·) ∧ W.ownsRow w.heap.size 25 4 out l.length (cellVals l) ∧ Below w.heap.size w W
set_option maxRecDepth 100000 in
set_option maxHeartbeats 4000000 in
theorem ref_open (s : ByteArray) (hs : s.size ≤ 4611686018427387904) (w : World) : Calls Try.prog 46 #[.string s] w (ROpenPost w (refOpenN s)) := by
  obtain ⟨i0, hi, hz0, hz1, hz2⟩ := info_parts Try.infoCell
  by_cases h10 : s.size < 10
  · have HN := Lib.hid (show refOpenN s = none by unfold refOpenN; rw [if_pos (.inl h10)])
    have j1 : (s.size : Int) < 10 := by omega
    clear h10
    go_enter Try.func46, Try.ntmps46
    go_wp2_with fail
    go_ret3
    exact ropen_none HN.out (Below.refl _ _)
  have j1 : (10 : Int) ≤ (s.size : Int) := by omega
  by_cases h6 : 65536 < s.size
  · have HN := Lib.hid (show refOpenN s = none by unfold refOpenN; rw [if_pos (.inr h6)])
    have j2 : (65536 : Int) < (s.size : Int) := by omega
    clear h10 h6
    go_enter Try.func46, Try.ntmps46
    go_wp2_with fail
    go_ret3
    exact ropen_none HN.out (Below.refl _ _)
  have j2 : (s.size : Int) ≤ 65536 := by omega
  have hc := foot_lt s (s.size - 10) (s.size - 6) 4 (by omega)
  have hr := foot_lt s (s.size - 6) (s.size - 4) 2 (by omega)
  have hA := fun W => ref_numread (s.extract (s.size - 6) (s.size - 4)) (by have := @foot_size s (s.size - 6) (s.size - 4); omega) W
  have hB := fun W => ref_numread (s.extract (s.size - 10) (s.size - 6)) (by have := @foot_size s (s.size - 10) (s.size - 6); omega) W
  obtain ⟨c, hcq⟩ : ∃ c, numN (s.extract (s.size - 10) (s.size - 6)).data.toList = c := ⟨_, rfl⟩
  obtain ⟨r, hrq⟩ : ∃ r, numN (s.extract (s.size - 6) (s.size - 4)).data.toList = r := ⟨_, rfl⟩
  have hdef := refOpenN_eq (by omega) hcq hrq
  rw [hcq] at hc hB
  rw [hrq] at hr hA
  have HA := Lib.hid hA
  have HB := Lib.hid hB
  have w1 : IntKind.i64.wrap (c : Int) = c := IntWalk.i64_in _ (by omega)
  have w2 : IntKind.i64.wrap (r : Int) = r := IntWalk.i64_in _ (by omega)
  have t10 : ((s.size : Int) - 10).toNat = s.size - 10 := by omega
  have t6 : ((s.size : Int) - 6).toNat = s.size - 6 := by omega
  have t4 : ((s.size : Int) - 4).toNat = s.size - 4 := by omega
  obtain ⟨Q, hQ⟩ : ∃ Q, (s.size - 10) / 4 = Q := ⟨_, rfl⟩
  have hQI : ((s.size : Int) - 10).tdiv 4 = (Q : Int) := by rw [Int.tdiv_eq_ediv_of_nonneg (by omega)]; omega
  have hQJ : ((s.size : Int) - 10) / 4 = (Q : Int) := by omega
  rw [hQ] at hdef
  clear hA hB hcq hrq
  by_cases hcQ : Q < c
  · have HN := Lib.hid (show refOpenN s = none by rw [hdef, if_pos hcQ])
    have hcI : (Q : Int) < (c : Int) := by omega
    clear hdef
    go_enter Try.func46, Try.ntmps46
    go_wp2_with fail
    refine (HA.out _).mono ?_
    rintro e u1 ⟨rfl, hu⟩; obtain rfl := hu.symm; clear hu
    go_wp2_with fail
    refine (HB.out _).mono ?_
    rintro e u2 ⟨rfl, hu⟩; obtain rfl := hu.symm; clear hu
    go_wp2_with fail
    go_ret3
    exact ropen_none HN.out (Below.refl _ _)
  · have hcI : (c : Int) ≤ (Q : Int) := by omega
    rw [if_neg hcQ] at hdef
    obtain ⟨N, hN⟩ : ∃ N, s.size - 10 - 4 * c = N := ⟨_, rfl⟩
    rw [hN] at hdef
    have hNI : (s.size : Int) - 10 - 4 * (c : Int) = (N : Int) := by omega
    have hNs : (N : Int) ≤ (s.size : Int) := by omega
    have HD := Lib.hid hdef
    have hBz := ex_size_le s 0 N
    obtain ⟨B, hB⟩ : ∃ B, s.extract 0 N = B := ⟨_, rfl⟩
    have HBE := Lib.hid hB
    rw [hB] at hBz
    clear hdef hN hQ
    go_enter Try.func46, Try.ntmps46
    go_wp2_with fail
    refine (HA.out _).mono ?_
    rintro e u1 ⟨rfl, hu⟩; obtain rfl := hu.symm; clear hu
    go_wp2_with fail
    refine (HB.out _).mono ?_
    rintro e u2 ⟨rfl, hu⟩; obtain rfl := hu.symm; clear hu
    go_wp2_with fail
    go_loopw [7, 8, 9] (RORel w B) (fun bd _ _ _ => strSize bd)
    case atStart => exact ⟨[], B, ⟨#[]⟩, B.size, rfl, rfl, Nat.le_refl _, by simp, by show 0 + _ ≤ _; omega, by unfold refRead; simp, World.ownsRow_nil _ _ _ _, Below.refl _ _⟩
    case round =>
      obtain ⟨l, t, k, n, rfl, rfl, htn, hln, hkn, heq, hown, hb⟩ := hrel
      have HEQ := Lib.hid heq
      have HO := Lib.hid hown
      clear heq
      by_cases ht : t.size = 0
      · have h0 : refRead B = some l := by
          rw [HEQ.out]
          cases n with
          | zero => simp [refAll, ht]
          | succ n => simp [refAll, ht]
        have hdd := HD.out
        rw [HBE.out, h0] at hdd
        replace hdd : refOpenN s = if buildN l r = (s.data.toList, 0) then some (l, (r : Int)) else none := hdd
        have hsq := refAll_seq _ _ _ _ h0
        have htI : (t.size : Int) ≤ 0 := by omega
        have hBU := fun (W : World) (v : Value) (h : Reads W v l.length 4 (cellVals l)) => ref_build_spec h (by omega) hsq.2 (r : Int)
        obtain ⟨X, hX⟩ : ∃ X, (buildN l r).1 = X := ⟨_, rfl⟩
        obtain ⟨E, hE⟩ : ∃ E, (buildN l r).2 = E := ⟨_, rfl⟩
        rw [hX, hE] at hBU
        have HBU := Lib.hid hBU
        have hbq : buildN l r = (X, E) := by rw [← hX, ← hE]
        rw [hbq] at hdd
        obtain ⟨A0, k0, rfl⟩ := (Reads.of_own hown).form
        clear hBU hX hE hbq h0 hown hB
        by_cases hE0 : E = 0
        · subst hE0
          by_cases hXs : X = s.data.toList
          · subst hXs
            have HN := Lib.hid (show refOpenN s = some (l, (r : Int)) by rw [hdd, if_pos rfl])
            clear hdd
            go_wp2_with (go_at_call 38; refine (HBU.out _ _ (Reads.of_own HO.out)).mono ?_; rintro e w5 ⟨rfl, b5⟩)
            go_ret3
            rw [HN.out]
            exact ⟨hb.trans (b5.mono hb.size), _, rfl, own_kept HO.out b5⟩
          · have HN := Lib.hid (show refOpenN s = none by rw [hdd, if_neg (fun h => hXs (congrArg Prod.fst h))])
            have hXq : (X == s.toList) = false := by rw [Lib.toList_data]; simpa using hXs
            clear hdd
            go_wp2_with (go_at_call 38; refine (HBU.out _ _ (Reads.of_own HO.out)).mono ?_; rintro e w5 ⟨rfl, b5⟩)
            go_ret3
            exact ropen_none HN.out (hb.trans (b5.mono hb.size))
        · have HN := Lib.hid (show refOpenN s = none by rw [hdd, if_neg (fun h => hE0 (congrArg Prod.snd h))])
          have hEq : (E == 0) = false := by simpa using hE0
          clear hdd
          go_wp2_with (go_at_call 38; refine (HBU.out _ _ (Reads.of_own HO.out)).mono ?_; rintro e w5 ⟨rfl, b5⟩)
          go_ret3
          exact ropen_none HN.out (hb.trans (b5.mono hb.size))
      · have htI : (0 : Int) < (t.size : Int) := by omega
        have h1 := ref_one t k (by omega) (by omega) wr
        have hst := refAll_step (ah := k) ht htn
        clear hown hB
        cases hone : refOne t k with
        | none =>
          have HN := Lib.hid (show refOpenN s = none by
            have : refRead B = none := by rw [HEQ.out, hst, hone]; rfl
            rw [HD.out, HBE.out, this])
          rw [hone] at h1
          have H1 := Lib.hid h1
          clear h1 hst hone
          go_wp2_with (go_at_call 105; refine H1.out.mono ?_; rintro e w5 ⟨b5, he⟩; obtain rfl : e = .returned (.tuple #[.agg #[.string ⟨#[]⟩, .int .u64 0, .string ⟨#[]⟩, .bool false], .int .i64 0]) := he)
          go_ret3
          have e5 := hb.trans (b5.mono hb.size)
          exact ropen_none HN.out (e5.alloc e5.size _)
        | some q =>
          obtain ⟨x, m⟩ := q
          have hsz := refOne_size hone
          rw [hone] at h1 hst
          have H1 := Lib.hid h1
          have HST := Lib.hid (show refRead B = (refAll (n - 1) (t.extract m t.size) x.key).map (fun y => (l ++ [x]) ++ y) by
            rw [HEQ.out, hst]
            show Option.map _ (Option.map _ _) = _
            rw [Option.map_map]
            congr 1
            funext y
            show l ++ (_ :: y) = _
            simp)
          have hmz : (t.extract m t.size).size = t.size - m := by rw [ByteArray.size_extract]; omega
          have HMZ := Lib.hid hmz
          obtain ⟨hm1, hm2, hm3, -⟩ := hsz
          have hm0 : ((m : Int) == 0) = false := by simp; omega
          have hmI : (m : Int) ≤ (t.size : Int) := by omega
          clear h1 hst hone hmz
          have q3 : l.length + 1 ≤ maxLen := by unfold maxLen; omega
          have q4 : (l.length + 1) * 48 ≤ 140737488355328 := by omega
          go_wp2_with (first
            | (go_at_call 105; refine H1.out.mono ?_; rintro e w5 ⟨b5, he⟩; obtain rfl : e = .returned (.tuple #[.agg #[.string x.key, .int .u64 x.seq, .string x.val, .bool x.gone], .int .i64 (m : Nat)]) := he
               have e5 := hb.trans (b5.mono hb.size)
               have own5 := own_kept HO.out b5
               have nw := news4 (w5.alloc (.cells #[.string x.key, .int .u64 x.seq, .string x.val, .bool x.gone] 25)) x
               rw [World.size_alloc] at nw
               have q5 : w.heap.size ≤ ((w5.alloc (.cells #[.string x.key, .int .u64 x.seq, .string x.val, .bool x.gone] 25)).alloc (.cells #[.string x.key, .int .u64 x.seq, .string x.val, .bool x.gone] 25)).heap.size := by have := e5.size; simp only [World.size_alloc]; omega)
            | (at_builtin; refine wpList_append_own _ rfl _ _ 22 rfl w.heap.size 25 i0 cellZ 4 48 Try.underlying22 hi hz0 hz1 hz2 rfl (by decide) _ _ _ rfl ((own5.alloc _).alloc _) ⟨w5.heap.size + 1, 0, none⟩ 1 1 [.string x.key, .int .u64 x.seq, .string x.val, .bool x.gone] rfl rfl nw (by simp [Value.oneCell']) q3 q4 q5 ?_))
          intro v' w9 hown9 hgr _
          have b9 : Below w.heap.size w w9 := ((e5.alloc e5.size _).alloc (by have := e5.size; simp; omega) _).grown hgr q5 (fun j hj => (own5.lt j hj).1)
          have hbox : Blk w9 w5.heap.size #[.string x.key, .int .u64 x.seq, .string x.val, .bool x.gone] 25 := (hgr.block w5.heap.size (by simp only [World.size_alloc]; omega) (fun h => by have := (own5.lt _ h.symm).2; omega)).trans ((Blk.new w5 _ _).alloc _)
          have HW9 := Lib.hid hown9
          obtain ⟨y0, y1, y2, y3⟩ := cell4 hbox
          have yl := hbox.lt
          clear hown9 hgr nw
          go_wp2_with fail
          go_roundw
          case rel => exact ⟨l ++ [x], t.extract m t.size, x.key, n - 1, rfl, rfl, by have := HMZ.out; omega, by rw [List.length_append, HMZ.out]; show l.length + 1 + _ ≤ _; omega, by rw [HMZ.out]; omega, HST.out, by rw [List.length_append, cellVals_append]; exact HW9.out, b9⟩
          case measure => show (t.extract m t.size).size < t.size; rw [HMZ.out]; omega
end Go.Proofs.Ytbcaiegglbdonaa

namespace Go.Proofs.Ytbcaiegglbdonaa
open Go Go.RowKit
set_option linter.unusedSimpArgs false

set_option maxRecDepth 100000 in
set_option maxHeartbeats 1000000 in
theorem blk_restarts {w : World} {p : Nat} {s : ByteArray} {l : List Cell} {r : Int} (h : BlkIs w p s l r true) (h1 : 1 ≤ r) (h2 : r ≤ 64) : Calls Try.prog 51 #[.pointer (some ⟨p, 0, none⟩)] w fun e w' => e = .returned (.int .i64 (((l.length : Int) + r - 1).tdiv r)) ∧ Below w.heap.size w w' := by
  obtain ⟨v, B, hb, ho⟩ := h.ex
  obtain ⟨A, cap, rfl⟩ := (Reads.of_own ho).form
  have c1 : w.cell? ⟨p, 1, none⟩ = some (.slice A l.length cap) := hb.cell 1 _ rfl
  have c2 : w.cell? ⟨p, 2, none⟩ = some (.int .i64 r) := hb.cell 2 _ rfl
  have c3 : w.cell? ⟨p, 3, none⟩ = some (.bool true) := hb.cell 3 _ rfl
  have pl := hb.lt
  have hl := h.len
  have hr0 : (r == 0) = false := by simp; omega
  have hr1 : (r == -1) = false := by simp; omega
  have hlI : (l.length : Int) ≤ 65536 := by omega
  have hq1 : 0 ≤ ((l.length : Int) + r - 1).tdiv r := Int.tdiv_nonneg (by omega) (by omega)
  have hq2 : ((l.length : Int) + r - 1).tdiv r ≤ 65600 := by
    have := Int.tdiv_le_self (a := (l.length : Int) + r - 1) r (by omega)
    omega
  have hw : IntKind.i64.wrap (((l.length : Int) + r - 1).tdiv r) = ((l.length : Int) + r - 1).tdiv r := IntWalk.i64_in _ (by omega)
  clear h hb ho
  go_enter Try.func51, Try.ntmps51
  go_wp2_with fail
  go_quiet (fail)
  go_wp2_with fail
  go_ret
  exact ⟨rfl, below_drewN (Below.refl _ _) nq⟩
/-! ### Newest, of cells in order -/
theorem newest_none {key : ByteArray} {seq : Int} : ∀ l : List Cell, (∀ x ∈ l, x.key ≠ key) → newestN key seq l = (Cell.zero, false)
  | [], _ => rfl
  | c :: l, h => by
    rw [newestN, if_neg (fun hh => h c (by simp) hh.1)]
    exact newest_none l fun x hx => h x (by simp [hx])
theorem adjC_tail {c : Cell} {l : List Cell} (h : adjC (c :: l) = true) : adjC l = true := by
  cases l with
  | nil => rfl
  | cons y l => rw [adjC, Bool.and_eq_true] at h; exact h.2
theorem newest_seek (key : ByteArray) (seq : Int) : ∀ l : List Cell, adjC l = true → newestN key seq l = getS key (seekC l key seq)
  | [], _ => rfl
  | c :: l, h => by
    have ih := newest_seek key seq l (adjC_tail h)
    by_cases hp : PLt c.key c.seq key seq
    · have h1 : ¬ (c.key = key ∧ c.seq ≤ seq) := by
        rintro ⟨h2, h3⟩
        rcases hp with h4 | ⟨_, h4⟩
        · rw [h2] at h4; exact SLt.irrefl _ h4
        · omega
      have h2 : seekC (c :: l) key seq = seekC l key seq := by
        have e : posN (c :: l) key seq = posN l key seq + 1 := by
          unfold posN
          rw [List.takeWhile_cons, if_pos (by simpa using hp)]
          rfl
        unfold seekC
        rw [e, List.getElem?_cons_succ]
      rw [newestN, if_neg h1, h2, ih]
    · have h2 : seekC (c :: l) key seq = (c, true) := by
        have e : posN (c :: l) key seq = 0 := by
          unfold posN
          rw [List.takeWhile_cons, if_neg (by simpa using hp)]
          rfl
        unfold seekC
        rw [e]
        rfl
      rw [h2]
      unfold getS
      by_cases hk : c.key = key
      · have h3 : c.seq ≤ seq := by
          by_cases h4 : c.seq ≤ seq
          · exact h4
          · exact absurd (.inr ⟨hk, by omega⟩) hp
        rw [newestN, if_pos ⟨hk, h3⟩, if_pos ⟨rfl, hk⟩]
      · rw [newestN, if_neg (fun hh => hk hh.1), if_neg (fun hh => hk hh.2)]
        refine newest_none l fun x hx hxk => ?_
        obtain ⟨j, hj, rfl⟩ := List.getElem_of_mem hx
        have h4 := adjC_lt h j 0 c l[j] rfl (by rw [Nat.zero_add, List.getElem?_cons_succ]; exact List.getElem?_eq_getElem hj)
        have h5 : SLt key c.key := by
          rcases SLt.total c.key key with h6 | h6 | h6
          · exact absurd (.inl h6) hp
          · exact absurd h6 hk
          · exact h6
        rcases h4 with h6 | ⟨h6, _⟩
        · rw [hxk] at h6; exact h5.asymm' h6
        · rw [h6, hxk] at h5; exact SLt.irrefl _ h5
/-! ### The reference's Seek -/
def RsRel (w : World) (l : List Cell) (key : ByteArray) (seq : Int) (i : Value) (W : World) : Prop :=
  ∃ k : Nat, k ≤ l.length ∧ i = .int .i64 k ∧ (∀ j x, j < k → l[j]? = some x → PLt x.key x.seq key seq) ∧ Blk W w.heap.size #[.string ⟨#[]⟩, .int .u64 0, .string ⟨#[]⟩, .bool false] 25 ∧ Below w.heap.size w W
set_option maxRecDepth 100000 in
set_option maxHeartbeats 2000000 in
theorem ref_seek {w : World} {v : Value} {l : List Cell} (h : Reads w v l.length 4 (cellVals l)) (key : ByteArray) (seq : Int) : Calls Try.prog 48 #[v, .string key, .int .u64 seq] w (CellPost w (seekC l key seq)) := by
  obtain ⟨A, cap, rfl⟩ := h.form
  have H := Lib.hid h
  have hml := h.2.1
  clear h
  go_enter Try.func48, Try.ntmps48
  go_wp2_with fail
  go_loopw [12] (RsRel w l key seq) (fun i _ => l.length - (intOf i).toNat)
  case atStart => exact ⟨0, by omega, rfl, fun j _ hj => by omega, Blk.new _ _ _, (Below.refl _ _).alloc (Nat.le_refl _) _⟩
  case round =>
    obtain ⟨k, hk, rfl, hP, hZ, hb⟩ := hrel
    by_cases hlt : k < l.length
    · obtain ⟨x, hx⟩ : ∃ x, l[k]? = some x := ⟨_, List.getElem?_eq_getElem hlt⟩
      obtain ⟨b, o, rfl, hbl, c0, c1, c2, c3⟩ := (H.out.kept hb).cell_at hx
      have i0 : (0 : Int) ≤ (k : Int) := by omega
      have i1 : (k : Int) < (l.length : Int) := by omega
      have hba := hb.alloc hb.size (.cells #[.string x.key, .int .u64 x.seq, .string x.val, .bool x.gone] 25)
      have hLe := less_spec x ⟨key, seq, ⟨#[]⟩, false⟩ (wr.alloc (.cells #[.string x.key, .int .u64 x.seq, .string x.val, .bool x.gone] 25))
      have hbox := Blk.new wr #[.string x.key, .int .u64 x.seq, .string x.val, .bool x.gone] 25
      have HX := Lib.hid hx
      have HP := Lib.hid hP
      clear hx hP
      by_cases hp : PLt x.key x.seq key seq
      · rw [show decide (PLt x.key x.seq (Cell.mk key seq ⟨#[]⟩ false).key (Cell.mk key seq ⟨#[]⟩ false).seq) = true from decide_eq_true hp] at hLe
        have HL := Lib.hid hLe
        have HPP := Lib.hid hp
        clear hLe hp
        go_wp2_with (go_at_call 25; refine HL.out.mono ?_; rintro e w5 ⟨rfl, b5⟩; have e5 := hba.trans (b5.mono hba.size); have hZ5 := (hZ.alloc _).kept b5)
        go_roundw
        case rel =>
          refine ⟨k + 1, by omega, by go_num, fun j y hj hy => ?_, hZ5, e5⟩
          by_cases hjk : j = k
          · subst hjk; rw [HX.out] at hy; cases hy; exact HPP.out
          · exact HP.out j y (by omega) hy
        case measure => simp [intOf]; omega
      · rw [show decide (PLt x.key x.seq (Cell.mk key seq ⟨#[]⟩ false).key (Cell.mk key seq ⟨#[]⟩ false).seq) = false from decide_eq_false hp] at hLe
        have HL := Lib.hid hLe
        have hpos := posN_eq l key seq k hk HP.out (fun y hy => by rw [HX.out] at hy; cases hy; exact hp)
        have HS := Lib.hid (seek_pos hpos HX.out)
        clear hLe hp hpos
        go_wp2_with (go_at_call 25; refine HL.out.mono ?_; rintro e w5 ⟨rfl, b5⟩; have e5 := hba.trans (b5.mono hba.size); have hZ5 := (hZ.alloc _).kept b5; have f0 := hZ5.frozen; have f1 := hZ5.lt; obtain ⟨z0, z1, z2, z3⟩ := cell4 hZ5; obtain ⟨y0, y1, y2, y3⟩ := cell4 (hbox.kept b5); have yl := (hbox.kept b5).lt)
        refine bodyPost_ret (v := .tuple #[cellW x, .bool true]) ?_ rfl ⟨by rw [HS.out], ?_⟩
        · have hZ2 := (((hZ5.setCell 0 (.string x.key)).setCell 1 (.int .u64 x.seq)).setCell 2 (.string x.val)).setCell 3 (.bool x.gone)
          obtain ⟨r0, r1, r2, r3⟩ := cell4 (v0 := .string x.key) (v1 := .int .u64 x.seq) (v2 := .string x.val) (v3 := .bool x.gone) hZ2
          simp [results, Try.results48, go_sem, cellW, r0, r1, r2, r3]
        · exact Below.set4 e5 (Nat.le_refl _) 0 1 2 3 _ _ _ _
    · obtain rfl : k = l.length := by omega
      have hpos := posN_eq l key seq l.length (Nat.le_refl _) hP (fun y hy => by rw [List.getElem?_eq_none (Nat.le_refl _)] at hy; cases hy)
      have HS := Lib.hid (seek_end hpos)
      have f0 := hZ.frozen
      have f1 := hZ.lt
      obtain ⟨z0, z1, z2, z3⟩ := cell4 hZ
      clear hpos hP
      go_wp2_with fail
      refine bodyPost_ret (v := .tuple #[cellW Cell.zero, .bool false]) ?_ rfl ⟨by rw [HS.out], ?_⟩
      · have hZ2 := (((hZ.setCell 0 (.string ⟨#[]⟩)).setCell 1 (.int .u64 0)).setCell 2 (.string ⟨#[]⟩)).setCell 3 (.bool false)
        obtain ⟨r0, r1, r2, r3⟩ := cell4 (v0 := .string ⟨#[]⟩) (v1 := .int .u64 0) (v2 := .string ⟨#[]⟩) (v3 := .bool false) hZ2
        simp [results, Try.results48, go_sem, cellW, Cell.zero, r0, r1, r2, r3]; rfl
      · exact Below.set4 hb (Nat.le_refl _) 0 1 2 3 _ _ _ _
end Go.Proofs.Ytbcaiegglbdonaa
