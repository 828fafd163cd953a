/-
  A block's bytes are read back; a block with some bits turned is none. Plain.
-/
import Derived.Test.YtbcaiegglbdonaaReadN
import Derived.Test.YtbcaiegglbdonaaBytes8
namespace Go.Proofs.Ytbcaiegglbdonaa
open Go

theorem shp_varN : ∀ (j i n m : Nat) (rest : List UInt8), i + j = 9 → n < 2 * 128 ^ j → (0 < i → n ≠ 0) → shp i m (varN n ++ rest) = (m + n * 128 ^ i, i + (varN n).length, 0) := by
  intro j
  induction j with
  | zero =>
    intro i n m rest hi hn h0
    obtain rfl : i = 9 := by omega
    have : n = 1 := by have := h0 (by decide); omega
    subst this
    rw [varN_lt (by decide)]
    simp [shp]
  | succ j ih =>
    intro i n m rest hi hn h0
    by_cases h : n < 128
    · rw [varN_lt h]
      have h1 : (UInt8.ofNat n).toNat = n := by rw [UInt8.toNat_ofNat']; omega
      simp only [List.singleton_append, shp]
      rw [if_neg (by omega), h1, if_pos h, if_neg]
      · simp
      · rintro ⟨h2, h3⟩
        exact h0 h3 (by rw [← h1, h2]; rfl)
    · rw [varN_ge h]
      have h1 : (UInt8.ofNat (n % 128 + 128)).toNat = n % 128 + 128 := by rw [UInt8.toNat_ofNat']; omega
      simp only [List.cons_append, shp]
      rw [if_neg (by omega), h1, if_neg (by omega), ih (i + 1) (n / 128) _ rest (by omega) (by rw [Nat.pow_succ] at hn; omega) (by intro _; omega)]
      have e1 : (n % 128 + 128) % 128 = n % 128 := by omega
      have e2 : n % 128 * 128 ^ i + n / 128 * 128 ^ (i + 1) = n * 128 ^ i := by
        have h5 := Nat.div_add_mod n 128
        calc n % 128 * 128 ^ i + n / 128 * 128 ^ (i + 1) = (128 * (n / 128) + n % 128) * 128 ^ i := by rw [Nat.pow_succ, Nat.add_mul, Nat.add_comm]; congr 1; rw [Nat.mul_comm (128 ^ i) 128, ← Nat.mul_assoc, Nat.mul_comm (n / 128) 128]
          _ = n * 128 ^ i := by rw [h5]
      rw [e1, Nat.add_assoc, e2]
      simp
      omega
theorem shape_varN (n : Nat) (rest : List UInt8) (h : n < 18446744073709551616) : shapeN (varN n ++ rest) = (n, (varN n).length, 0) := by
  unfold shapeN
  rw [shp_varN 9 0 n 0 rest rfl (by omega) (by omega)]
  simp
theorem ex_app (a b : List UInt8) : (⟨(a ++ b).toArray⟩ : ByteArray).extract a.length (⟨(a ++ b).toArray⟩ : ByteArray).size = ⟨b.toArray⟩ := by
  apply ByteArray.ext
  apply Array.ext'
  rw [ByteArray.data_extract]
  simp [ByteArray.size]
theorem ex_take (a b : List UInt8) : (⟨(a ++ b).toArray⟩ : ByteArray).extract 0 a.length = ⟨a.toArray⟩ := by
  apply ByteArray.ext
  apply Array.ext'
  rw [ByteArray.data_extract]
  simp
theorem varR_varN (n : Nat) (rest : List UInt8) (h : n < 18446744073709551616) : varR ⟨(varN n ++ rest).toArray⟩ 0 = (n, ⟨rest.toArray⟩, 0) := by
  unfold varR
  have h1 : (⟨(varN n ++ rest).toArray⟩ : ByteArray).data.toList = varN n ++ rest := rfl
  rw [if_neg (by simp), h1, shape_varN n rest h, if_neg (by simp)]
  simp only
  rw [ex_app]
theorem rawR_app (a b : List UInt8) (n : Int) (hn : n = a.length) : rawR ⟨(a ++ b).toArray⟩ 0 n = (⟨a.toArray⟩, ⟨b.toArray⟩, 0) := by
  subst hn
  unfold rawR
  rw [if_neg (by simp), if_neg (by omega), if_neg (by simp [ByteArray.size]; omega)]
  rw [Int.toNat_natCast, ex_take, ex_app]
theorem readOne_enc (c : Cell) (ah : ByteArray) (n : Nat) (rest : List UInt8) (hn : n ≤ ah.size) (hk : n ≤ c.key.size) (he : ah.data.toList.take n = c.key.data.toList.take n)
    (hkz : c.key.size < 18446744073709551616) (hvz : c.val.size < 18446744073709551616) (hs : 0 ≤ c.seq) (hs2 : c.seq < 18446744073709551616) :
    readOne ⟨(encC n c ++ rest).toArray⟩ ah = some (c, ⟨rest.toArray⟩) := by
  have hseq : ((c.seq.toNat : Nat) : Int) = c.seq := by omega
  have e0 : encC n c ++ rest = varN n ++ (varN (c.key.size - n) ++ (varN c.val.size ++ ([UInt8.ofNat (if c.gone then 1 else 0)] ++ (varN c.seq.toNat ++ (c.key.data.toList.drop n ++ (c.val.data.toList ++ rest)))))) := by
    simp only [encC, List.append_assoc]
  unfold readOne
  rw [e0]
  have hg : numN [UInt8.ofNat (if c.gone then 1 else 0)] % 256 = if c.gone then 1 else 0 := by cases c.gone <;> rfl
  have k1 : (c.key.data.toList.drop n).length = c.key.size - n := by rw [List.length_drop]; rfl
  have k2 : c.val.data.toList.length = c.val.size := rfl
  rw [varR_varN _ _ (by omega)]
  simp only
  rw [varR_varN _ _ (by omega)]
  simp only
  rw [varR_varN _ _ hvz]
  simp only
  rw [rawR_app [UInt8.ofNat (if c.gone then 1 else 0)] _ 1 rfl]
  simp only
  rw [varR_varN _ _ (by omega)]
  simp only
  rw [hg, if_neg]
  · rw [rawR_app _ _ _ (by rw [k1])]
    simp only
    rw [rawR_app _ _ _ (by rw [k2])]
    simp only [ne_eq, not_true_eq_false, if_false]
    have hkey : (⟨(ah.extract 0 n).data ++ (c.key.data.toList.drop n).toArray⟩ : ByteArray) = c.key := by
      apply ByteArray.ext
      apply Array.ext'
      rw [ByteArray.data_extract]
      simp only [Array.toList_append, Array.toList_extract]
      rw [List.extract_eq_take_drop]
      simp only [Nat.sub_zero, List.drop_zero]
      rw [he, List.take_append_drop]
    rw [hkey, hseq]
    cases c with
    | mk key seq val gone => cases gone <;> rfl
  · have hz : (⟨(c.key.data.toList.drop n ++ (c.val.data.toList ++ rest)).toArray⟩ : ByteArray).size = c.key.size - n + (c.val.size + rest.length) := by
      show (c.key.data.toList.drop n ++ (c.val.data.toList ++ rest)).length = _
      rw [List.length_append, List.length_append, k1, k2]
    rw [hz]
    have : (if c.gone = true then 1 else 0) ≤ 1 := by split <;> decide
    omega
/-- The bytes of the cells from the j-th on. -/
def sufN (l : List Cell) (r j : Nat) : List UInt8 := (List.range' j (l.length - j)).flatMap (encAt l r)
theorem sufN_zero (l : List Cell) (r : Nat) : sufN l r 0 = bodyN l r l.length := by
  unfold sufN bodyN
  rw [List.range_eq_range']; rfl
theorem sufN_step {l : List Cell} {r j : Nat} {c : Cell} (h : l[j]? = some c) : sufN l r j = encC (shAt l r j) c ++ sufN l r (j + 1) := by
  have hlt := (List.getElem?_eq_some_iff.1 h).1
  unfold sufN
  have e : l.length - j = (l.length - (j + 1)) + 1 := by omega
  rw [e, List.range'_succ, List.flatMap_cons]
  simp only [encAt, h, Option.map_some, Option.getD_some]
theorem sufN_end (l : List Cell) (r : Nat) {j : Nat} (h : l.length ≤ j) : sufN l r j = [] := by
  unfold sufN
  have e : l.length - j = 0 := by omega
  rw [e]; rfl
theorem varN_pos (n : Nat) : 1 ≤ (varN n).length := by
  by_cases h : n < 128
  · rw [varN_lt h]; simp
  · rw [varN_ge h]; simp
theorem encC_pos (n : Nat) (c : Cell) : 1 ≤ (encC n c).length := by
  unfold encC
  rw [List.length_append]
  have := varN_pos n
  omega
def fitC (c : Cell) : Prop := c.key.size < 18446744073709551616 ∧ c.val.size < 18446744073709551616 ∧ 0 ≤ c.seq ∧ c.seq < 18446744073709551616
def aheadN (l : List Cell) (j : Nat) : ByteArray := if j = 0 then ⟨#[]⟩ else ⟨(keyAt l (j - 1)).toArray⟩
theorem readAll_suf (l : List Cell) (r : Nat) (hf : ∀ c ∈ l, fitC c) : ∀ (d j n : Nat), l.length - j = d → (sufN l r j).length ≤ n → readAll n ⟨(sufN l r j).toArray⟩ (aheadN l j) = some (l.drop j) := by
  intro d
  induction d with
  | zero =>
    intro j n hd hn
    rw [sufN_end l r (by omega), List.drop_eq_nil_of_le (by omega)]
    cases n <;> rfl
  | succ d ih =>
    intro j n hd hn
    obtain ⟨c, hc⟩ : ∃ c, l[j]? = some c := ⟨_, List.getElem?_eq_getElem (by omega)⟩
    have hfc := hf c (List.mem_of_getElem? hc)
    rw [sufN_step hc] at hn ⊢
    have hp := encC_pos (shAt l r j) c
    rw [List.length_append] at hn
    obtain ⟨n, rfl⟩ : ∃ m, n = m + 1 := ⟨n - 1, by omega⟩
    have hkj : keyAt l j = c.key.data.toList := by unfold keyAt; rw [hc]; rfl
    have hz : ¬ (⟨(encC (shAt l r j) c ++ sufN l r (j + 1)).toArray⟩ : ByteArray).size = 0 := by
      show ¬ (encC (shAt l r j) c ++ sufN l r (j + 1)).length = 0
      rw [List.length_append]; omega
    have hsh : shAt l r j ≤ (aheadN l j).size ∧ shAt l r j ≤ c.key.size ∧ (aheadN l j).data.toList.take (shAt l r j) = c.key.data.toList.take (shAt l r j) := by
      unfold shAt
      split
      · exact ⟨Nat.zero_le _, Nat.zero_le _, by simp⟩
      · rename_i h0
        have hj : j ≠ 0 := by rintro rfl; exact h0 (Nat.zero_mod r)
        unfold aheadN
        rw [if_neg hj]
        exact ⟨sharedN_le_left _ _, by rw [hkj]; exact sharedN_le_right _ _, by rw [hkj]; exact sharedN_take _ _⟩
    have h1 := readOne_enc c (aheadN l j) (shAt l r j) (sufN l r (j + 1)) hsh.1 hsh.2.1 hsh.2.2 hfc.1 hfc.2.1 hfc.2.2.1 hfc.2.2.2
    have hah : aheadN l (j + 1) = c.key := by
      unfold aheadN
      rw [if_neg (by omega)]
      simp only [Nat.add_sub_cancel]
      rw [hkj]
    have h2 := ih (j + 1) n (by omega) (by omega)
    rw [hah] at h2
    unfold readAll
    rw [if_neg hz, h1]
    simp only
    rw [h2, Option.map_some]
    congr 1
    obtain ⟨h5, h6⟩ := List.getElem?_eq_some_iff.1 hc
    rw [← h6, List.drop_eq_getElem_cons h5]
theorem readN_body (l : List Cell) (r : Nat) (hf : ∀ c ∈ l, fitC c) : readN ⟨(bodyN l r l.length).toArray⟩ = some l := by
  have h := readAll_suf l r hf l.length 0 (bodyN l r l.length).length rfl (by rw [sufN_zero]; exact Nat.le_refl _)
  rw [sufN_zero] at h
  exact h
theorem numN_be4 {n : Nat} (h : n < 4294967296) : numN (be4 n) = n := by
  simp only [numN, be4, List.foldl_cons, List.foldl_nil, UInt8.toNat_ofNat']
  omega
theorem numN_be2 {n : Nat} (h : n < 65536) : numN (be2 n) = n := by
  simp only [numN, be2, List.foldl_cons, List.foldl_nil, UInt8.toNat_ofNat']
  omega
/-- What Open tells: the cells and the restart, if buildN makes the same bytes again. -/
def openN (s : ByteArray) : Option (List Cell × Int) :=
  if s.size < 10 ∨ 65536 < s.size then none
  else
    let c := numN (s.extract (s.size - 10) (s.size - 6)).data.toList
    let r := numN (s.extract (s.size - 6) (s.size - 4)).data.toList
    if s.size < 10 + 4 * min c s.size then none
    else match readN (s.extract 0 (s.size - 10 - 4 * min c s.size)) with
      | none => none
      | some l => if buildN l r = (s.data.toList, 0) then some (l, r) else none
theorem openN_some {s : ByteArray} {l : List Cell} {r : Int} (h : openN s = some (l, r)) : buildN l r = (s.data.toList, 0) ∧ 10 ≤ s.size ∧ s.size ≤ 65536 ∧ ∃ n, r = (n : Nat) := by
  unfold openN at h
  split at h
  · exact absurd h (by simp)
  · simp only at h
    split at h
    · exact absurd h (by simp)
    · split at h
      · exact absurd h (by simp)
      · split at h
        · rename_i h1 _ _ _ _ h2
          injection h with h
          injection h with h3 h4
          subst h3
          subst h4
          exact ⟨h2, by omega, by omega, _, rfl⟩
        · exact absurd h (by simp)
theorem buildN_ok {l : List Cell} {r : Int} {b : List UInt8} (h : buildN l r = (b, 0)) : 1 ≤ r ∧ r ≤ 64 ∧ checkL l = 0 ∧ b = blockN l r.toNat ∧ b.length ≤ 65536 := by
  unfold buildN at h
  split at h
  · exact absurd (congrArg Prod.snd h) (by simp)
  · split at h
    · rename_i h2
      exact absurd (congrArg Prod.snd h) h2
    · split at h
      · rename_i h1 h2 h3
        obtain rfl := congrArg Prod.fst h
        exact ⟨by omega, by omega, by simpa using h2, rfl, h3⟩
      · exact absurd (congrArg Prod.snd h) (by simp)
theorem be4_flat (L : List Nat) : (L.flatMap be4).length = 4 * L.length := by
  induction L with
  | nil => rfl
  | cons a L ih => rw [List.flatMap_cons, List.length_append, ih]; simp [be4]; omega
theorem ex_mid (a b c : List UInt8) (i j : Nat) (hi : i = a.length) (hj : j = a.length + b.length) : ((⟨(a ++ (b ++ c)).toArray⟩ : ByteArray).extract i j).data.toList = b := by
  subst hi
  subst hj
  rw [ByteArray.data_extract]
  simp
theorem ex_head (a b : List UInt8) (j : Nat) (hj : j = a.length) : (⟨(a ++ b).toArray⟩ : ByteArray).extract 0 j = ⟨a.toArray⟩ := by
  subst hj
  exact ex_take a b
theorem openN_build {l : List Cell} {r : Int} {b : List UInt8} (hf : ∀ c ∈ l, fitC c) (h : buildN l r = (b, 0)) : openN ⟨b.toArray⟩ = some (l, r) := by
  obtain ⟨h1, h2, h3, h4, h5⟩ := buildN_ok h
  obtain ⟨k, rfl⟩ : ∃ k : Nat, r = k := ⟨r.toNat, by omega⟩
  rw [Int.toNat_natCast] at h4
  have hst : (startsN l k l.length).length < 65536 := by
    have h6 : 4 * (startsN l k l.length).length ≤ b.length := by
      rw [h4, blockN, tailN]
      simp only [List.length_append, be4_flat]
      omega
    omega
  obtain ⟨S, hS⟩ : ∃ S, startsN l k l.length = S := ⟨_, rfl⟩
  rw [hS] at hst
  have hb : b = bodyN l k l.length ++ (S.flatMap be4 ++ (be4 S.length ++ (be2 k ++ be4 (crcN (tailN l k))))) := by
    rw [h4, blockN]
    conv => lhs; arg 1; rw [tailN, hS]
    simp only [List.append_assoc]
  have hl4 : ∀ n, (be4 n).length = 4 := fun _ => rfl
  have hl2 : ∀ n, (be2 n).length = 2 := fun _ => rfl
  have hfl := be4_flat S
  obtain ⟨B, hB⟩ : ∃ B, bodyN l k l.length = B := ⟨_, rfl⟩
  have hread := readN_body l k hf
  rw [hB] at hb hread
  have hz : b.length = B.length + (4 * S.length + 10) := by
    rw [hb]
    simp only [List.length_append, hl4, hl2, hfl]
  have hsz : (⟨b.toArray⟩ : ByteArray).size = b.length := rfl
  have e1 : ((⟨b.toArray⟩ : ByteArray).extract (b.length - 10) (b.length - 6)).data.toList = be4 S.length := by
    conv => lhs; rw [hz, hb, ← List.append_assoc]
    exact ex_mid _ _ _ _ _ (by rw [List.length_append]; omega) (by rw [List.length_append, hl4]; omega)
  have e2 : ((⟨b.toArray⟩ : ByteArray).extract (b.length - 6) (b.length - 4)).data.toList = be2 k := by
    conv => lhs; rw [hz, hb, ← List.append_assoc, ← List.append_assoc]
    exact ex_mid _ _ _ _ _ (by simp only [List.length_append, hl4]; omega) (by simp only [List.length_append, hl4, hl2]; omega)
  have hmin : min S.length b.length = S.length := by omega
  unfold openN
  rw [hsz, if_neg (by omega), e1, e2, numN_be4 (by omega), numN_be2 (by omega)]
  simp only
  rw [hmin, if_neg (by omega)]
  have e3 : (⟨b.toArray⟩ : ByteArray).extract 0 (b.length - 10 - 4 * S.length) = ⟨B.toArray⟩ := by
    conv => lhs; arg 1; rw [hb]
    exact ex_head _ _ _ (by omega)
  rw [e3, hread]
  simp only
  rw [if_pos h]
/-! ### The check sum is linear; a burst of 32 bits is told -/
theorem crcBit_xor (a b : Nat) : crcBit (a ^^^ b) = crcBit a ^^^ crcBit b := by
  have h1 : (a ^^^ b) / 2 = (a / 2) ^^^ (b / 2) := by
    have := Nat.shiftRight_xor_distrib (a := a) (b := b) (i := 1)
    simpa [Nat.shiftRight_eq_div_pow] using this
  have h2 : (a ^^^ b) % 2 = (a % 2 + b % 2) % 2 := by
    have h3 := Nat.testBit_xor a b 0
    simp only [Nat.testBit_zero] at h3
    rcases (by omega : a % 2 = 0 ∨ a % 2 = 1) with ha | ha <;> rcases (by omega : b % 2 = 0 ∨ b % 2 = 1) with hb | hb <;> rcases (by omega : (a ^^^ b) % 2 = 0 ∨ (a ^^^ b) % 2 = 1) with hc | hc <;> simp [ha, hb, hc] at h3 ⊢
  have hx : ∀ x y p : Nat, x ^^^ p ^^^ (y ^^^ p) = x ^^^ y := fun x y p => by
    rw [Nat.xor_comm y p, Nat.xor_assoc, ← Nat.xor_assoc p p y, Nat.xor_self, Nat.zero_xor]
  unfold crcBit
  rw [h1]
  rcases (by omega : a % 2 = 0 ∨ a % 2 = 1) with ha | ha <;> rcases (by omega : b % 2 = 0 ∨ b % 2 = 1) with hb | hb
  · rw [if_neg (by omega), if_neg (by omega), if_neg (by omega)]; simp
  · rw [if_pos (by omega), if_neg (by omega), if_pos (by omega)]; simp [Nat.xor_assoc]
  · rw [if_pos (by omega), if_pos (by omega), if_neg (by omega)]
    simp only [Nat.xor_zero]
    rw [Nat.xor_assoc, Nat.xor_assoc, Nat.xor_comm (b / 2)]
  · rw [if_neg (by omega), if_pos (by omega), if_pos (by omega), hx]; simp
theorem crcBits_xor : ∀ (j a b : Nat), crcBits j (a ^^^ b) = crcBits j a ^^^ crcBits j b
  | 0, _, _ => rfl
  | j + 1, a, b => by rw [crcBits, crcBit_xor, crcBits_xor j]; rfl
theorem crcBits_shift : ∀ (j x : Nat), crcBits j (2 ^ j * x) = x
  | 0, x => by simp [crcBits]
  | j + 1, x => by
    have h : crcBit (2 ^ (j + 1) * x) = 2 ^ j * x := by
      unfold crcBit
      have e : 2 ^ (j + 1) * x = 2 * (2 ^ j * x) := by rw [Nat.pow_succ, Nat.mul_comm (2 ^ j) 2, Nat.mul_assoc]
      rw [e, if_neg (by omega)]
      simp
    rw [crcBits, h, crcBits_shift j x]
theorem crcBits_add : ∀ (i j x : Nat), crcBits (i + j) x = crcBits j (crcBits i x)
  | 0, j, x => by rw [Nat.zero_add]; rfl
  | i + 1, j, x => by
    have e : i + 1 + j = (i + j) + 1 := by omega
    rw [e, crcBits, crcBits, crcBits_add i j]
theorem crcBit_zero {c : Nat} (h : c < 4294967296) (hz : crcBit c = 0) : c = 0 := by
  unfold crcBit at hz
  split at hz
  · exfalso
    have h1 : c / 2 = 2197175160 := by
      have h2 : c / 2 ^^^ 2197175160 ^^^ 2197175160 = 0 ^^^ 2197175160 := by rw [hz]
      rwa [Nat.xor_assoc, Nat.xor_self, Nat.xor_zero, Nat.zero_xor] at h2
    omega
  · rw [Nat.xor_zero] at hz
    omega
theorem crcBits_zero : ∀ (j : Nat) {c : Nat}, c < 4294967296 → crcBits j c = 0 → c = 0
  | 0, _, _, hz => hz
  | j + 1, _, h, hz => crcBit_zero h (crcBits_zero j (crcBit_lt h) hz)
/-- Bytes as a number, the lowest first. -/
def leN : List UInt8 → Nat
  | [] => 0
  | b :: l => b.toNat + 256 * leN l
theorem xor_low {a b : Nat} (x : Nat) (ha : a < 256) (hb : b = a + 256 * x) : b = a ^^^ (2 ^ 8 * x) := by
  subst hb
  have := Nat.shiftLeft_add_eq_or_of_lt (i := 8) (b := a) (by simpa using ha) x
  rw [Nat.shiftLeft_eq] at this
  have h2 : a ^^^ 2 ^ 8 * x = 2 ^ 8 * x ||| a := by
    apply Nat.eq_of_testBit_eq
    intro i
    rw [Nat.testBit_xor, Nat.testBit_or]
    by_cases hi : i < 8
    · have : (2 ^ 8 * x).testBit i = false := by
        rw [Nat.testBit_two_pow_mul]; simp; omega
      rw [this]; simp
    · have : a.testBit i = false := Nat.testBit_lt_two_pow (Nat.lt_of_lt_of_le ha (by
        calc 256 = 2 ^ 8 := rfl
          _ ≤ 2 ^ i := Nat.pow_le_pow_right (by decide) (by omega)))
      rw [this]; simp
  rw [h2, Nat.mul_comm (2 ^ 8) x, ← this]
  omega
theorem crc_le : ∀ (l : List UInt8) (c : Nat), l.foldl crcByte c = crcBits (8 * l.length) (c ^^^ leN l)
  | [], c => by simp [crcBits, leN]
  | b :: l, c => by
    have hb := b.toNat_lt
    have h1 : leN (b :: l) = b.toNat ^^^ (2 ^ 8 * leN l) := xor_low (leN l) (by omega) rfl
    rw [List.foldl_cons, crc_le l, h1, ← Nat.xor_assoc]
    have e : 8 * (b :: l).length = 8 + 8 * l.length := by simp; omega
    rw [e, crcBits_add, crcBits_xor 8 (c ^^^ b.toNat), crcBits_shift]
    rfl
theorem leN_lt : ∀ l : List UInt8, leN l < 2 ^ (8 * l.length)
  | [] => by simp [leN]
  | b :: l => by
    have := leN_lt l
    have hb := b.toNat_lt
    have e : 8 * (b :: l).length = 8 * l.length + 8 := by simp; omega
    rw [e, Nat.pow_add, leN]
    omega
theorem leN_inj : ∀ {a b : List UInt8}, a.length = b.length → leN a = leN b → a = b
  | [], [], _, _ => rfl
  | [], _ :: _, h, _ => absurd h (by simp)
  | _ :: _, [], h, _ => absurd h (by simp)
  | x :: a, y :: b, h, he => by
    have h1 := x.toNat_lt
    have h2 := y.toNat_lt
    simp only [leN] at he
    have e1 : x.toNat = y.toNat := by omega
    have e2 : leN a = leN b := by omega
    rw [UInt8.toNat_inj.1 e1, leN_inj (by simpa using h) e2]
theorem leN_append : ∀ a b : List UInt8, leN (a ++ b) = leN a + 2 ^ (8 * a.length) * leN b
  | [], b => by simp [leN]
  | x :: a, b => by
    have e : 8 * (x :: a).length = 8 + 8 * a.length := by simp; omega
    have e8 : (2 : Nat) ^ 8 = 256 := rfl
    rw [List.cons_append, leN, leN_append a b, leN, e, Nat.pow_add, Nat.mul_add, ← Nat.mul_assoc, e8, Nat.add_assoc]
/-- Two texts of one length with the same check sum, that differ in a burst of at most 32 bits, are one. -/
theorem crc_burst {a b : List UInt8} (hl : a.length = b.length) (t p : Nat) (ht : t < 4294967296) (hp : p ≤ 8 * a.length) (hx : leN b = leN a ^^^ (2 ^ p * t)) (hc : crcN a = crcN b) : t = 0 := by
  have h0 : ∀ x y : Nat, x ^^^ 4294967295 = y ^^^ 4294967295 → x = y := fun x y h => by
    have : x ^^^ 4294967295 ^^^ 4294967295 = y ^^^ 4294967295 ^^^ 4294967295 := by rw [h]
    rwa [Nat.xor_assoc, Nat.xor_assoc, Nat.xor_self, Nat.xor_zero, Nat.xor_zero] at this
  have h1 := h0 _ _ hc
  rw [crc_le, crc_le, ← hl, hx, ← Nat.xor_assoc, crcBits_xor (8 * a.length) (4294967295 ^^^ leN a)] at h1
  have h2 : crcBits (8 * a.length) (2 ^ p * t) = 0 := by
    have h3 : ∀ x y : Nat, x = x ^^^ y → y = 0 := fun x y h => by
      have : x ^^^ x = x ^^^ (x ^^^ y) := by rw [← h]
      rw [← Nat.xor_assoc, Nat.xor_self, Nat.zero_xor] at this
      exact this.symm
    exact h3 _ _ h1
  have e : 8 * a.length = p + (8 * a.length - p) := by omega
  rw [e, crcBits_add, crcBits_shift] at h2
  exact crcBits_zero _ ht h2
theorem xor_hi {n a : Nat} (x : Nat) (ha : a < 2 ^ n) : a + 2 ^ n * x = a ^^^ (2 ^ n * x) := by
  have := Nat.shiftLeft_add_eq_or_of_lt (i := n) (b := a) ha x
  rw [Nat.shiftLeft_eq] at this
  have h2 : a ^^^ 2 ^ n * x = 2 ^ n * x ||| a := by
    apply Nat.eq_of_testBit_eq
    intro i
    rw [Nat.testBit_xor, Nat.testBit_or]
    by_cases hi : i < n
    · have : (2 ^ n * x).testBit i = false := by
        rw [Nat.testBit_two_pow_mul]; simp; omega
      rw [this]; simp
    · have : a.testBit i = false := Nat.testBit_lt_two_pow (Nat.lt_of_lt_of_le ha (Nat.pow_le_pow_right (by decide) (by omega)))
      rw [this]; simp
  rw [h2, Nat.mul_comm (2 ^ n) x, ← this]
  omega
theorem hi_inj {n a b x y : Nat} (ha : a < 2 ^ n) (hb : b < 2 ^ n) (h : a + 2 ^ n * x = b + 2 ^ n * y) : a = b ∧ x = y := by
  have hp : 0 < 2 ^ n := Nat.two_pow_pos n
  have h1 : (a + 2 ^ n * x) % 2 ^ n = (b + 2 ^ n * y) % 2 ^ n := by rw [h]
  rw [Nat.add_mul_mod_self_left, Nat.add_mul_mod_self_left, Nat.mod_eq_of_lt ha, Nat.mod_eq_of_lt hb] at h1
  subst h1
  exact ⟨rfl, Nat.eq_of_mul_eq_mul_left hp (by omega)⟩
theorem crcN_lt (l : List UInt8) : crcN l < 4294967296 := Nat.xor_lt_two_pow (n := 32) (crcFold_lt l (by decide)) (by decide)
/-- A text with its check sum, of which at most 32 bits in a row ahead of the sum are turned, bears its check sum no more. -/
theorem sum_turned {T T' own : List UInt8} (t p : Nat) (hl : own.length = T.length + 4) (ht : t < 4294967296) (hp : p ≤ 8 * T.length) (hx : 2 ^ p * t < 2 ^ (8 * T.length))
    (h : leN own = leN (T ++ be4 (crcN T)) ^^^ (2 ^ p * t)) (ho : own = T' ++ be4 (crcN T')) : t = 0 := by
  have hT : T'.length = T.length := by
    rw [ho, List.length_append] at hl
    have : (be4 (crcN T')).length = 4 := rfl
    omega
  have hA := leN_lt T
  have hA' := leN_lt T'
  rw [hT] at hA'
  have hN : leN T ^^^ 2 ^ p * t < 2 ^ (8 * T.length) := Nat.xor_lt_two_pow hA hx
  rw [ho, leN_append, leN_append, hT, xor_hi (leN (be4 (crcN T))) hA, Nat.xor_assoc, Nat.xor_comm (2 ^ (8 * T.length) * _), ← Nat.xor_assoc, ← xor_hi _ hN] at h
  obtain ⟨h1, h2⟩ := hi_inj hA' hN h
  have h3 := leN_inj (by rfl) h2
  have h4 : crcN T = crcN T' := by
    have e1 := numN_be4 (crcN_lt T)
    have e2 := numN_be4 (crcN_lt T')
    rw [← e1, ← e2, h3]
  exact crc_burst hT.symm t p ht hp h1 h4
theorem openN_turned {l : List Cell} {r : Int} {b own : List UInt8} (t p : Nat) (hb : buildN l r = (b, 0)) (hl : own.length = b.length) (ht : t < 4294967296) (hp : p ≤ 8 * (b.length - 4))
    (hx : 2 ^ p * t < 2 ^ (8 * (b.length - 4))) (h : leN own = leN b ^^^ (2 ^ p * t)) (ht0 : t ≠ 0) : openN ⟨own.toArray⟩ = none := by
  cases ho : openN ⟨own.toArray⟩ with
  | none => rfl
  | some q =>
    obtain ⟨l', r'⟩ := q
    obtain ⟨h1, -⟩ := openN_some ho
    obtain ⟨-, -, -, h2, -⟩ := buildN_ok h1
    obtain ⟨-, -, -, h3, -⟩ := buildN_ok hb
    have h2' : own = tailN l' r'.toNat ++ be4 (crcN (tailN l' r'.toNat)) := h2
    have hz : b.length - 4 = (tailN l r.toNat).length := by
      rw [h3, blockN, List.length_append]
      show _ + 4 - 4 = _
      omega
    have hz2 : b.length = (tailN l r.toNat).length + 4 := by rw [h3, blockN, List.length_append]; rfl
    rw [hz] at hp hx
    exact absurd (sum_turned t p (hl.trans hz2) ht hp hx (by rw [h, h3]; rfl) h2') ht0
theorem openN_unturned {own b : List UInt8} (hl : own.length = b.length) (h : leN own = leN b) : own = b := leN_inj hl h
theorem mul_xor (n a b : Nat) : 2 ^ n * (a ^^^ b) = (2 ^ n * a) ^^^ (2 ^ n * b) := by
  have := Nat.shiftLeft_xor_distrib (a := a) (b := b) (i := n)
  rw [Nat.shiftLeft_eq, Nat.shiftLeft_eq, Nat.shiftLeft_eq] at this
  rwa [Nat.mul_comm a, Nat.mul_comm b, Nat.mul_comm (a ^^^ b)] at this
def flipB (l : List UInt8) (k : Nat) : List UInt8 := l.modify (k / 8) (· ^^^ UInt8.ofNat (2 ^ (k % 8)))
theorem flipB_len (l : List UInt8) (k : Nat) : (flipB l k).length = l.length := by unfold flipB; simp
theorem leN_flip : ∀ (l : List UInt8) (k : Nat), k < 8 * l.length → leN (flipB l k) = leN l ^^^ 2 ^ k
  | [], k, h => absurd h (by simp)
  | b :: l, k, h => by
    have hb := b.toNat_lt
    by_cases hk : k < 8
    · have e1 : k / 8 = 0 := by omega
      have e2 : k % 8 = k := by omega
      have h1 : flipB (b :: l) k = (b ^^^ UInt8.ofNat (2 ^ k)) :: l := by
        unfold flipB
        rw [e1, e2]
        rfl
      have hp : 2 ^ k < 2 ^ 8 := Nat.pow_lt_pow_right (by decide) hk
      have h2 : (UInt8.ofNat (2 ^ k)).toNat = 2 ^ k := by rw [UInt8.toNat_ofNat']; exact Nat.mod_eq_of_lt hp
      have h3 : (b ^^^ UInt8.ofNat (2 ^ k)).toNat = b.toNat ^^^ 2 ^ k := by rw [UInt8.toNat_xor, h2]
      have h4 : b.toNat ^^^ 2 ^ k < 2 ^ 8 := Nat.xor_lt_two_pow (by omega) hp
      have h5 : leN (b :: l) = b.toNat + 2 ^ 8 * leN l := rfl
      have h6 : leN ((b ^^^ UInt8.ofNat (2 ^ k)) :: l) = (b ^^^ UInt8.ofNat (2 ^ k)).toNat + 2 ^ 8 * leN l := rfl
      rw [h1, h5, h6, h3, xor_hi _ h4, xor_hi (n := 8) _ (by omega), Nat.xor_assoc, Nat.xor_comm (2 ^ k), ← Nat.xor_assoc]
    · have e1 : k / 8 = (k - 8) / 8 + 1 := by omega
      have e2 : k % 8 = (k - 8) % 8 := by omega
      have h1 : flipB (b :: l) k = b :: flipB l (k - 8) := by
        unfold flipB
        rw [e1, e2]
        rfl
      have h5 : leN (b :: l) = b.toNat + 2 ^ 8 * leN l := rfl
      have h6 : leN (b :: flipB l (k - 8)) = b.toNat + 2 ^ 8 * leN (flipB l (k - 8)) := rfl
      have h7 : 2 ^ 8 * 2 ^ (k - 8) = 2 ^ k := by rw [← Nat.pow_add]; congr 1; omega
      rw [h1, h6, leN_flip l (k - 8) (by simp at h; omega), h5, xor_hi (n := 8) _ (by omega), xor_hi (n := 8) _ (by omega), mul_xor, ← Nat.xor_assoc, h7]
/-- The text with the turned bits of the first i. -/
def turnB (b : List UInt8) (t p size : Nat) : Nat → List UInt8
  | 0 => b
  | i + 1 => if t / 2 ^ i % 2 = 1 ∧ p + i < size then flipB (turnB b t p size i) (p + i) else turnB b t p size i
theorem turnB_len (b : List UInt8) (t p size : Nat) : ∀ i, (turnB b t p size i).length = b.length
  | 0 => rfl
  | i + 1 => by
    unfold turnB
    split
    · rw [flipB_len, turnB_len b t p size i]
    · exact turnB_len b t p size i
theorem mod_bit (t i : Nat) : t % 2 ^ (i + 1) = t % 2 ^ i + 2 ^ i * (t / 2 ^ i % 2) := by
  rw [Nat.pow_succ]
  exact Nat.mod_mul
theorem turnB_le (b : List UInt8) (t p size : Nat) (hs : size ≤ 8 * b.length) (hp : p < size) : ∀ i, leN (turnB b t p size i) = leN b ^^^ (2 ^ p * (t % 2 ^ (min i (size - p))))
  | 0 => by simp [turnB, Nat.mod_one]
  | i + 1 => by
    have ih := turnB_le b t p size hs hp i
    unfold turnB
    by_cases hlt : p + i < size
    · have m1 : min (i + 1) (size - p) = i + 1 := by omega
      have m2 : min i (size - p) = i := by omega
      have hi : t % 2 ^ i < 2 ^ i := Nat.mod_lt _ (Nat.two_pow_pos i)
      rw [m1, mod_bit, xor_hi _ hi, mul_xor]
      rw [m2] at ih
      rcases (by omega : t / 2 ^ i % 2 = 1 ∨ t / 2 ^ i % 2 = 0) with hb | hb
      · rw [if_pos ⟨hb, hlt⟩, leN_flip _ _ (by rw [turnB_len]; omega), ih, hb, Nat.mul_one, ← Nat.pow_add, Nat.xor_assoc]
      · rw [if_neg (by omega), ih, hb]
        simp
    · have m : min (i + 1) (size - p) = min i (size - p) := by omega
      rw [if_neg (by omega), m, ih]
/-- Was any bit turned within the first i? -/
def turned (t p size i : Nat) : Bool := decide (t % 2 ^ (min i (size - p)) ≠ 0)
theorem turned_zero (t p size : Nat) : turned t p size 0 = false := by simp [turned, Nat.mod_one]
theorem turned_succ (t p size i : Nat) : turned t p size (i + 1) = (turned t p size i || decide (t / 2 ^ i % 2 = 1 ∧ p + i < size)) := by
  unfold turned
  by_cases hlt : p + i < size
  · have m1 : min (i + 1) (size - p) = i + 1 := by omega
    have m2 : min i (size - p) = i := by omega
    rw [m1, m2, mod_bit]
    have hp := Nat.two_pow_pos i
    rcases (by omega : t / 2 ^ i % 2 = 1 ∨ t / 2 ^ i % 2 = 0) with hb | hb
    · rw [hb]
      simp [hlt]
    · rw [hb]
      simp
  · have m : min (i + 1) (size - p) = min i (size - p) := by omega
    rw [m]
    simp [hlt]
theorem openN_turnB {l : List Cell} {r : Int} {b : List UInt8} (hf : ∀ c ∈ l, fitC c) (t p : Nat) (hb : buildN l r = (b, 0)) (h4 : 4 ≤ b.length) (ht : t < 4294967296) (hp : p < 8 * (b.length - 4)) :
    (openN ⟨(turnB b t p (8 * (b.length - 4)) 32).toArray⟩).isNone = turned t p (8 * (b.length - 4)) 32 := by
  obtain ⟨S, hS⟩ : ∃ S, 8 * (b.length - 4) = S := ⟨_, rfl⟩
  rw [hS] at hp ⊢
  have hle := turnB_le b t p S (by omega) hp 32
  have hlen := turnB_len b t p S 32
  obtain ⟨u, hu⟩ : ∃ u, t % 2 ^ (min 32 (S - p)) = u := ⟨_, rfl⟩
  unfold turned
  rw [hu] at hle ⊢
  have hu1 : u ≤ t := by rw [← hu]; exact Nat.mod_le _ _
  by_cases h0 : u = 0
  · subst h0
    rw [Nat.mul_zero, Nat.xor_zero] at hle
    rw [leN_inj hlen hle, openN_build hf hb]
    rfl
  · have hx : 2 ^ p * u < 2 ^ S := by
      have h1 : u < 2 ^ (S - p) := by
        have h2 : u < 2 ^ (min 32 (S - p)) := by rw [← hu]; exact Nat.mod_lt _ (Nat.two_pow_pos _)
        exact Nat.lt_of_lt_of_le h2 (Nat.pow_le_pow_right (by decide) (Nat.min_le_right _ _))
      calc 2 ^ p * u < 2 ^ p * 2 ^ (S - p) := Nat.mul_lt_mul_of_pos_left h1 (Nat.two_pow_pos p)
        _ = 2 ^ S := by rw [← Nat.pow_add]; congr 1; omega
    rw [openN_turned u p hb hlen (by omega) (by omega) (by rw [hS]; exact hx) hle h0]
    simp [h0]
end Go.Proofs.Ytbcaiegglbdonaa
