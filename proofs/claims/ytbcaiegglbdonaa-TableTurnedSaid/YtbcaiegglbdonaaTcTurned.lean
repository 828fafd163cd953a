/-
  The law TableTurned is proved: called with any arguments, it returns true and leaves its arguments as they were. Conditions: none of its own.
-/
import Derived.Test.YtbcaiegglbdonaaTbI
/-
  A table's bytes one of which was turned are no table. Plain.
-/
namespace Go.Proofs.Ytbcaiegglbdonaa
open Go
set_option linter.unusedSimpArgs false

theorem leN_set : ∀ (l : List UInt8) (i : Nat) (x y : UInt8), l[i]? = some x → leN (l.set i y) = leN l ^^^ (2 ^ (8 * i) * (x.toNat ^^^ y.toNat))
  | [], i, x, y, h => by cases h
  | c :: l, 0, x, y, h => by
    cases h
    rw [List.set_cons_zero]
    show y.toNat + 256 * leN l = (c.toNat + 256 * leN l) ^^^ _
    have e1 := xor_hi (n := 8) (a := y.toNat) (leN l) y.toNat_lt
    have e2 := xor_hi (n := 8) (a := c.toNat) (leN l) c.toNat_lt
    rw [show (256 : Nat) = 2 ^ 8 by decide, e1, e2, Nat.mul_zero, Nat.pow_zero, Nat.one_mul]
    rw [Nat.xor_comm c.toNat (2 ^ 8 * leN l), Nat.xor_assoc, ← Nat.xor_assoc c.toNat, Nat.xor_self, Nat.zero_xor, Nat.xor_comm]
  | c :: l, i + 1, x, y, h => by
    have ih := leN_set l i x y (by simpa using h)
    rw [List.set_cons_succ]
    show c.toNat + 256 * leN (l.set i y) = (c.toNat + 256 * leN l) ^^^ _
    have e1 := xor_hi (n := 8) (a := c.toNat) (leN l) c.toNat_lt
    have e2 := xor_hi (n := 8) (a := c.toNat) (leN (l.set i y)) c.toNat_lt
    rw [show (256 : Nat) = 2 ^ 8 by decide, e1, e2, ih, mul_xor, ← Nat.mul_assoc, ← Nat.pow_add, Nat.xor_assoc, show 8 + 8 * i = 8 * (i + 1) by omega]
theorem sealed_one {T T' : List UInt8} {i : Nat} {x y : UInt8} (hx : (T ++ be4 (crcN T))[i]? = some x) (h : (T ++ be4 (crcN T)).set i y = T' ++ be4 (crcN T')) : y = x := by
  have hlen : ((T ++ be4 (crcN T)).set i y).length = T.length + 4 := by rw [List.length_set, List.length_append]; rfl
  have hT : T'.length = T.length := by
    rw [h, List.length_append, be4_len'] at hlen
    omega
  by_cases hi : i < T.length
  · have h1 := leN_set (T ++ be4 (crcN T)) i x y hx
    have ht : x.toNat ^^^ y.toNat < 2 ^ 8 := Nat.xor_lt_two_pow x.toNat_lt y.toNat_lt
    have h0 := sum_turned (T := T) (T' := T') (own := (T ++ be4 (crcN T)).set i y) (x.toNat ^^^ y.toNat) (8 * i) hlen (Nat.lt_of_lt_of_le ht (by decide)) (by omega) (by
      have e : 2 ^ (8 * i) * (x.toNat ^^^ y.toNat) < 2 ^ (8 * i) * 2 ^ 8 := (Nat.mul_lt_mul_left (Nat.two_pow_pos _)).2 ht
      rw [← Nat.pow_add] at e
      exact Nat.lt_of_lt_of_le e (Nat.pow_le_pow_right (by decide) (by omega))) h1 h
    have : x.toNat = y.toNat := by
      have h3 : x.toNat ^^^ y.toNat ^^^ y.toNat = 0 ^^^ y.toNat := by rw [h0]
      rw [Nat.xor_assoc, Nat.xor_self, Nat.xor_zero, Nat.zero_xor] at h3
      exact h3
    exact (UInt8.toNat_inj.1 this).symm
  · have h1 : T' = T := by
      have h2 := congrArg (List.take T.length) h
      rw [List.take_set_of_le (by omega)] at h2
      rw [List.take_append_of_le_length (by omega), List.take_append_of_le_length (by omega), List.take_length, ← hT, List.take_length] at h2
      exact h2.symm
    rw [h1] at h
    have hlt := (List.getElem?_eq_some_iff.1 hx).1
    have h3 : ((T ++ be4 (crcN T)).set i y)[i]? = some y := List.getElem?_set_self hlt
    rw [h, hx] at h3
    exact (Option.some.inj h3).symm
theorem ex_set_out (l : List UInt8) {n i j : Nat} (y : UInt8) (h : n < i ∨ j ≤ n) : ((⟨(l.set n y).toArray⟩ : ByteArray).extract i j) = (⟨l.toArray⟩ : ByteArray).extract i j := by
  apply ByteArray.ext
  apply Array.ext'
  rw [ByteArray.data_extract, ByteArray.data_extract, Array.toList_extract, Array.toList_extract, List.extract_eq_take_drop, List.extract_eq_take_drop]
  show List.take (j - i) (List.drop i (l.set n y)) = List.take (j - i) (List.drop i l)
  rcases h with h | h
  · rw [List.drop_set_of_lt h]
  · by_cases hi : n < i
    · rw [List.drop_set_of_lt hi]
    · rw [List.drop_set, if_neg hi, List.take_set_of_le (by omega)]
theorem open_changed {l : List Cell} {r : Nat} {x y : UInt8} {i : Nat} (hx : (blockN l r)[i]? = some x) (hne : y ≠ x) : openN ⟨((blockN l r).set i y).toArray⟩ = none := by
  cases ho : openN ⟨((blockN l r).set i y).toArray⟩ with
  | none => rfl
  | some q =>
    obtain ⟨l', r'⟩ := q
    obtain ⟨h1, -⟩ := openN_some ho
    obtain ⟨-, -, -, h2, -⟩ := buildN_ok h1
    have h2 : (blockN l r).set i y = tailN l' r'.toNat ++ be4 (crcN (tailN l' r'.toNat)) := h2
    exact absurd (sealed_one (T := tailN l r) hx h2) hne
theorem idx_turned {l : List Cell} {r : Nat} {ps : List (Nat × Nat)} {bs rest : List UInt8} {x y : UInt8} {n : Nat} (hb : bs = partB l r ps ps.length ++ rest) (hB : (partB l r ps ps.length).length < 18446744073709551616)
    (hk : ∀ p ∈ ps, (keyB l p.1).size < 18446744073709551616 ∧ pieceL l p ≠ [] ∧ openN ⟨(blockN (pieceL l p) r).toArray⟩ = some (pieceL l p, (r : Int)))
    (hx : bs[n]? = some x) (hne : y ≠ x) (hn : n < (partB l r ps ps.length).length) :
    ∀ (d j m : Nat), ps.length - j = d → (sufI l r ps j).length ≤ m → (partB l r ps j).length ≤ n → idxN ⟨(bs.set n y).toArray⟩ (partB l r ps ps.length).length m ⟨(sufI l r ps j).toArray⟩ = none := by
  intro d
  induction d with
  | zero =>
    intro j m hj _ hp
    exfalso
    have : partB l r ps j = partB l r ps ps.length := by
      unfold partB
      rw [List.take_of_length_le (by omega), List.take_length]
    rw [this] at hp
    omega
  | succ d ih =>
    intro j m hj hm hpn
    have hlt : j < ps.length := by omega
    obtain ⟨p, hp⟩ : ∃ p, ps[j]? = some p := ⟨_, List.getElem?_eq_getElem hlt⟩
    obtain ⟨h1, h2, h3⟩ := hk p (List.mem_of_getElem? hp)
    have hle := partB_le (l := l) (r := r) hp
    have hpos : 1 ≤ (entN l r ps j).length := by
      rw [entN_eq hp]
      have := varN_pos (keyB l p.1).size
      unfold WM.textN
      simp only [List.length_append]; omega
    have hst := sufI_step (l := l) (r := r) hlt
    obtain ⟨m, rfl⟩ : ∃ m', m = m' + 1 := ⟨m - 1, by rw [hst, List.length_append] at hm; omega⟩
    have hsz : ¬ (⟨(sufI l r ps j).toArray⟩ : ByteArray).size = 0 := by
      show ¬ (sufI l r ps j).toArray.size = 0
      rw [hst]; simp only [List.size_toArray, List.length_append]; omega
    rw [idxN_step _ _ _ hsz]
    have he : entR ⟨(sufI l r ps j).toArray⟩ = some (keyB l p.1, (partB l r ps j).length, (blockN (pieceL l p) r).length, ⟨(sufI l r ps (j + 1)).toArray⟩) := by
      rw [hst, entN_eq hp]
      exact entR_ent _ _ _ _ h1 (by omega) (by omega)
    rw [he]
    dsimp only
    rw [if_neg (by omega)]
    obtain ⟨R, hR⟩ := partB_split (l := l) (r := r) hp
    have hbe : bs = partB l r ps j ++ (blockN (pieceL l p) r ++ (R ++ rest)) := by rw [hb, hR]; simp [List.append_assoc]
    by_cases hin : n < (partB l r ps j).length + (blockN (pieceL l p) r).length
    · have hex : (⟨(bs.set n y).toArray⟩ : ByteArray).extract (partB l r ps j).length ((partB l r ps j).length + (blockN (pieceL l p) r).length) = ⟨((blockN (pieceL l p) r).set (n - (partB l r ps j).length) y).toArray⟩ := by
        apply ByteArray.ext
        apply Array.ext'
        have e : bs.set n y = partB l r ps j ++ ((blockN (pieceL l p) r).set (n - (partB l r ps j).length) y ++ (R ++ rest)) := by
          rw [hbe, List.set_append_right _ _ (by omega), List.set_append_left _ _ (by omega)]
        rw [e]
        exact ex_mid _ _ _ _ _ rfl (by rw [List.length_set])
      have hx2 : (blockN (pieceL l p) r)[n - (partB l r ps j).length]? = some x := by
        rw [hbe, List.getElem?_append_right (by omega), List.getElem?_append_left (by omega)] at hx
        exact hx
      rw [hex, open_changed hx2 hne]
    · rw [ex_set_out bs y (.inr (by omega))]
      have hex : (⟨bs.toArray⟩ : ByteArray).extract (partB l r ps j).length ((partB l r ps j).length + (blockN (pieceL l p) r).length) = ⟨(blockN (pieceL l p) r).toArray⟩ := by
        apply ByteArray.ext
        apply Array.ext'
        rw [hbe]
        exact ex_mid _ _ _ _ _ rfl rfl
      rw [hex, h3]
      dsimp only
      rw [if_neg h2]
      have hlen2 : (sufI l r ps (j + 1)).length ≤ m := by rw [hst, List.length_append] at hm; omega
      rw [ih (j + 1) m (by omega) hlen2 (by rw [partB_succ hp, List.length_append]; omega)]
      rfl
theorem num4_set (bs : List UInt8) {n : Nat} (y : UInt8) (k : Nat) (h : n < bs.length - 36 + 4 * k ∨ bs.length - 36 + 4 * k + 4 ≤ n) : num4 ⟨(bs.set n y).toArray⟩ k = num4 ⟨bs.toArray⟩ k := by
  have hz : (⟨(bs.set n y).toArray⟩ : ByteArray).size = bs.length := by show (bs.set n y).toArray.size = _; simp
  have hz2 : (⟨bs.toArray⟩ : ByteArray).size = bs.length := rfl
  unfold num4
  rw [hz, hz2, ex_set_out bs y h]
theorem num2_set (bs : List UInt8) {n : Nat} (y : UInt8) (k : Nat) (h : n < bs.length - 12 + 2 * k ∨ bs.length - 12 + 2 * k + 2 ≤ n) : num2 ⟨(bs.set n y).toArray⟩ k = num2 ⟨bs.toArray⟩ k := by
  have hz : (⟨(bs.set n y).toArray⟩ : ByteArray).size = bs.length := by show (bs.set n y).toArray.size = _; simp
  have hz2 : (⟨bs.toArray⟩ : ByteArray).size = bs.length := rfl
  unfold num2
  rw [hz, hz2, ex_set_out bs y h]
theorem foot_fields (bs : List UInt8) (h : 36 ≤ bs.length) : footOf ⟨bs.toArray⟩ = ⟨num4 ⟨bs.toArray⟩ 0, num4 ⟨bs.toArray⟩ 1, num4 ⟨bs.toArray⟩ 2, num4 ⟨bs.toArray⟩ 3, num4 ⟨bs.toArray⟩ 4, num4 ⟨bs.toArray⟩ 5, num2 ⟨bs.toArray⟩ 0, num2 ⟨bs.toArray⟩ 1⟩ := by
  have hz : (⟨bs.toArray⟩ : ByteArray).size = bs.length := rfl
  unfold footOf
  rw [if_neg (by omega)]
theorem topen_some {b : ByteArray} {es : List Ent} (h : tOpenN b = some es) : footOk b = true ∧ tableN (allC es) (footOf b).b (footOf b).r (footOf b).t = (b.data.toList, 0) := by
  unfold tOpenN at h
  split at h
  · rename_i hok
    refine ⟨hok, ?_⟩
    split at h
    · cases h
    · split at h
      · cases h
      · split at h
        · rename_i h2
          injection h with h
          rw [← h]; exact h2
        · cases h
  · cases h
theorem BuiltT.split {l : List Cell} {b r t : Nat} {bs : List UInt8} (h : BuiltT l b r t bs) : ∃ T, bs = bodyT l b r ++ ((T ++ be4 (crcN T)) ++ magicN) := by
  refine ⟨filterN (keysN l) t ++ (indexT l b r ++ foot0 (bodyT l b r).length (filterN (keysN l) t).length (indexT l b r).length l.length b r t), ?_⟩
  rw [h.eq]
  unfold bytesT
  conv => lhs; rw [wholeN]
  simp only [List.append_assoc]
/-- One byte turned is told. -/
theorem topen_turned {l : List Cell} {b r t : Nat} {bs : List UInt8} (h : BuiltT l b r t bs) (hs : ∀ c ∈ l, 0 ≤ c.seq) {n : Nat} {x y : UInt8} (hx : bs[n]? = some x) (hne : y ≠ x) : tOpenN ⟨(bs.set n y).toArray⟩ = none := by
  obtain ⟨hf, hok, hlen⟩ := h.foot
  have hlt := (List.getElem?_eq_some_iff.1 hx).1
  have hff := foot_fields bs (by omega)
  have hff2 := foot_fields (bs.set n y) (by rw [List.length_set]; omega)
  have hsm := h.small
  rw [← h.eq, hlen] at hsm
  have hz : (⟨bs.toArray⟩ : ByteArray).size = bs.length := rfl
  by_cases hn : n < (bodyT l b r).length
  · have hfe : footOf ⟨(bs.set n y).toArray⟩ = footOf ⟨bs.toArray⟩ := by
      rw [hff, hff2, num4_set bs y 0 (.inl (by omega)), num4_set bs y 1 (.inl (by omega)), num4_set bs y 2 (.inl (by omega)), num4_set bs y 3 (.inl (by omega)), num4_set bs y 4 (.inl (by omega)), num4_set bs y 5 (.inl (by omega)), num2_set bs y 0 (.inl (by omega)), num2_set bs y 1 (.inl (by omega))]
    have hidx : (⟨(bs.set n y).toArray⟩ : ByteArray).extract (footOf ⟨bs.toArray⟩).ia ((footOf ⟨bs.toArray⟩).ia + (footOf ⟨bs.toArray⟩).isz) = ⟨(sufI l r (cutN l b) 0).toArray⟩ := by
      rw [hf]
      dsimp only
      rw [ex_set_out bs y (.inl (by omega)), sufI_zero]
      have hbs : bs = wholeN (bodyT l b r) (filterN (keysN l) t) (indexT l b r) l.length b r t := h.eq
      apply ByteArray.ext
      apply Array.ext'
      have e : bs = (bodyT l b r ++ filterN (keysN l) t) ++ (indexT l b r ++ (foot0 (bodyT l b r).length (filterN (keysN l) t).length (indexT l b r).length l.length b r t ++ (be4 (crcN (filterN (keysN l) t ++ (indexT l b r ++ foot0 (bodyT l b r).length (filterN (keysN l) t).length (indexT l b r).length l.length b r t))) ++ magicN))) := by
        rw [hbs]; unfold wholeN; simp only [List.append_assoc]
      rw [e]
      exact ex_mid _ _ _ _ _ (by rw [List.length_append]) (by rw [List.length_append])
    have hbs2 : bs = partB l r (cutN l b) (cutN l b).length ++ (filterN (keysN l) t ++ (indexT l b r ++ (foot0 (bodyT l b r).length (filterN (keysN l) t).length (indexT l b r).length l.length b r t ++ (be4 (crcN (filterN (keysN l) t ++ (indexT l b r ++ foot0 (bodyT l b r).length (filterN (keysN l) t).length (indexT l b r).length l.length b r t))) ++ magicN)))) := h.eq
    have hnone := idx_turned (y := y) hbs2 (by show (bodyT l b r).length < _; omega) (h.ents hs) hx hne hn _ 0 (indexT l b r).length rfl (by rw [sufI_zero]; exact Nat.le_refl _) (Nat.zero_le _)
    unfold tOpenN
    rw [hfe, hidx, hf]
    dsimp only
    have hnone : idxN ⟨(bs.set n y).toArray⟩ (bodyT l b r).length (indexT l b r).length ⟨(sufI l r (cutN l b) 0).toArray⟩ = none := hnone
    rw [hnone]
    split <;> rfl
  · cases ho : tOpenN ⟨(bs.set n y).toArray⟩ with
    | none => rfl
    | some es =>
      exfalso
      obtain ⟨hok2, htb⟩ := topen_some ho
      obtain ⟨b', r', t', _, _, _, h'⟩ := tableN_built htb
      have h' : BuiltT (allC es) b' r' t' (bs.set n y) := h'
      obtain ⟨hf', _, hlen'⟩ := h'.foot
      rw [List.length_set, hlen] at hlen'
      rw [hff] at hf
      rw [hff2] at hf'
      injection hf with a0 a1 a2 a3 _ _ _ _
      injection hf' with c0 c1 c2 c3 _ _ _ _
      have hbody : (bodyT (allC es) b' r').length = (bodyT l b r).length := by
        by_cases h0 : n < bs.length - 36 + 4 * 0 ∨ bs.length - 36 + 4 * 0 + 4 ≤ n
        · rw [num4_set bs y 0 h0] at c0
          omega
        · rw [num4_set bs y 1 (.inl (by omega))] at c1
          rw [num4_set bs y 2 (.inl (by omega))] at c2
          omega
      obtain ⟨T, hT⟩ := h.split
      obtain ⟨T', hT'⟩ := h'.split
      have hset : bs.set n y = bodyT l b r ++ ((T ++ be4 (crcN T)) ++ magicN).set (n - (bodyT l b r).length) y := by
        conv => lhs; rw [hT]
        rw [List.set_append_right _ _ (by omega)]
      rw [hset] at hT'
      have hX := (List.append_inj hT' hbody.symm).2
      have hml : magicN.length = 4 := rfl
      have hTl : (T ++ be4 (crcN T)).length = (T' ++ be4 (crcN T')).length := by
        have := congrArg List.length hX
        rw [List.length_set, List.length_append, List.length_append (bs := magicN)] at this
        omega
      have hx2 : ((T ++ be4 (crcN T)) ++ magicN)[n - (bodyT l b r).length]? = some x := by
        rw [hT, List.getElem?_append_right (by omega)] at hx
        exact hx
      by_cases hm : n - (bodyT l b r).length < (T ++ be4 (crcN T)).length
      · rw [List.set_append_left _ _ hm] at hX
        rw [List.getElem?_append_left hm] at hx2
        have h5 := (List.append_inj hX (by rw [List.length_set]; exact hTl)).1
        exact hne (sealed_one hx2 h5)
      · rw [List.set_append_right _ _ (by omega)] at hX
        rw [List.getElem?_append_right (by omega)] at hx2
        have h5 := (List.append_inj hX hTl).2
        have hlt2 := (List.getElem?_eq_some_iff.1 hx2).1
        have h6 : (magicN.set (n - (bodyT l b r).length - (T ++ be4 (crcN T)).length) y)[n - (bodyT l b r).length - (T ++ be4 (crcN T)).length]? = some y := List.getElem?_set_self hlt2
        rw [h5, hx2] at h6
        exact hne (Option.some.inj h6).symm
end Go.Proofs.Ytbcaiegglbdonaa

/-
  The walk of the law TableTurned.
-/
namespace Go.Proofs.Ytbcaiegglbdonaa
open Go Go.RowKit
set_option linter.unusedSimpArgs false

theorem tableN_none {l : List Cell} {b r t : Int} {d : List UInt8} {e : Int} (h : tableN l b r t = (d, e)) (he : e ≠ 0) : d = [] := by
  unfold tableN at h
  split at h
  · exact (congrArg Prod.fst h).symm
  · split at h
    · exact (congrArg Prod.fst h).symm
    · split at h
      · exact (congrArg Prod.fst h).symm
      · exact absurd (congrArg Prod.snd h).symm he
theorem own_some {w : World} {B e size n cap : Nat} {A : Option Addr} {xs : List Value} (h : w.ownsRow B e size (.slice A n cap) n xs) (hn : n ≠ 0) : ∃ g, A = some ⟨g, 0, none⟩ := by
  rcases h.2 with ⟨_, h2⟩ | ⟨g, _, _, h, _⟩
  · exact absurd h2 hn
  · cases h; exact ⟨g, rfl⟩
set_option maxRecDepth 100000 in
set_option maxHeartbeats 4000000 in
theorem tturned_walk {w : World} {A : Option Addr} {cap : Nat} {l : List Cell} (h : Reads w (.slice A l.length cap) l.length 4 (cellVals l)) (hcap : l.length ≤ cap) (hl : l.length ≤ 2932031007402) (hs : ∀ c ∈ l, 0 ≤ c.seq) (b r t a : Int) (by_ : Nat) (hby : by_ < 256) :
    Calls Try.prog 17 #[.slice A l.length cap, .agg #[.int .i64 b, .int .i64 r, .int .i64 t], .int .i64 a, .int .u8 (by_ : Nat)] w fun e w' => e = .returned (.bool true) ∧ Below w.heap.size w w' := by
  have bA : Below w.heap.size w (w.alloc (.cells #[.int .i64 b, .int .i64 r, .int .i64 t] 89)) := (Below.refl _ _).alloc (Nat.le_refl _) _
  have hbx := Blk.new w #[.int .i64 b, .int .i64 r, .int .i64 t] 89
  have hBU := fun (W : World) (hW : Below w.heap.size w W) => tbuild_spec (h.kept hW) hcap hl hs b r t
  obtain ⟨d, hd⟩ : ∃ d, tableN l b r t = d := ⟨_, rfl⟩
  obtain ⟨X, E⟩ := d
  rw [hd] at hBU
  unfold TBuildPost at hBU
  dsimp only at hBU
  have HBU := Lib.hid hBU
  clear hBU h
  by_cases hE : E = 0
  · subst hE
    obtain ⟨b', r', t', rfl, rfl, rfl, hB⟩ := tableN_built hd
    have hXl : 36 ≤ X.length := by have := hB.foot.2.2; omega
    have hsm : X.length ≤ 1048576 := by rw [hB.eq]; exact hB.small
    by_cases hb0 : by_ = 0
    · have hq : ((by_ : Int) == 0) = true := by simp [hb0]
      clear hd hB
      go_enter Try.func17, Try.ntmps17
      go_wp2_with fail
      refine (tlives _).mono ?_
      rintro e w1 ⟨rfl, hb1⟩
      have hbx1 := hbx.kept hb1
      have x0 := hbx1.cell 0 _ rfl
      have x1 := hbx1.cell 1 _ rfl
      have x2 := hbx1.cell 2 _ rfl
      have xl := hbx1.lt
      have d1 := bA.trans (hb1.mono bA.size)
      go_wp2_with fail
      refine (HBU.out _ d1).mono ?_
      rintro e w2 ⟨v2, rfl, own2, hb2⟩
      obtain ⟨A2, c2, rfl⟩ := (Reads.of_own own2).form
      go_wp2_with fail
      go_ret
      exact ⟨rfl, d1.trans (hb2.mono d1.size)⟩
    · have hq : ((by_ : Int) == 0) = false := by simp; exact hb0
      obtain ⟨L, hL⟩ : ∃ L, X.length = L := ⟨_, rfl⟩
      obtain ⟨m, hm⟩ : ∃ m, Int.tmod a (L : Int) = m := ⟨_, rfl⟩
      have hm1 : -(L : Int) < m ∧ m < (L : Int) := by
        rw [← hm]
        have h1 := Int.lt_tmod_of_pos a (show (0 : Int) < (L : Int) by omega)
        have h2 := Int.tmod_lt_of_pos a (show (0 : Int) < (L : Int) by omega)
        exact ⟨h1, h2⟩
      have hL0 : ¬ (L : Int) = 0 := by omega
      have w1 : IntKind.i64.wrap m = m := IntWalk.i64_in _ (by omega)
      obtain ⟨n, hn⟩ : ∃ n : Nat, (if m < 0 then m + (L : Int) else m) = (n : Int) := ⟨(if m < 0 then m + (L : Int) else m).toNat, by split <;> omega⟩
      have hnL : n < L := by split at hn <;> omega
      obtain ⟨x, hx⟩ : ∃ x, X[n]? = some x := ⟨_, List.getElem?_eq_getElem (by omega)⟩
      obtain ⟨y, hy⟩ : ∃ y : UInt8, x ^^^ UInt8.ofNat by_ = y := ⟨_, rfl⟩
      have hbt : (UInt8.ofNat by_).toNat = by_ := by rw [UInt8.toNat_ofNat']; exact Nat.mod_eq_of_lt hby
      have hyx : y ≠ x := by
        intro e
        rw [e] at hy
        have h1 := congrArg UInt8.toNat hy
        rw [UInt8.toNat_xor, hbt] at h1
        have h2 : x.toNat ^^^ (x.toNat ^^^ by_) = x.toNat ^^^ x.toNat := by rw [h1]
        rw [← Nat.xor_assoc, Nat.xor_self, Nat.zero_xor] at h2
        exact hb0 h2
      have hxor : bits .xor .u8 (x.toNat : Int) (by_ : Int) = (y.toNat : Int) := by
        rw [u8_xor_nat _ _ x.toNat_lt hby, ← hy, UInt8.toNat_xor, hbt]
      have hnone := topen_turned hB hs hx hyx
      have hzz : (⟨(X.set n y).toArray⟩ : ByteArray).size = L := by show (X.set n y).toArray.size = _; simp [hL]
      have hOP := fun (W : World) (A : Option Addr) (cap : Nat) (h : Reads W (.slice A L cap) L 1 (bv (X.set n y))) (hc : L ≤ cap) => topen_spec (w := W) (A := A) (cap := cap) (b := ⟨(X.set n y).toArray⟩) (by rw [hzz]; exact h) (by rw [hzz]; omega) (by rw [hzz]; exact hc)
      rw [hnone, hzz] at hOP
      unfold TOpenPost at hOP
      dsimp only at hOP
      have HOP := Lib.hid hOP
      have HSET := Lib.hid (show (bv X).set n (.int .u8 (y.toNat : Nat)) = bv (X.set n y) by simp [bv, List.map_set])
      rw [hL] at HBU
      have HX := Lib.hid hx
      have n0 : (0 : Int) ≤ (n : Int) := by omega
      have n1 : (n : Int) < (L : Int) := by omega
      clear hd hB hOP hnone hzz hyx hy hbt hx
      by_cases hneg : m < 0
      · rw [if_pos hneg] at hn
        have w2 : IntKind.i64.wrap (m + (L : Int)) = (n : Int) := by rw [IntWalk.i64_in _ (by omega), hn]
        clear hn
        go_enter Try.func17, Try.ntmps17
        go_wp2_with fail
        refine (tlives _).mono ?_
        rintro e w1 ⟨rfl, hb1⟩
        have hbx1 := hbx.kept hb1
        have x0 := hbx1.cell 0 _ rfl
        have x1 := hbx1.cell 1 _ rfl
        have x2 := hbx1.cell 2 _ rfl
        have xl := hbx1.lt
        have d1 := bA.trans (hb1.mono bA.size)
        go_wp2_with fail
        refine (HBU.out _ d1).mono ?_
        rintro e w2 ⟨v2, rfl, own2, hb2⟩
        obtain ⟨A2, c2, rfl⟩ := (Reads.of_own own2).form
        obtain ⟨g, rfl⟩ := own_some own2 (by omega)
        have g0 : w2.cell? ⟨g, n, none⟩ = some (.int .u8 (x.toNat : Nat)) := by
          have := own2.cellAt n (by omega)
          rw [this, bv, List.getElem?_map, HX.out]; rfl
        have g1 := own2.frozenAt n
        have g2 := (own2.lt g rfl).2
        have g3 := (own2.stored n (.int .u8 (y.toNat : Nat))).1
        have bst : Below w.heap.size w (w2.setCell ⟨g, n, none⟩ (.int .u8 (y.toNat : Nat))) := (d1.trans (hb2.mono d1.size)).setCell (p := ⟨g, n, none⟩) (Nat.le_trans d1.size (own2.lt g rfl).1) _
        rw [HSET.out] at g3
        have HG3 := Lib.hid g3
        have HBST := Lib.hid bst
        have hcp := own_cap own2
        clear g3 bst own2
        go_wp2_with fail
        refine (HOP.out _ _ _ (Reads.of_own HG3.out) hcp).mono ?_
        rintro e w3 ⟨hb3, rfl⟩
        go_wp2_with fail
        go_ret
        exact ⟨rfl, HBST.out.trans (hb3.mono HBST.out.size)⟩

      · rw [if_neg hneg] at hn
        subst hn
        go_enter Try.func17, Try.ntmps17
        go_wp2_with fail
        refine (tlives _).mono ?_
        rintro e w1 ⟨rfl, hb1⟩
        have hbx1 := hbx.kept hb1
        have x0 := hbx1.cell 0 _ rfl
        have x1 := hbx1.cell 1 _ rfl
        have x2 := hbx1.cell 2 _ rfl
        have xl := hbx1.lt
        have d1 := bA.trans (hb1.mono bA.size)
        go_wp2_with fail
        refine (HBU.out _ d1).mono ?_
        rintro e w2 ⟨v2, rfl, own2, hb2⟩
        obtain ⟨A2, c2, rfl⟩ := (Reads.of_own own2).form
        obtain ⟨g, rfl⟩ := own_some own2 (by omega)
        have g0 : w2.cell? ⟨g, n, none⟩ = some (.int .u8 (x.toNat : Nat)) := by
          have := own2.cellAt n (by omega)
          rw [this, bv, List.getElem?_map, HX.out]; rfl
        have g1 := own2.frozenAt n
        have g2 := (own2.lt g rfl).2
        have g3 := (own2.stored n (.int .u8 (y.toNat : Nat))).1
        have bst : Below w.heap.size w (w2.setCell ⟨g, n, none⟩ (.int .u8 (y.toNat : Nat))) := (d1.trans (hb2.mono d1.size)).setCell (p := ⟨g, n, none⟩) (Nat.le_trans d1.size (own2.lt g rfl).1) _
        rw [HSET.out] at g3
        have HG3 := Lib.hid g3
        have HBST := Lib.hid bst
        have hcp := own_cap own2
        clear g3 bst own2
        go_wp2_with fail
        refine (HOP.out _ _ _ (Reads.of_own HG3.out) hcp).mono ?_
        rintro e w3 ⟨hb3, rfl⟩
        go_wp2_with fail
        go_ret
        exact ⟨rfl, HBST.out.trans (hb3.mono HBST.out.size)⟩
  · have hX := tableN_none hd hE
    subst hX
    have hq : (E == 0) = false := by simpa using hE
    clear hd
    go_enter Try.func17, Try.ntmps17
    go_wp2_with fail
    refine (tlives _).mono ?_
    rintro e w1 ⟨rfl, hb1⟩
    have hbx1 := hbx.kept hb1
    have x0 := hbx1.cell 0 _ rfl
    have x1 := hbx1.cell 1 _ rfl
    have x2 := hbx1.cell 2 _ rfl
    have xl := hbx1.lt
    have d1 := bA.trans (hb1.mono bA.size)
    go_wp2_with fail
    refine (HBU.out _ d1).mono ?_
    rintro e w2 ⟨v2, rfl, own2, hb2⟩
    obtain ⟨A2, c2, rfl⟩ := (Reads.of_own own2).form
    go_wp2_with fail
    go_ret
    exact ⟨rfl, d1.trans (hb2.mono d1.size)⟩
end Go.Proofs.Ytbcaiegglbdonaa

/-
  Arguments of a law opened: a slice of cells that may be nil, an int.
-/
namespace Go.Proofs.Ytbcaiegglbdonaa
open Go.ChangeShapes Go.WideShapes Go.ChangeAt Go.RowKit Go.Deep Go.Joins

set_option maxRecDepth 100000 in
/-- A nil slice of cells has nothing in it. -/
theorem open_nil {H : Type} {enc : TypeId × Value → H} {W : World} {v : Value} {d : DataW H} {p : List MemPlace} {r : Reach} {b0 : Nat} (hv : Value.okWide Try.prog W r b0 22 v) (h : DataW.Trod enc Try.prog W 0 (fun _ => true) true 22 v d p) :
    ∃ A n c, v = .slice A n c ∧ (A = none → n = 0 ∧ c = 0) := by
  obtain ⟨a0, len, cap, rfl⟩ := okWide_slice Try.underlying22 hv
  obtain ⟨fuel, hf⟩ := h
  rcases open_slice_fields Try.underlying22 Try.underlying25 (by kernel_rfl) Try.cells25 hf with ⟨hcs, hx⟩ | ⟨a, len', cap', m, D, Pl, hcs, _, hl, hm, hmm, hx, hcell⟩
  · simp [Value.cells] at hcs
    obtain ⟨rfl, rfl, rfl⟩ := hcs
    exact ⟨none, 0, 0, rfl, fun _ => ⟨rfl, rfl⟩⟩
  · simp [Value.cells] at hcs
    obtain ⟨rfl, rfl, rfl⟩ := hcs
    exact ⟨some a, _, _, rfl, fun h => by cases h⟩
theorem reads_nil {w : World} {v : Value} {cs : List Cell} (h : Reads w v cs.length 4 (cellVals cs)) (hn : ∃ A n c, v = .slice A n c ∧ (A = none → n = 0 ∧ c = 0)) : ∃ A cap, v = .slice A cs.length cap ∧ (A = none → cs.length = 0 ∧ cap = 0) := by
  obtain ⟨A, cap, rfl⟩ := h.form
  obtain ⟨A', n, c, e, h2⟩ := hn
  injection e with e1 e2 e3
  subst e1 e2 e3
  exact ⟨A, cap, rfl, h2⟩
set_option maxRecDepth 100000 in
theorem open_i64 {H : Type} {enc : TypeId × Value → H} {W : World} {v : Value} {d : DataW H} {p : List MemPlace} {r : Reach} {b0 : Nat} (hv : Value.okWide Try.prog W r b0 3 v) (h : DataW.Trod enc Try.prog W 0 (fun _ => true) true 3 v d p) :
    ∃ n, v = .int .i64 n ∧ -9223372036854775808 ≤ n ∧ n ≤ 9223372036854775807 := by
  obtain ⟨n, rfl⟩ := okWide_int Try.underlying3 hv
  obtain ⟨fuel, hf⟩ := h
  obtain ⟨k, e0, _, w0⟩ := DataW.trod_int Try.underlying3 hf
  simp [Value.cells] at e0
  subst e0
  have hw : -9223372036854775808 ≤ n ∧ n ≤ 9223372036854775807 := by simpa [Lit.wf, IntKind.min, IntKind.max, IntKind.signed, IntKind.bits] using w0
  exact ⟨n, rfl, hw.1, hw.2⟩
end Go.Proofs.Ytbcaiegglbdonaa

/-
  Arguments of a law opened: a shape, a byte, a slice of cells and its room.
-/
namespace Go.Proofs.Ytbcaiegglbdonaa
open Go.ChangeShapes Go.WideShapes Go.ChangeAt Go.RowKit Go.Deep Go.Joins

set_option maxRecDepth 100000 in
/-- A slice of cells has room for what is in it. -/
theorem open_room {H : Type} {enc : TypeId × Value → H} {W : World} {v : Value} {d : DataW H} {p : List MemPlace} {r : Reach} {b0 : Nat} (hv : Value.okWide Try.prog W r b0 22 v) (h : DataW.Trod enc Try.prog W 0 (fun _ => true) true 22 v d p) :
    ∃ A n c, v = .slice A n c ∧ n ≤ c := by
  obtain ⟨a0, len, cap, rfl⟩ := okWide_slice Try.underlying22 hv
  obtain ⟨fuel, hf⟩ := h
  rcases open_slice_fields Try.underlying22 Try.underlying25 (by kernel_rfl) Try.cells25 hf with ⟨hcs, hx⟩ | ⟨a, len', cap', m, D, Pl, hcs, _, hl, hm, hmm, hx, hcell⟩
  · simp [Value.cells] at hcs
    obtain ⟨rfl, rfl, rfl⟩ := hcs
    exact ⟨none, 0, 0, rfl, Nat.le_refl _⟩
  · simp [Value.cells] at hcs
    obtain ⟨rfl, rfl, rfl⟩ := hcs
    exact ⟨some a, _, _, rfl, hl⟩
theorem reads_room {w : World} {v : Value} {cs : List Cell} (h : Reads w v cs.length 4 (cellVals cs)) (hn : ∃ A n c, v = .slice A n c ∧ n ≤ c) : ∃ A cap, v = .slice A cs.length cap ∧ cs.length ≤ cap := by
  obtain ⟨A, cap, rfl⟩ := h.form
  obtain ⟨A', n, c, e, h2⟩ := hn
  injection e with e1 e2 e3
  subst e1 e2 e3
  exact ⟨A, cap, rfl, h2⟩
set_option maxRecDepth 100000 in
theorem open_shape {H : Type} {enc : TypeId × Value → H} {W : World} {v : Value} {d : DataW H} {p : List MemPlace} {r : Reach} {b0 : Nat} (hv : Value.okWide Try.prog W r b0 89 v) (h : DataW.Trod enc Try.prog W 0 (fun _ => true) true 89 v d p) :
    ∃ b r t : Int, v = .agg #[.int .i64 b, .int .i64 r, .int .i64 t] := by
  obtain ⟨v0, v1, v2, y0, y1, y2, n, rfl, rfl, _, h0, h1, h2⟩ := open_agg3 Try.underlying89 (by kernel_rfl) (by kernel_rfl) hv h
  obtain ⟨b, e1, _, _⟩ := DataW.trod_int Try.underlying3 h0
  obtain ⟨r, e2, _, _⟩ := DataW.trod_int Try.underlying3 h1
  obtain ⟨t, e3, _, _⟩ := DataW.trod_int Try.underlying3 h2
  simp at e1 e2 e3
  subst e1 e2 e3
  exact ⟨b, r, t, rfl⟩
set_option maxRecDepth 100000 in
theorem open_byte {H : Type} {enc : TypeId × Value → H} {W : World} {v : Value} {d : DataW H} {p : List MemPlace} {r : Reach} {b0 : Nat} (hv : Value.okWide Try.prog W r b0 5 v) (h : DataW.Trod enc Try.prog W 0 (fun _ => true) true 5 v d p) :
    ∃ n : Nat, v = .int .u8 (n : Nat) ∧ n < 256 := by
  obtain ⟨n, rfl⟩ := okWide_int Try.underlying5 hv
  obtain ⟨fuel, hf⟩ := h
  obtain ⟨k, e0, _, w0⟩ := DataW.trod_int Try.underlying5 hf
  simp [Value.cells] at e0
  subst e0
  have hw : 0 ≤ n ∧ n ≤ 255 := by simpa [Lit.wf, IntKind.min, IntKind.max, IntKind.signed, IntKind.bits] using w0
  exact ⟨n.toNat, by rw [Int.toNat_of_nonneg hw.1], by omega⟩
end Go.Proofs.Ytbcaiegglbdonaa

/-
  The law TableTurned is proved: called with any arguments, it returns true and leaves its arguments as they were. Conditions: none of its own.
-/
namespace Go.Proofs.Ytbcaiegglbdonaa
open Go.ChangeShapes Go.WideShapes Go.ChangeAt Go.RowKit Go.Deep Go.Joins

set_option maxRecDepth 100000 in
theorem tableTurned_lifted (os : Os) (started : os.Started) (H : Type) (enc : TypeId × Value → H) :
    ReturnsInHanded {} Try.checked os 17 .any (Rows.tableTurnedSpec.pre6 enc Try.prog Try.f17 Rows.tableTurnedRow.domain false) (Rows.tableTurnedSpec.post enc Try.prog Try.f17 false true false false) := by
  refine returnsInHanded_of_change_sized (C := Try.checked) Try.own started (by kernel_rfl) Try.func17
    (ChangeSpec.witness6 (enc := enc) (C := Try.checked) false ⟨#[], #[.slice none 0 0, .agg #[.int .i64 0, .int .i64 0, .int .i64 0], .int .i64 0, .int .u8 0], []⟩ 8 (by kernel_rfl) (by kernel_rfl) (by kernel_rfl) (by kernel_rfl)) ?_
  intro W base args ds gs before hval0 hW _ hsz _
  have hval : ∀ (j : Nat) t v, Try.f17.params[j]? = some t → args[j]? = some v → Value.okWide Try.prog W .any base t v := hval0
  have hW' : DataW.Whole enc Try.prog Try.f17.params.toList Rows.tableTurnedSpec.vars false W args.toList ds gs before := hW
  obtain ⟨p, q, hA0, hV, rfl, hfz, hnd⟩ := hW
  have hA : DataW.TrodAll enc Try.prog W 0 (fun _ => true) true Try.f17.params.toList args.toList ds p := hA0
  rw [Try.params17] at hA hval hsz
  obtain ⟨v0, v1, v2, v3, d0, d1, d2, d3, p0, p1, p2, p3, rfl, rfl, rfl, h0, h1, h2, h3⟩ := trodAll_four hA
  obtain ⟨rfl, rfl⟩ := trodVars_none hV
  obtain ⟨cs, hcs, hwf, hd0⟩ := open_cells (hval 0 22 v0 rfl rfl) h0
  obtain ⟨A, cap, rfl, hcap⟩ := reads_room hcs (open_room (hval 0 22 v0 rfl rfl) h0)
  obtain ⟨b, r, t, rfl⟩ := open_shape (hval 1 89 v1 rfl rfl) h1
  obtain ⟨a, rfl, ha1, ha2⟩ := open_i64 (hval 2 3 v2 rfl rfl) h2
  obtain ⟨n, rfl, hn⟩ := open_byte (hval 3 5 v3 rfl rfl) h3
  have hl0 := cells_len hsz (j := 0) rfl rfl hd0
  refine (tturned_walk hcs hcap hl0 (fun c hc => (hwf c hc).1) b r t a n hn).mono fun e W' ⟨he, hb⟩ => ?_
  subst he
  exact ⟨_, rfl, law_post rfl hW' rfl rfl rfl rfl (by rw [Try.params17]; intro t ht; simp at ht; rcases ht with rfl | rfl | rfl | rfl <;> exact ⟨by kernel_rfl, of_decide_eq_true (by kernel_rfl)⟩) hb⟩

theorem tableTurned_holds : Rows.TableTurnedSaid :=
  OpenClaim.holds_of_wide 17 Try.f17 rfl rfl rfl rfl rfl rfl rfl ⟨rfl, rfl, rfl, rfl, rfl⟩ rfl rfl rfl rfl rfl (by kernel_rfl) Try.func17 (by kernel_rfl)
    (of_decide_eq_true (by kernel_rfl)) (by unfold Func.isWrapper; rw [if_neg (of_decide_eq_false (by kernel_rfl))]; exact ⟨rfl, rfl⟩)
    (fun os started H enc _ => tableTurned_lifted os started H enc)

end Go.Proofs.Ytbcaiegglbdonaa
