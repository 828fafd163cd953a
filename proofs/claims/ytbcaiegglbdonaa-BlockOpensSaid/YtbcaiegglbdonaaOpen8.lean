/-
  The program's Open: a block out of bytes.
-/
import Derived.Test.YtbcaiegglbdonaaRead
import Derived.Test.YtbcaiegglbdonaaBack8
namespace Go.Proofs.Ytbcaiegglbdonaa
open Go Go.RowKit

/-- A block: its bytes, cells, restart, and whether Open made it. -/
structure BlkIs (w : World) (p : Nat) (s : ByteArray) (l : List Cell) (r : Int) (m : Bool) : Prop where
  ex : ∃ v B, Blk w p #[.string s, v, .int .i64 r, .bool m] 85 ∧ w.ownsRow B 25 4 v l.length (cellVals l)
  len : l.length ≤ 65536
theorem BlkIs.kept {w w' : World} {p : Nat} {s : ByteArray} {l : List Cell} {r : Int} {m : Bool} (h : BlkIs w p s l r m) (hb : Below w.heap.size w w') : BlkIs w' p s l r m := by
  obtain ⟨v, B, h1, h2⟩ := h.ex
  exact ⟨⟨v, B, h1.kept hb, own_kept h2 hb⟩, h.len⟩
def OpenPost (w : World) (s : ByteArray) (o : Option (List Cell × Int)) (e : Ending) (w' : World) : Prop :=
  Below w.heap.size w w' ∧ match o with
    | none => e = .returned (.tuple #[.pointer none, .int .i64 80])
    | some (l, r) => ∃ p, e = .returned (.tuple #[.pointer (some ⟨p, 0, none⟩), .int .i64 0]) ∧ BlkIs w' p s l r true ∧ w.heap.size ≤ p
theorem rawR_at {s : ByteArray} (n : Nat) (h : n ≤ s.size) : rawR s 0 (n : Int) = (s.extract 0 n, s.extract n s.size, 0) := by
  unfold rawR
  rw [if_neg (by simp), if_neg (by omega), if_neg (by omega), Int.toNat_natCast]
theorem foot_raw4 {s : ByteArray} (h : 10 ≤ s.size) : rawR (s.extract (s.size - 10) s.size) 0 4 = (s.extract (s.size - 10) (s.size - 6), s.extract (s.size - 6) s.size, 0) := by
  have hz : (s.extract (s.size - 10) s.size).size = 10 := by rw [ByteArray.size_extract]; omega
  have e := rawR_at (s := s.extract (s.size - 10) s.size) 4 (by omega)
  have e1 : (s.extract (s.size - 10) s.size).extract 0 4 = s.extract (s.size - 10) (s.size - 6) := by
    rw [ByteArray.extract_extract, Nat.add_zero, show min (s.size - 10 + 4) s.size = s.size - 6 by omega]
  have e2 : (s.extract (s.size - 10) s.size).extract 4 10 = s.extract (s.size - 6) s.size := by
    rw [ByteArray.extract_extract, show min (s.size - 10 + 10) s.size = s.size by omega, show s.size - 10 + 4 = s.size - 6 by omega]
  rw [hz, e1, e2] at e
  exact e
theorem foot_raw2 {s : ByteArray} (h : 10 ≤ s.size) : rawR (s.extract (s.size - 6) s.size) 0 2 = (s.extract (s.size - 6) (s.size - 4), s.extract (s.size - 4) s.size, 0) := by
  have hz : (s.extract (s.size - 6) s.size).size = 6 := by rw [ByteArray.size_extract]; omega
  have e := rawR_at (s := s.extract (s.size - 6) s.size) 2 (by omega)
  have e1 : (s.extract (s.size - 6) s.size).extract 0 2 = s.extract (s.size - 6) (s.size - 4) := by
    rw [ByteArray.extract_extract, Nat.add_zero, show min (s.size - 6 + 2) s.size = s.size - 4 by omega]
  have e2 : (s.extract (s.size - 6) s.size).extract 2 6 = s.extract (s.size - 4) s.size := by
    rw [ByteArray.extract_extract, show min (s.size - 6 + 6) s.size = s.size by omega, show s.size - 6 + 2 = s.size - 4 by omega]
  rw [hz, e1, e2] at e
  exact e
theorem openN_eq {s : ByteArray} {c r : Nat} (h1 : ¬ s.size < 10) (h2 : ¬ 65536 < s.size) (hc : numN (s.extract (s.size - 10) (s.size - 6)).data.toList = c) (hr : numN (s.extract (s.size - 6) (s.size - 4)).data.toList = r) :
    openN s = if s.size < 10 + 4 * min c s.size then none else match readN (s.extract 0 (s.size - 10 - 4 * min c s.size)) with
      | none => none
      | some l => if buildN l r = (s.data.toList, 0) then some (l, (r : Int)) else none := by
  unfold openN
  rw [if_neg (by omega), hc, hr]
  rfl
theorem foot_lt (s : ByteArray) (i j k : Nat) (h : j ≤ i + k) : numN (s.extract i j).data.toList < 256 ^ k := by
  have h1 := numN_lt (s.extract i j).data.toList
  have h2 : (s.extract i j).data.toList.length = (s.extract i j).size := rfl
  rw [h2, ByteArray.size_extract] at h1
  exact Nat.lt_of_lt_of_le h1 (Nat.pow_le_pow_right (by decide) (by omega))
theorem open_none {w w' : World} {s : ByteArray} {o : Option (List Cell × Int)} (h : o = none) (hb : Below w.heap.size w w') : OpenPost w s o (.returned (.tuple #[.pointer none, .int .i64 80])) w' := by
  subst h
  exact ⟨hb, rfl⟩
set_option maxRecDepth 100000 in
set_option maxHeartbeats 4000000 in
theorem open_spec (s : ByteArray) (hs : s.size ≤ 4611686018427387904) (w : World) : Calls Try.prog 42 #[.string s] w (OpenPost w s (openN s)) := by
  by_cases h10 : s.size < 10
  · have HN := Lib.hid (show openN s = none by unfold openN; rw [if_pos (.inl h10)])
    have j1 : (s.size : Int) < 10 := by omega
    clear h10
    go_enter Try.func42, Try.ntmps42
    go_wp2_with fail
    go_ret2
    exact open_none HN.out (Below.refl _ _)
  have j1 : (10 : Int) ≤ (s.size : Int) := by omega
  by_cases h6 : 65536 < s.size
  · have HN := Lib.hid (show openN s = none by unfold openN; rw [if_pos (.inr h6)])
    have j2 : (65536 : Int) < (s.size : Int) := by omega
    clear h10 h6
    go_enter Try.func42, Try.ntmps42
    go_wp2_with fail
    go_ret2
    exact open_none HN.out (Below.refl _ _)
  have j2 : (s.size : Int) ≤ 65536 := by omega
  have hc := foot_lt s (s.size - 10) (s.size - 6) 4 (by omega)
  have hr := foot_lt s (s.size - 6) (s.size - 4) 2 (by omega)
  have f4 := foot_raw4 (s := s) (by omega)
  have f2 := foot_raw2 (s := s) (by omega)
  obtain ⟨c, hcq⟩ : ∃ c, numN (s.extract (s.size - 10) (s.size - 6)).data.toList = c := ⟨_, rfl⟩
  obtain ⟨r, hrq⟩ : ∃ r, numN (s.extract (s.size - 6) (s.size - 4)).data.toList = r := ⟨_, rfl⟩
  have hdef := openN_eq h10 h6 hcq hrq
  rw [hcq] at hc
  rw [hrq] at hr
  have hA := fun (W : World) (hW : RdIs W w.heap.size (s.extract (s.size - 10) s.size) 0) => reader_u32 hW
  have hB := fun (W : World) (hW : RdIs W w.heap.size (s.extract (s.size - 6) s.size) 0) => reader_u16 hW
  rw [f4] at hA
  rw [f2] at hB
  dsimp only at hA hB
  rw [hcq, show c % 4294967296 = c by omega] at hA
  rw [hrq, show r % 65536 = r by omega] at hB
  have HA := Lib.hid hA
  have HB := Lib.hid hB
  have hn := reader_new (s.extract (s.size - 10) s.size) w
  have HNEW := Lib.hid hn
  have ts : ((s.size : Int) - 10).toNat = s.size - 10 := by omega
  clear hn hA hB f4 f2 hcq hrq
  by_cases hend : s.size < 10 + 4 * min c s.size
  · have HN := Lib.hid (show openN s = none by rw [hdef, if_pos hend])
    have j3 : (s.size : Int) - 10 - 4 * min (c : Int) (s.size : Int) < 0 := by omega
    clear hdef hend
    go_enter Try.func42, Try.ntmps42
    go_wp2_with (first | (go_at_call 98; refine HNEW.out.mono ?_; rintro e w1 ⟨rfl, R1, b1, hs1⟩) | (go_at_call 99; refine (HA.out _ R1).mono ?_; rintro e w2 ⟨rfl, R2, o2⟩) | (go_at_call 100; refine (HB.out _ R2).mono ?_; rintro e w3 ⟨rfl, R3, o3⟩))
    go_ret2
    exact open_none HN.out (b1.trans ((o2.trans o3).below b1.size (fun j hj => by omega)))
  obtain ⟨n, hnq⟩ : ∃ n, s.size - 10 - 4 * min c s.size = n := ⟨_, rfl⟩
  rw [if_neg hend, hnq] at hdef
  have j3 : (s.size : Int) - 10 - 4 * min (c : Int) (s.size : Int) = (n : Int) := by omega
  have hns : n ≤ s.size := by omega
  have hRD := fun (W : World) => read_spec (s.extract 0 n) (by have := ex_size_le s 0 n; omega) W
  have hsq := @readN_seq (s.extract 0 n)
  have hxs := ex_size_le s 0 n
  have hnI : (n : Int) ≤ (s.size : Int) := by omega
  clear hnq hend
  cases hrd : readN (s.extract 0 n) with
  | none =>
    rw [hrd] at hdef hRD
    have HN := Lib.hid (show openN s = none from hdef)
    have HRD := Lib.hid hRD
    clear hdef hRD hrd hsq
    go_enter Try.func42, Try.ntmps42
    go_wp2_with (first | (go_at_call 98; refine HNEW.out.mono ?_; rintro e w1 ⟨rfl, R1, b1, hs1⟩) | (go_at_call 99; refine (HA.out _ R1).mono ?_; rintro e w2 ⟨rfl, R2, o2⟩) | (go_at_call 100; refine (HB.out _ R2).mono ?_; rintro e w3 ⟨rfl, R3, o3⟩) | (go_at_call 101; refine (HRD.out _).mono ?_; rintro e w4 ⟨b4, rfl⟩))
    go_ret2
    have b3 := b1.trans ((o2.trans o3).below b1.size (fun j hj => by omega))
    exact open_none HN.out (b3.trans (b4.mono b3.size))
  | some l =>
    obtain ⟨hl1, hl2⟩ := hsq hrd
    rw [hrd] at hdef hRD
    have HRD := Lib.hid hRD
    have hBU := fun (W : World) (v : Value) (h : Reads W v l.length 4 (cellVals l)) => build_spec h (by omega) hl2 (r : Int)
    obtain ⟨X, hX⟩ : ∃ X, (buildN l r).1 = X := ⟨_, rfl⟩
    obtain ⟨E, hE⟩ : ∃ E, (buildN l r).2 = E := ⟨_, rfl⟩
    rw [hX, hE] at hBU
    have HBU := Lib.hid hBU
    have hbq : buildN l r = (X, E) := by rw [← hX, ← hE]
    replace hdef : openN s = if buildN l r = (s.data.toList, 0) then some (l, (r : Int)) else none := hdef
    rw [hbq] at hdef
    clear hRD hBU hX hE hrd hbq
    by_cases hE0 : E = 0
    · subst hE0
      by_cases hXs : X = s.data.toList
      · subst hXs
        have HN := Lib.hid (show openN s = some (l, (r : Int)) by rw [hdef, if_pos rfl])
        clear hdef
        go_enter Try.func42, Try.ntmps42
        go_wp2_with (first | (go_at_call 98; refine HNEW.out.mono ?_; rintro e w1 ⟨rfl, R1, b1, hs1⟩) | (go_at_call 99; refine (HA.out _ R1).mono ?_; rintro e w2 ⟨rfl, R2, o2⟩) | (go_at_call 100; refine (HB.out _ R2).mono ?_; rintro e w3 ⟨rfl, R3, o3⟩) | (go_at_call 101; refine (HRD.out _).mono ?_; rintro e w4 ⟨b4, v4, rfl, own4⟩; obtain ⟨A4, k4, rfl⟩ := (Reads.of_own own4).form; have HO4 := Lib.hid own4; clear own4) | (go_at_call 37; refine (HBU.out _ _ (Reads.of_own HO4.out)).mono ?_; rintro e w5 ⟨rfl, b5⟩))
        go_ret2
        have b3 := b1.trans ((o2.trans o3).below b1.size (fun j hj => by omega))
        have b54 := b4.trans (b5.mono b4.size)
        have b6 := (b3.trans (b54.mono b3.size)).alloc (b3.trans (b54.mono b3.size)).size (.cells #[.string s, .slice A4 l.length k4, .int .i64 r, .bool true] 85)
        rw [HN.out]
        refine ⟨b6, w5.heap.size, rfl, ⟨⟨_, _, Blk.new w5 _ _, (own_kept HO4.out b5).alloc _⟩, by omega⟩, ?_⟩
        exact Nat.le_trans b3.size b54.size
      · have HN := Lib.hid (show openN s = none by rw [hdef, if_neg (fun h => hXs (congrArg Prod.fst h))])
        have hXq : (X == s.toList) = false := by rw [Lib.toList_data]; simpa using hXs
        clear hdef
        go_enter Try.func42, Try.ntmps42
        go_wp2_with (first | (go_at_call 98; refine HNEW.out.mono ?_; rintro e w1 ⟨rfl, R1, b1, hs1⟩) | (go_at_call 99; refine (HA.out _ R1).mono ?_; rintro e w2 ⟨rfl, R2, o2⟩) | (go_at_call 100; refine (HB.out _ R2).mono ?_; rintro e w3 ⟨rfl, R3, o3⟩) | (go_at_call 101; refine (HRD.out _).mono ?_; rintro e w4 ⟨b4, v4, rfl, own4⟩; obtain ⟨A4, k4, rfl⟩ := (Reads.of_own own4).form; have HO4 := Lib.hid own4; clear own4) | (go_at_call 37; refine (HBU.out _ _ (Reads.of_own HO4.out)).mono ?_; rintro e w5 ⟨rfl, b5⟩))
        go_ret2
        have b3 := b1.trans ((o2.trans o3).below b1.size (fun j hj => by omega))
        have b54 := b4.trans (b5.mono b4.size)
        exact open_none HN.out (b3.trans (b54.mono b3.size))
    · have HN := Lib.hid (show openN s = none by rw [hdef, if_neg (fun h => hE0 (congrArg Prod.snd h))])
      have hEq : (E == 0) = false := by simpa using hE0
      clear hdef
      go_enter Try.func42, Try.ntmps42
      go_wp2_with (first | (go_at_call 98; refine HNEW.out.mono ?_; rintro e w1 ⟨rfl, R1, b1, hs1⟩) | (go_at_call 99; refine (HA.out _ R1).mono ?_; rintro e w2 ⟨rfl, R2, o2⟩) | (go_at_call 100; refine (HB.out _ R2).mono ?_; rintro e w3 ⟨rfl, R3, o3⟩) | (go_at_call 101; refine (HRD.out _).mono ?_; rintro e w4 ⟨b4, v4, rfl, own4⟩; obtain ⟨A4, k4, rfl⟩ := (Reads.of_own own4).form; have HO4 := Lib.hid own4; clear own4) | (go_at_call 37; refine (HBU.out _ _ (Reads.of_own HO4.out)).mono ?_; rintro e w5 ⟨rfl, b5⟩))
      go_ret2
      have b3 := b1.trans ((o2.trans o3).below b1.size (fun j hj => by omega))
      have b54 := b4.trans (b5.mono b4.size)
      exact open_none HN.out (b3.trans (b54.mono b3.size))
end Go.Proofs.Ytbcaiegglbdonaa
