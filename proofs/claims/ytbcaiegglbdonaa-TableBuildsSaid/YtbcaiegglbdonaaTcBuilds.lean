/-
  The law TableBuilds is proved: called with any arguments, it returns true and leaves its arguments as they were. Conditions: none of its own.
-/
import Derived.Test.YtbcaiegglbdonaaTbI
import Derived.StillTailTactics
import Derived.Deep.CutRange
import Derived.Deep.CutBlock
/-
  The reference's filter: place, Build.
-/
namespace Go.Proofs.Ytbcaiegglbdonaa
open Go Go.RowKit
set_option linter.unusedSimpArgs false

set_option maxRecDepth 100000 in
set_option maxHeartbeats 1000000 in
theorem ref_place (key : ByteArray) (hk : key.size ≤ 2147483648) (i m : Nat) (hm : 0 < m) (hm2 : m ≤ 4611686018427387904) (hi : i ≤ 1000) (w : World) :
    Calls Try.prog 143 #[.string key, .int .i64 (i : Nat), .int .i64 (m : Nat)] w fun e w' => e = .returned (.int .i64 (placeN (hashN key) (stepN key) m i : Nat)) ∧ w' = w := by
  have hc := crcN_lt key.data.toList
  have w1 : IntKind.u64.wrap ((crcN key.data.toList : Nat) : Int) = ((crcN key.data.toList : Nat) : Int) := by rw [IntKind.wrap_u64]; omega
  have w2 : IntKind.u64.wrap (key.size : Int) = (key.size : Int) := by rw [IntKind.wrap_u64]; omega
  have w3 : IntKind.u64.wrap ((key.size : Int) * 4294967296) = (key.size : Int) * 4294967296 := by rw [IntKind.wrap_u64]; omega
  have w4 : IntKind.u64.wrap (((crcN key.data.toList : Nat) : Int) + (key.size : Int) * 4294967296) = (((crcN key.data.toList + key.size * 4294967296) % 18446744073709551616 : Nat) : Int) := by rw [IntKind.wrap_u64]; omega
  have hor : bits .or .u64 ((mixN (hashN key) : Nat) : Int) 1 = ((stepN key : Nat) : Int) := u64_or_nat _ 1 mixN_lt (by decide)
  have h5 : IntKind.u64.wrap (i : Int) = (i : Int) := by rw [IntKind.wrap_u64]; omega
  have h6 : IntKind.u64.wrap (m : Int) = (m : Int) := by rw [IntKind.wrap_u64]; omega
  have hm0 : ¬ (m : Int) = 0 := by omega
  obtain ⟨h, hh⟩ : ∃ h, hashN key = h := ⟨_, rfl⟩
  obtain ⟨d, hd⟩ : ∃ d, stepN key = d := ⟨_, rfl⟩
  obtain ⟨p, hp⟩ : ∃ p, placeN h d m i = p := ⟨_, rfl⟩
  obtain ⟨X, hX⟩ : ∃ X, (h + i * d % 18446744073709551616) % 18446744073709551616 = X := ⟨_, rfl⟩
  have hpm : p < m := by rw [← hp]; exact placeN_lt h d i hm
  have g2 : IntKind.u64.wrap ((i : Int) * (d : Int)) = (i : Int) * (d : Int) % 18446744073709551616 := by rw [IntKind.wrap_u64]
  have g3 : IntKind.u64.wrap ((h : Int) + (i : Int) * (d : Int) % 18446744073709551616) = (X : Int) := by
    rw [IntKind.wrap_u64, ← hX, ← Int.natCast_mul]
    have e1 : ((i * d : Nat) : Int) % 18446744073709551616 = ((i * d % 18446744073709551616 : Nat) : Int) := (Int.natCast_emod (i * d) 18446744073709551616).symm
    rw [e1, ← Int.natCast_add]
    exact (Int.natCast_emod _ 18446744073709551616).symm
  have g4 : Int.tmod (X : Int) (m : Int) = (p : Int) := by rw [← hp, ← hX]; rfl
  have g5 : IntKind.i64.wrap (p : Int) = (p : Int) := IntWalk.i64_in _ (by omega)
  have g6 : IntKind.u64.wrap (p : Int) = (p : Int) := by rw [IntKind.wrap_u64]; omega
  rw [hh, hd, hp]
  have HH := Lib.hid hh
  have HD := Lib.hid hd
  rw [hh, hd] at hor
  clear hh hd hp hX
  have hm1 := ref_mix ((crcN key.data.toList + key.size * 4294967296) % 18446744073709551616) (Nat.mod_lt _ (by decide)) w
  have hm2' := ref_mix (hashN key) (hashN_lt key) w
  have e1 : mixN ((crcN key.data.toList + key.size * 4294967296) % 18446744073709551616) = h := HH.out
  rw [e1] at hm1
  rw [HH.out] at hm2'
  have HM1 := Lib.hid hm1
  have HM2 := Lib.hid hm2'
  clear hm1 hm2' e1
  go_enter Try.func143, Try.ntmps143
  go_wp2_with fail
  refine (ref_crc key w (by omega)).mono ?_
  rintro e w1 ⟨rfl, hu⟩
  obtain rfl := hu.symm
  go_wp2_with fail
  refine HM1.out.mono ?_
  rintro e w1 ⟨rfl, hu⟩
  obtain rfl := hu.symm
  go_wp2_with fail
  refine HM2.out.mono ?_
  rintro e w1 ⟨rfl, hu⟩
  obtain rfl := hu.symm
  go_wp2_with fail
  go_ret
  exact ⟨rfl, rfl⟩
def RfOut (w : World) (ks : List ByteArray) (m kk : Nat) (i : Value) (W : World) : Prop :=
  ∃ n : Nat, n ≤ ks.length ∧ i = .int .i64 n ∧ Blk W w.heap.size (bv (fillK m kk (startF m kk) (ks.take n))).toArray 5 ∧ Below w.heap.size w W
def RfIn (w : World) (key : ByteArray) (C : List UInt8) (m kk : Nat) (i : Value) (W : World) : Prop :=
  ∃ n : Nat, n ≤ kk ∧ i = .int .i64 n ∧ Blk W w.heap.size (bv (fillN C ((placesN (hashN key) (stepN key) m kk).take n))).toArray 5 ∧ Below w.heap.size w W
def RFPost (w : World) (F : List UInt8) (e : Ending) (w' : World) : Prop := ∃ v, e = .returned (.tuple #[v, .int .i64 0]) ∧ w'.ownsRow w.heap.size 5 1 v F.length (bv F) ∧ Below w.heap.size w w'
set_option maxRecDepth 100000 in
set_option maxHeartbeats 4000000 in
theorem rfilter_main {w : World} {A : Option Addr} {cap : Nat} {ks : List ByteArray} (h : Reads w (.slice A ks.length cap) ks.length 1 (ks.map Value.string)) (hl : ks.length ≤ 65536) (hs : ∀ s ∈ ks, s.size ≤ 128) (r : Nat) (hr1 : 1 ≤ r) (hr2 : r ≤ 32) :
    Calls Try.prog 115 #[.slice A ks.length cap, .int .i64 (r : Nat)] w (RFPost w (filterN ks r)) := by
  have H := Lib.hid h
  have HS := Lib.hid hs
  obtain ⟨q, hq, hq8, hqm⟩ := fM_facts ks.length r
  have hnr : ks.length * r ≤ 65536 * 32 := Nat.mul_le_mul hl hr2
  have w1 : IntKind.i64.wrap ((ks.length : Int) * (r : Int)) = (ks.length : Int) * (r : Int) := IntWalk.i64_in _ (by rw [← Int.natCast_mul]; omega)
  obtain ⟨T, hT⟩ : ∃ T, ks.length * r = T := ⟨_, rfl⟩
  have hTI : (ks.length : Int) * (r : Int) = (T : Int) := by rw [← Int.natCast_mul, hT]
  rw [hTI] at w1
  obtain ⟨kk, hkk⟩ : ∃ kk, fK r = kk := ⟨_, rfl⟩
  have hk1 : 1 ≤ kk ∧ kk ≤ 30 := by rw [← hkk]; unfold fK; omega
  have hk2 : kk = max (r * 69 / 100) 1 := by rw [← hkk]; unfold fK; omega
  obtain ⟨m, hm⟩ : ∃ m, q * 8 = m := ⟨_, rfl⟩
  have hq2 : q = (max 64 T + 7) / 8 := by
    have : fM ks.length r = (max 64 (ks.length * r) + 7) / 8 * 8 := rfl
    rw [hT] at this
    omega
  have e2 : (m : Int) / 8 = (q : Int) := by omega
  have e5 : (q : Int) * 8 = (m : Int) := by omega
  have e4 : IntKind.u8.wrap (kk : Int) = (kk : Int) := by rw [IntKind.wrap_u8]; omega
  have hq64 : q ≤ 300000 := by omega
  obtain ⟨Z, hZ⟩ : ∃ Z, (bv (List.replicate (q + 1) 0)).toArray = Z := ⟨_, rfl⟩
  have hmk : ∀ W, (Instr.makeSlice 74 (.int .i64 ((q : Int) + 1)) (.int .i64 ((q : Int) + 1))).run Try.prog W = .ok (.slice (some ⟨W.heap.size, 0, none⟩) (q + 1) (q + 1)) (W.alloc (.cells Z 5)) := fun W => by
    rw [← hZ]; exact make_bytes2 (q + 1) (by omega) W
  have hZs : Z.size = q + 1 := by rw [← hZ]; simp [bv]
  have hZ0 : Z[q]? = some (.int .u8 0) := by rw [← hZ]; simp [bv]
  have hF := Lib.hid (show filterN ks r = fillK m kk (startF m kk) ks by unfold filterN; rw [hq, hkk, hm])
  have HZ := Lib.hid hZ
  have HM := Lib.hid hm
  have B0 : Blk (w.alloc (.cells Z 5)) w.heap.size Z 5 := Blk.new w Z 5
  have b0 := B0.cell q _ hZ0
  have b1 := B0.lt
  have b2 := B0.frozen q
  have b3 : (0 : Int) ≤ (q : Int) := by omega
  have b4 : (q : Int) < (q : Int) + 1 := by omega
  have j1 : ¬ ((r : Int) < 1) := by omega
  have j2 : ¬ (32 < (r : Int)) := by omega
  have j3 : ¬ (65536 < (ks.length : Int)) := by omega
  clear h hs hT hkk hq hqm hZs hm hZ hZ0 B0
  go_enter Try.func115, Try.ntmps115
  go_upto_if 26 with fail
  go_cut [6] from 12 (fun v wx => wx = w ∧ v = .int .i64 ((max 64 T : Nat) : Int))
  case first =>
    by_cases c1 : T < 64
    · have c2 : (T : Int) < 64 := by omega
      have HX := Lib.hid (show max 64 T = 64 by omega)
      go_wp2_with fail
      go_meet
      case rel => exact ⟨rfl, by rw [HX.out]; rfl⟩
    · have c2 : ¬ (T : Int) < 64 := by omega
      have HX := Lib.hid (show max 64 T = T by omega)
      go_wp2_with fail
      go_meet
      case rel => exact ⟨rfl, by rw [HX.out]⟩
  case rest =>
    obtain ⟨rfl, rfl⟩ := hcut

    go_upto_if 35 with fail
    go_cut [7] from 12 (fun v wx => wx = wc ∧ v = .int .i64 (kk : Nat))
    case first =>
      by_cases c1 : r * 69 / 100 < 1
      · have c2 : (r : Int) * 69 / 100 < 1 := by omega
        have HX := Lib.hid (show kk = 1 by omega)
        go_wp2_with fail
        go_meet
        case rel => exact ⟨rfl, by rw [HX.out]; rfl⟩
      · have c2 : ¬ (r : Int) * 69 / 100 < 1 := by omega
        have HX := Lib.hid (show (r : Int) * 69 / 100 = (kk : Int) by omega)
        go_wp2_with fail
        go_meet
        case rel => exact ⟨rfl, by rw [HX.out]⟩
    case rest =>
      obtain ⟨rfl, rfl⟩ := hcut
      rw [show (((max 64 T : Nat) : Int) + 7) / 8 * 8 = (m : Int) by omega]
      clear hq2 hk2 w1 hTI hnr
      have c3 : ¬ (30 < (kk : Int)) := by omega
      go_wp2_with fail
      have F0 : RfOut wc ks m kk (.int .i64 0) ((wc.alloc (.cells (Z.setIfInBounds q (.int .u8 (kk : Nat))) 5))) := by
        have hs : Z.setIfInBounds q (.int .u8 (kk : Nat)) = (bv (startF m kk)).toArray := by
          have e : ((UInt8.ofNat kk).toNat : Int) = (kk : Int) := by simp only [UInt8.toNat_ofNat']; omega
          rw [← HZ.out, ← e, bv_set]
          congr 2
          unfold startF
          rw [show m / 8 = q by have := HM.out; omega, List.replicate_succ']
          exact List.set_append_right _ _ (by simp) |>.trans (by simp)
        rw [hs]
        exact ⟨0, Nat.zero_le _, rfl, Blk.new _ _ _, (Below.refl _ _).alloc (Nat.le_refl _) _⟩
      clear b0 b1 b2 hmk
      go_loopw [9] (RfOut wc ks m kk) (fun i _ => ks.length - (intOf i).toNat)
      case atStart => exact F0
      case round =>
        clear F0
        obtain ⟨j, hj, rfl, hB, hb⟩ := hrel
        by_cases hjl : j < ks.length
        · obtain ⟨key, hx⟩ : ∃ key, ks[j]? = some key := ⟨_, List.getElem?_eq_getElem hjl⟩
          have hks := HS.out key (List.mem_of_getElem? hx)
          have i0 : (0 : Int) ≤ (j : Int) := by omega
          have i1 : (j : Int) < (ks.length : Int) := by omega
          have HX := Lib.hid hx
          obtain ⟨C, hC⟩ : ∃ C, fillK m kk (startF m kk) (ks.take j) = C := ⟨_, rfl⟩
          have hCl : C.length = q + 1 := by rw [← hC, fillK_len, startF_len, ← HM.out]; omega
          rw [hC] at hB
          have HC := Lib.hid hC
          have G0 : RfIn wc key C m kk (.int .i64 0) wr := ⟨0, Nat.zero_le _, rfl, hB, hb⟩
          clear hx hC hB hb
          go_wp2_with fail
          go_loopw [10] (RfIn wc key C m kk) (fun i _ => kk - (intOf i).toNat)
          case atStart => exact G0
          case round =>
            clear G0
            obtain ⟨n, hn, rfl, hB, hb⟩ := hrel
            by_cases hnk : n < kk
            · have i2 : (n : Int) < (kk : Int) := by omega
              obtain ⟨b, o, rfl, hbl, hc⟩ := (H.out.kept hb).str_at HX.out
              obtain ⟨p, hp⟩ : ∃ p, placeN (hashN key) (stepN key) m n = p := ⟨_, rfl⟩
              have hpm : p < m := by rw [← hp]; exact placeN_lt _ _ _ (by omega)
              have hcall : ∀ W, Calls Try.prog 143 #[.string key, .int .i64 (n : Nat), .int .i64 (m : Nat)] W fun e w' => e = .returned (.int .i64 (p : Nat)) ∧ w' = W := fun W => by
                rw [← hp]
                exact ref_place key (by omega) n m (by omega) (by omega) (by omega) W
              obtain ⟨D, hD⟩ : ∃ D, fillN C ((placesN (hashN key) (stepN key) m kk).take n) = D := ⟨_, rfl⟩
              have hDl : D.length = q + 1 := by rw [← hD, fillN_len, hCl]
              have hst : fillN C ((placesN (hashN key) (stepN key) m kk).take (n + 1)) = setBit D p := by
                rw [take_snoc (placesN_get _ _ _ hnk), fillN_snoc, hD, hp]
              rw [hD] at hB
              have hpq : p / 8 < q + 1 := by have := HM.out; omega
              obtain ⟨c, hc2⟩ : ∃ c, D[p / 8]? = some c := ⟨_, List.getElem?_eq_getElem (by omega)⟩
              obtain ⟨pq, hpq2⟩ : ∃ pq, p / 8 = pq := ⟨_, rfl⟩
              obtain ⟨pr, hpr2⟩ : ∃ pr, p % 8 = pr := ⟨_, rfl⟩
              have f1 : (p : Int) / 8 = (pq : Int) := by omega
              have f2 : (p : Int) % 8 = (pr : Int) := by omega
              rw [hpq2] at hc2 hpq
              have g0 : wr.cell? ⟨wc.heap.size, pq, none⟩ = some (.int .u8 (c.toNat : Nat)) := hB.cell pq _ (by simp [bv, hc2])
              have g1 := hB.lt
              have g2 := hB.frozen pq
              have n0 : (0 : Int) ≤ (pq : Int) := by omega
              have n1 : (pq : Int) < (q : Int) + 1 := by omega
              have n2 : ¬ (pr : Int) < 0 := by omega
              have f3 : IntKind.i64.wrap (pq : Int) = (pq : Int) := IntWalk.i64_in _ (by omega)
              have f4 : IntKind.i64.wrap (pr : Int) = (pr : Int) := IntWalk.i64_in _ (by omega)
              have hpr8 : pr < 8 := by omega
              have hor := or_bit c hpr8
              have hsh : Op.shift .shl .u8 1 .i64 (Int.tmod (p : Int) 8) = pure (.int .u8 ((2 : Int) ^ pr % 256)) := by
                have e : Int.tmod (p : Int) 8 = (pr : Int) := by rw [Int.tmod_eq_emod_of_nonneg (by omega)]; exact f2
                rw [e, shift_shl .u8 .i64 1 (pr : Int) (by omega) (by show (pr : Int) ≤ _; simp [IntKind.bits]; omega)]
                rw [IntKind.wrap_u8, Int.one_mul]
                rfl
              have HOR := Lib.hid hor
              have hsb : setBit D p = D.set pq (UInt8.ofNat (c.toNat ||| 2 ^ pr)) := by
                unfold setBit
                rw [show p / 8 = pq by omega, show p % 8 = pr by omega, List.getD_eq_getElem?_getD, hc2]
                rfl
              have HST := Lib.hid hst
              have HSB := Lib.hid hsb
              have HB := Lib.hid hB
              have HBW := Lib.hid hb
              have HCALL := Lib.hid hcall
              clear hD hp hpq2 hpr2 hor hst hsb hB hb hcall
              go_wp2_with fail
              refine (HCALL.out _).mono ?_
              rintro e w1 ⟨rfl, hu⟩
              obtain rfl := hu.symm
              go_wp2_with fail
              refine region_tail 12 (by kernel_rfl) (by kernel_rfl) ?_
              simp only [List.take_succ_cons, List.take_zero, List.drop_succ_cons, List.drop_zero]
              still_step
              still_step
              still_step
              still_step
              still_step
              still_step
              still_step
              still_step
              still_step
              still_step
              still_step
              still_step
              refine wpStill_nil ?_
              go_wp2_with fail
              rw [HOR.out]
              have hB2 := HB.out.drew.setCell pq (.int .u8 ((UInt8.ofNat (c.toNat ||| 2 ^ pr)).toNat : Nat))
              rw [bv_set, ← HSB.out, ← HST.out] at hB2
              have hb2 : Below wc.heap.size wc (wr.drew.setCell ⟨wc.heap.size, pq, none⟩ (.int .u8 ((UInt8.ofNat (c.toNat ||| 2 ^ pr)).toNat : Nat))) := HBW.out.drew.setCell (p := ⟨wc.heap.size, pq, none⟩) (Nat.le_refl _) _
              go_wp2_with fail
              go_roundw
              case rel => exact ⟨n + 1, by omega, by go_num, hB2, hb2⟩
              case measure => simp [intOf]; omega
            · obtain rfl : n = kk := by omega
              have hst : fillK m n (startF m n) (ks.take (j + 1)) = fillN C ((placesN (hashN key) (stepN key) m n).take n) := by
                rw [take_snoc HX.out, fillK_snoc, HC.out, List.take_of_length_le (by rw [placesN_len]; omega)]
              rw [← hst] at hB
              have HB := Lib.hid hB
              have HBW := Lib.hid hb
              clear hst hB hb
              go_wp2_with fail
              go_roundw
              case rel => exact ⟨j + 1, by omega, by go_num, HB.out, HBW.out⟩
              case measure => simp [intOf]; omega
        · obtain rfl : j = ks.length := by omega
          rw [List.take_length] at hB
          have hlen : (fillK m kk (startF m kk) ks).length = q + 1 := by rw [fillK_len, startF_len, ← HM.out]; omega
          have HL := Lib.hid hlen
          have HB := Lib.hid hB
          have HBW := Lib.hid hb
          clear hlen hB hb
          go_wp2_with fail
          go_ret2
          unfold RFPost
          rw [hF.out]
          refine ⟨.slice (some ⟨wc.heap.size, 0, none⟩) (q + 1) (q + 1), rfl, ?_, HBW.out⟩
          refine ⟨by rw [bv_len]; omega, .inr ⟨wc.heap.size, q + 1, _, by rw [HL.out], Nat.le_refl _, HB.out, by rw [HL.out]; exact Nat.le_refl _, by unfold maxLen; omega, by rw [List.size_toArray, bv_len, HL.out]; omega, ?_⟩⟩
          rw [List.take_of_length_le (by rw [bv_len]; omega)]
end Go.Proofs.Ytbcaiegglbdonaa

/-
  The reference's table: rises, Text, Build.
-/
namespace Go.Proofs.Ytbcaiegglbdonaa
open Go Go.RowKit
set_option linter.unusedSimpArgs false

set_option maxRecDepth 100000 in
set_option maxHeartbeats 1000000 in
theorem ref_rises (a b : Cell) (w : World) :
    Calls Try.prog 113 #[.agg #[.string a.key, .int .u64 a.seq, .string a.val, .bool a.gone], .agg #[.string b.key, .int .u64 b.seq, .string b.val, .bool b.gone]] w fun e w' => e = .returned (.bool (decide (PLt a.key a.seq b.key b.seq))) ∧ Below w.heap.size w w' := by
  by_cases h1 : Op.bytesLess a.key.toList b.key.toList = true
  · have hp : decide (PLt a.key a.seq b.key b.seq) = true := by simp only [decide_eq_true_eq]; exact .inl ((lt_str _ _).1 h1)
    rw [hp]
    clear hp
    go_enter Try.func113, Try.ntmps113
    go_wp2_with fail
    go_ret
    exact ⟨rfl, ((Below.refl _ _).alloc (Nat.le_refl _) _).alloc (by simp) _⟩
  have h1 : Op.bytesLess a.key.toList b.key.toList = false := by simpa using h1
  by_cases h2 : (a.key.toList == b.key.toList) = true
  · by_cases h3 : b.seq < a.seq
    · have hp : decide (PLt a.key a.seq b.key b.seq) = true := by simp only [decide_eq_true_eq]; exact .inr ⟨str_beq.1 h2, h3⟩
      rw [hp]
      clear hp
      go_enter Try.func113, Try.ntmps113
      go_wp2_with fail
      go_ret
      exact ⟨rfl, ((Below.refl _ _).alloc (Nat.le_refl _) _).alloc (by simp) _⟩
    · have hp : decide (PLt a.key a.seq b.key b.seq) = false := by
        simp only [decide_eq_false_iff_not]
        rintro (h | ⟨_, h⟩)
        · rw [(lt_str _ _).2 h] at h1; cases h1
        · exact h3 h
      rw [hp]
      clear hp
      go_enter Try.func113, Try.ntmps113
      go_wp2_with fail
      go_ret
      exact ⟨rfl, ((Below.refl _ _).alloc (Nat.le_refl _) _).alloc (by simp) _⟩
  have h2 : (a.key.toList == b.key.toList) = false := by simpa using h2
  have hp : decide (PLt a.key a.seq b.key b.seq) = false := by
    simp only [decide_eq_false_iff_not]
    rintro (h | ⟨h, _⟩)
    · rw [(lt_str _ _).2 h] at h1; cases h1
    · exact str_beq_false.1 h2 h
  rw [hp]
  clear hp
  go_enter Try.func113, Try.ntmps113
  go_wp2_with fail
  go_ret
  exact ⟨rfl, ((Below.refl _ _).alloc (Nat.le_refl _) _).alloc (by simp) _⟩

theorem str_add (x y : List UInt8) (h : x.length + y.length ≤ 9223372036854775807) (W : World) : (Op.stringOp .add ⟨x.toArray⟩ ⟨y.toArray⟩).run Try.prog W = .ok (.string ⟨(x ++ y).toArray⟩) W := by
  rw [run_string_add_sum W _ _ (by simp [ByteArray.size]; omega), ByteArray.mk_append_mk]
theorem str_add_s (x : List UInt8) (s : ByteArray) (h : x.length + s.size ≤ 9223372036854775807) (W : World) : (Op.stringOp .add ⟨x.toArray⟩ s).run Try.prog W = .ok (.string ⟨(x ++ s.data.toList).toArray⟩) W := str_add x s.data.toList h W
set_option maxRecDepth 100000 in
set_option maxHeartbeats 1000000 in
theorem ref_text (s : ByteArray) (hs : s.size ≤ 1099511627776) (w : World) :
    Calls Try.prog 114 #[.string s] w fun e w' => e = .returned (.string ⟨(WM.textN s).toArray⟩) ∧ Below w.heap.size w w' := by
  have hw : IntKind.u64.wrap (s.size : Int) = (s.size : Int) := by rw [IntKind.wrap_u64]; omega
  have hc : ∀ W, (Op.stringOp .add ⟨(varN s.size).toArray⟩ s).run Try.prog W = .ok (.string ⟨(WM.textN s).toArray⟩) W := fun W =>
    str_add_s (varN s.size) s (by have := varN_len 9 s.size (by omega); omega) W
  go_enter Try.func114, Try.ntmps114
  go_wp2_with fail
  refine (ref_varint s.size (by omega) w).mono ?_
  rintro e w1 ⟨rfl, hb1⟩
  go_wp2_with fail
  go_ret
  exact ⟨rfl, hb1⟩

/-! ### Build -/
theorem partB_snoc (l : List Cell) (r : Nat) (ps : List (Nat × Nat)) (p : Nat × Nat) : partB l r (ps ++ [p]) (ps.length + 1) = partB l r ps ps.length ++ blockN (pieceL l p) r := by
  unfold partB
  rw [List.take_of_length_le (by simp), List.take_of_length_le (Nat.le_refl _), List.flatMap_append]
  simp
theorem partI_snoc (l : List Cell) (r : Nat) (ps : List (Nat × Nat)) (p : Nat × Nat) :
    partI l r (ps ++ [p]) (ps.length + 1) = partI l r ps ps.length ++ (WM.textN (keyB l p.1) ++ (varN (partB l r ps ps.length).length ++ varN (blockN (pieceL l p) r).length)) := by
  rw [partI_succ, entN_eq (p := p) (by simp)]
  have e : partB l r (ps ++ [p]) ps.length = partB l r ps ps.length := by
    unfold partB
    rw [List.take_append_of_le_length (Nat.le_refl _)]
  rw [e]
  congr 1
  unfold partI
  rw [List.flatMap_def, List.flatMap_def]
  congr 1
  refine List.map_congr_left ?_
  intro i hi
  have hi' : i < ps.length := List.mem_range.1 hi
  unfold entN partB
  rw [List.getElem?_append_left hi', List.take_append_of_le_length (by omega)]
theorem cutS_mono {l : List Cell} {z : Int} {p : Nat × Nat} {i : Nat} (h : p ∈ (cutS l z i).out) : ∀ d, p ∈ (cutS l z (i + d)).out
  | 0 => h
  | d + 1 => by
    have ih := cutS_mono h d
    by_cases hc : z ≤ ((cutS l z (i + d)).n + szAt l (i + d) : Nat) ∨ i + d + 1 = l.length
    · rw [← Nat.add_assoc, cutS_yes hc]; exact List.mem_append_left _ ih
    · rw [← Nat.add_assoc, cutS_no hc]; exact ih
theorem partI_len {l : List Cell} {r : Nat} {ps : List (Nat × Nat)} (hs : ∀ c ∈ l, c.key.size ≤ 128) (j : Nat) (hj : j ≤ 65536) (hf : fitsP l r ps) : (partI l r ps j).length ≤ j * 158 := by
  induction j with
  | zero => simp [partI]
  | succ j ih =>
    have ih := ih (by omega)
    rw [partI_succ, List.length_append]
    have : (entN l r ps j).length ≤ 158 := by
      cases hp : ps[j]? with
      | none => unfold entN; rw [hp]; simp
      | some p =>
        rw [entN_eq hp]
        have hk : (keyB l p.1).size ≤ 128 := by
          unfold keyB
          cases hx : l[p.1]? with
          | none => exact Nat.zero_le _
          | some c => exact hs c (List.mem_of_getElem? hx)
        have h1 := textN_len hk
        have h2 := varN_len 9 (partB l r ps j).length (by have := partB_len hf j; omega)
        have h3 := varN_len 9 (blockN (pieceL l p) r).length (by have := hf p (List.mem_of_getElem? hp); omega)
        simp only [List.length_append]
        omega
    omega
def RtRel (W1 : World) (l : List Cell) (b r : Nat) (vb vi vk vs vn i : Value) (W : World) : Prop :=
  ∃ k : Nat, k ≤ l.length ∧ i = .int .i64 k ∧ vs = .int .i64 ((cutS l b k).start : Nat) ∧ vn = .int .i64 ((cutS l b k).n : Nat) ∧
    vb = .string ⟨(partB l r (cutS l b k).out (cutS l b k).out.length).toArray⟩ ∧ vi = .string ⟨(partI l r (cutS l b k).out (cutS l b k).out.length).toArray⟩ ∧
    fitsP l r (cutS l b k).out ∧ W.ownsRow W1.heap.size 9 1 vk (keysS l k).length ((keysS l k).map Value.string) ∧ Below W1.heap.size W1 W
theorem cell3 {w : World} {g : Nat} {v0 v1 v2 : Value} {t : TypeId} (h : Blk w g #[v0, v1, v2] t) :
    w.cell? ⟨g, 0, none⟩ = some v0 ∧ w.cell? ⟨g, 1, none⟩ = some v1 ∧ w.cell? ⟨g, 2, none⟩ = some v2 ∧ g < w.heap.size := ⟨h.cell 0 _ rfl, h.cell 1 _ rfl, h.cell 2 _ rfl, h.lt⟩
theorem be4_m32 (n : Nat) : be4 n = m32 n := by
  unfold m32 be4
  have e : ∀ a b : Nat, a % 256 = b % 256 → UInt8.ofNat a = UInt8.ofNat b := fun a b h => UInt8.toNat_inj.1 (by rw [UInt8.toNat_ofNat', UInt8.toNat_ofNat']; exact h)
  rw [e (n / 16777216) (n % 4294967296 / 16777216) (by omega), e (n / 65536) (n % 4294967296 / 65536) (by omega), e (n / 256) (n % 4294967296 / 256) (by omega), e n (n % 4294967296) (by omega)]
theorem bytes_reads (L : List UInt8) (hL : L.length ≤ 9223372036854775807) (c : Nat) (W : World) : Reads (Lib.bytesWorld W 5 ⟨L.toArray⟩) (.slice (some ⟨W.heap.size, 0, none⟩) L.length c) L.length 1 (bv L) := by
  refine ⟨by rw [bv_len]; omega, hL, _, _, rfl, ?_⟩
  by_cases h0 : L.length = 0
  · exact .inl h0
  · refine .inr ⟨W.heap.size, 0, rfl, by rw [Lib.bytesWorld_size]; omega, fun j u hj => ?_⟩
    have hjl := (List.getElem?_eq_some_iff.1 hj).1
    rw [bv_len] at hjl
    rw [Nat.zero_add, Lib.bytesWorld_cell W 5 ⟨L.toArray⟩ j hjl]
    unfold bv at hj
    rw [List.getElem?_map, List.getElem?_eq_getElem hjl] at hj
    simp at hj
    subst hj
    simp [List.getElem?_eq_getElem hjl]
def RTPost (w : World) (d : List UInt8 × Int) (e : Ending) (w' : World) : Prop := ∃ v, e = .returned (.tuple #[v, .int .i64 d.2]) ∧ Reads w' v d.1.length 1 (bv d.1) ∧ Below w.heap.size w w'
def RtI (w1 : World) (n : Nat) (a : Nat) (i : Value) (W : World) : Prop := ∃ k : Nat, a ≤ k ∧ k ≤ n ∧ i = .int .i64 k ∧ Below w1.heap.size w1 W
set_option maxRecDepth 100000 in
set_option maxHeartbeats 4000000 in
theorem rtab_main {w : World} {A : Option Addr} {cap : Nat} {l : List Cell} (h : Reads w (.slice A l.length cap) l.length 4 (cellVals l)) (hcap : l.length ≤ cap) (hs : ∀ c ∈ l, 0 ≤ c.seq) (b r t : Nat) (hc : checkT l b r t = 0) :
    Calls Try.prog 55 #[.slice A l.length cap, .agg #[.int .i64 (b : Nat), .int .i64 (r : Nat), .int .i64 (t : Nat)]] w (RTPost w (tableN l b r t)) := by
  obtain ⟨⟨hb1, hb2, hr1, hr2, ht1, ht2⟩, hl1, hl0, hck⟩ := checkT_ok hc
  have hTN := tableN_ok hc
  obtain ⟨hcs, hadj⟩ := checkL_ok hck
  have hS0 : checkS (b : Int) (r : Int) (t : Int) = 0 := by unfold checkS; rw [if_neg (by omega)]
  have hsh : ∀ W, Calls Try.prog 59 #[.agg #[.int .i64 (b : Nat), .int .i64 (r : Nat), .int .i64 (t : Nat)]] W fun e w' => e = .returned (.int .i64 0) ∧ Below W.heap.size W w' := fun W => by
    have := ref_shape (b : Int) (r : Int) (t : Int) W
    rw [hS0] at this
    exact this
  have HSH := Lib.hid hsh
  have HTN := Lib.hid hTN
  have HCS := Lib.hid hcs
  have HADJ := Lib.hid ((adjC_iff l).1 hadj)
  have HS := Lib.hid hs
  have HCK := Lib.hid hck
  have n1 : ¬ (65536 < (l.length : Int)) := by omega
  have n2 : ((l.length : Int) == 0) = false := by simpa using hl0
  have n3 : ¬ ((l.length : Int) = 0) := by omega
  obtain ⟨w1, hw1⟩ : ∃ w1, w.alloc (.cells #[.int .i64 (b : Nat), .int .i64 (r : Nat), .int .i64 (t : Nat)] 89) = w1 := ⟨_, rfl⟩
  have hB1 : Blk w1 w.heap.size #[.int .i64 (b : Nat), .int .i64 (r : Nat), .int .i64 (t : Nat)] 89 := by rw [← hw1]; exact Blk.new _ _ _
  have hsz1 : w1.heap.size = w.heap.size + 1 := by rw [← hw1]; simp
  have hb0 : Below w.heap.size w w1 := by rw [← hw1]; exact (Below.refl _ _).alloc (Nat.le_refl _) _
  have H := Lib.hid (h.kept hb0)
  have HB1 := Lib.hid hB1
  have HSZ := Lib.hid hsz1
  have HB0 := Lib.hid hb0
  obtain ⟨y0, y1, y2, y3⟩ := cell3 hB1
  clear h hsh hTN hcs hadj hs hck hc hS0 hB1 hsz1 hb0
  go_enter Try.func55, Try.ntmps55
  go_upto_region 1 with fail
  clear hw1
  go_wp2_with fail
  refine (HSH.out _).mono ?_
  rintro e w2 ⟨rfl, b2⟩
  go_wp2_with fail
  clear y0 y1 y2 y3
  go_loopw [7] (RtI w1 l.length 0) (fun i _ => l.length - (intOf i).toNat)
  case atStart => exact ⟨0, Nat.zero_le _, by omega, rfl, b2⟩
  case round =>
    obtain ⟨k, _, hk, rfl, hb⟩ := hrel
    by_cases hlt : k < l.length
    · obtain ⟨x, hx⟩ : ∃ x, l[k]? = some x := ⟨_, List.getElem?_eq_getElem hlt⟩
      obtain ⟨g, o, rfl, hbl, c0, c1, c2, c3⟩ := (H.out.kept hb).cell_at hx
      have i0 : (0 : Int) ≤ (k : Int) := by omega
      have i1 : (k : Int) < (l.length : Int) := by omega
      have hc := ref_check x wr
      rw [HCS.out x (List.mem_of_getElem? hx)] at hc
      have HC := Lib.hid hc
      clear hx hc
      go_wp2_with (go_at_call 80; refine HC.out.mono ?_; rintro e w3 ⟨rfl, b3⟩)
      go_roundw
      case rel => exact ⟨k + 1, Nat.zero_le _, by omega, by go_num, hb.trans (b3.mono hb.size)⟩
      case measure => simp [intOf]; omega
    · obtain rfl : k = l.length := by omega
      clear b2
      go_wp2_with fail
      go_loopw [8] (RtI w1 l.length 1) (fun i _ => l.length - (intOf i).toNat)
      case atStart => exact ⟨1, Nat.le_refl _, by omega, rfl, hb⟩
      case round =>
        obtain ⟨k, hk1, hk, rfl, hb⟩ := hrel
        obtain ⟨k, rfl⟩ : ∃ k0, k = k0 + 1 := ⟨k - 1, by omega⟩
        by_cases hlt : k + 1 < l.length
        · obtain ⟨x, hx⟩ : ∃ x, l[k]? = some x := ⟨_, List.getElem?_eq_getElem (by omega)⟩
          obtain ⟨y, hy⟩ : ∃ y, l[k + 1]? = some y := ⟨_, List.getElem?_eq_getElem hlt⟩
          obtain ⟨g, o, rfl, hbl, c0, c1, c2, c3⟩ := (H.out.kept hb).cell_at hx
          obtain ⟨b', o', e', _, d0, d1, d2, d3⟩ := (H.out.kept hb).cell_at hy
          cases e'
          have i0 : (0 : Int) ≤ (k : Int) := by omega
          have i1 : (k : Int) < (l.length : Int) := by omega
          have i2 : (0 : Int) ≤ (k : Int) + 1 := by omega
          have i3 : (k : Int) + 1 < (l.length : Int) := by omega
          have hw1 : IntKind.i64.wrap ((k : Int) + 1 - 1) = (k : Int) := by
            rw [show (k : Int) + 1 - 1 = (k : Int) by omega]; exact IntWalk.i64_in _ (by omega)
          have hw2 : IntKind.i64.wrap (k : Int) = (k : Int) := IntWalk.i64_in _ (by omega)
          have hw3 : IntKind.i64.wrap ((k : Int) + 1 + 1) = (k : Int) + 1 + 1 := IntWalk.i64_in _ (by omega)
          have ht1 : ((k : Int) + 1).toNat = k + 1 := by omega
          have hq : decide (PLt x.key x.seq y.key y.seq) = true := decide_eq_true (HADJ.out k x y hx hy)
          clear hx hy
          have hS : wr.drew.cell? ⟨g, o + k * 4, none⟩ = some (.string x.key) ∧ wr.drew.cell? ⟨g, o + k * 4 + 1, none⟩ = some (.int .u64 x.seq) ∧ wr.drew.cell? ⟨g, o + k * 4 + 2, none⟩ = some (.string x.val) ∧ wr.drew.cell? ⟨g, o + k * 4 + 3, none⟩ = some (.bool x.gone) ∧ wr.drew.cell? ⟨g, o + (k + 1) * 4, none⟩ = some (.string y.key) ∧ wr.drew.cell? ⟨g, o + (k + 1) * 4 + 1, none⟩ = some (.int .u64 y.seq) ∧ wr.drew.cell? ⟨g, o + (k + 1) * 4 + 2, none⟩ = some (.string y.val) ∧ wr.drew.cell? ⟨g, o + (k + 1) * 4 + 3, none⟩ = some (.bool y.gone) := ⟨c0, c1, c2, c3, d0, d1, d2, d3⟩
          go_wp2_with fail
          refine region_plan (S := fun w' => w'.cell? ⟨g, o + k * 4, none⟩ = some (.string x.key) ∧ w'.cell? ⟨g, o + k * 4 + 1, none⟩ = some (.int .u64 x.seq) ∧ w'.cell? ⟨g, o + k * 4 + 2, none⟩ = some (.string x.val) ∧ w'.cell? ⟨g, o + k * 4 + 3, none⟩ = some (.bool x.gone) ∧ w'.cell? ⟨g, o + (k + 1) * 4, none⟩ = some (.string y.key) ∧ w'.cell? ⟨g, o + (k + 1) * 4 + 1, none⟩ = some (.int .u64 y.seq) ∧ w'.cell? ⟨g, o + (k + 1) * 4 + 2, none⟩ = some (.string y.val) ∧ w'.cell? ⟨g, o + (k + 1) * 4 + 3, none⟩ = some (.bool y.gone))
            ((0, true) :: (1, true) :: (2, true) :: (3, true) :: (4, true) :: (5, true) :: (6, true) :: (7, true) :: (8, true) :: (9, false) :: (10, true) :: [])
            (by kernel_rfl) (by kernel_rfl) (by kernel_rfl) (by kernel_rfl) (fun _ _ _ dst _ h => by cases dst <;> exact h) hS (fun hH => ?_)
          (repeat (first | (refine plan_take (v := ?_) (by (simp only [List.getElem?_toArray, List.getElem?_cons_succ, List.getElem?_cons_zero]; exact rfl)) (by rfl) ?_ ?_; rotate_left; (focus (intro wS hS; (try dsimp only at hS); go_split_ands; go_simp; (try with_reducible rfl))); simp only [Act.put, List.setIfInBounds_toArray, List.set_cons_zero, List.set_cons_succ]) | (refine plan_skip (by (simp only [List.getElem?_toArray, List.getElem?_cons_succ, List.getElem?_cons_zero]; exact rfl)) (by rfl) ?_; simp only [Act.put, List.setIfInBounds_toArray, List.set_cons_zero, List.set_cons_succ])))
          (refine plan_solo (by (simp only [List.getElem?_toArray, List.getElem?_cons_succ, List.getElem?_cons_zero]; exact rfl)) (by rfl) ?_; intro K hK; go_simp)
          refine (ref_rises x y _).mono ?_
          rintro e w5 ⟨rfl, hb5⟩
          rw [hq]
          refine hK.out _ _ ⟨cell_keep hb5 c0, cell_keep hb5 c1, cell_keep hb5 c2, cell_keep hb5 c3, cell_keep hb5 d0, cell_keep hb5 d1, cell_keep hb5 d2, cell_keep hb5 d3⟩ (fun hH => ?_)
          clear hK K
          (try simp only [Act.put, List.setIfInBounds_toArray, List.set_cons_zero, List.set_cons_succ])
          (repeat (first | (refine plan_take (v := ?_) (by (simp only [List.getElem?_toArray, List.getElem?_cons_succ, List.getElem?_cons_zero]; exact rfl)) (by rfl) ?_ ?_; rotate_left; (focus (intro wS hS; (try dsimp only at hS); go_split_ands; go_simp; (try with_reducible rfl))); simp only [Act.put, List.setIfInBounds_toArray, List.set_cons_zero, List.set_cons_succ]) | (refine plan_skip (by (simp only [List.getElem?_toArray, List.getElem?_cons_succ, List.getElem?_cons_zero]; exact rfl)) (by rfl) ?_; simp only [Act.put, List.setIfInBounds_toArray, List.set_cons_zero, List.set_cons_succ])))
          refine plan_nil ?_
          go_wp2_with fail
          go_roundw
          case rel => exact ⟨k + 1 + 1, by omega, by omega, by go_num, hb.trans ((Below.refl _ _).drew.trans (hb5.mono hb.size))⟩
          case measure => simp [intOf]; omega
        · go_wp2_with fail
          go_loopw [9, 10, 11, 12, 13, 14] (RtRel w1 l b r) (fun _ _ _ _ _ i _ => l.length - (intOf i).toNat)
          case atStart => exact ⟨0, Nat.zero_le _, rfl, rfl, rfl, rfl, rfl, fun p hp => absurd hp (by simp [cutS]), World.ownsRow_nil _ _ _ _, hb⟩
          case round =>
            obtain ⟨j, hj, rfl, rfl, rfl, rfl, rfl, hfit, hown, hb⟩ := hrel
            by_cases hjl : j < l.length
            · obtain ⟨x, hx⟩ : ∃ x, l[j]? = some x := ⟨_, List.getElem?_eq_getElem hjl⟩
              have hxs := check_sizes (HCS.out x (List.mem_of_getElem? hx))
              have hsz : szAt l j = x.key.size + x.val.size + 16 := by unfold szAt; rw [hx]; rfl
              have hall : ∀ c ∈ l, c.key.size ≤ 128 ∧ c.val.size ≤ 1024 := fun c hc => check_sizes (HCS.out c hc)
              have hnb := cutS_n hall b j
              have hcl := cutS_len l b j
              have hcs := cutS_start l b j
              have hkl := keysS_len l j
              obtain ⟨st, hst⟩ : ∃ st, cutS l b j = st := ⟨_, rfl⟩
              have HY := Lib.hid (@cutS_yes l b j)
              have HN := Lib.hid (@cutS_no l b j)
              rw [hst, hsz] at HY HN
              have hin : ∀ p, p ∈ (cutS l b (j + 1)).out → p ∈ cutN l b := fun p hp => by
                have := cutS_mono hp (l.length - (j + 1))
                rw [show j + 1 + (l.length - (j + 1)) = l.length by omega] at this
                exact this
              have HIN := Lib.hid hin
              rw [hst] at hfit hnb hcl hcs ⊢
              obtain ⟨out, s0, n⟩ := st
              dsimp only at hfit hnb hcl hcs HY HN ⊢
              obtain ⟨Bo, hBo⟩ : ∃ Bo, partB l r out out.length = Bo := ⟨_, rfl⟩
              obtain ⟨Ix, hIx⟩ : ∃ Ix, partI l r out out.length = Ix := ⟨_, rfl⟩
              have hBl := partB_len hfit
              have hIl := partI_len (l := l) (r := r) (ps := out) (fun c hc => (hall c hc).1) out.length (by omega) hfit
              have hBl2 := hBl out.length
              rw [hBo] at hBl2 ⊢
              rw [hIx] at hIl ⊢
              have HBO := Lib.hid hBo
              have HIX := Lib.hid hIx
              have HFIT := Lib.hid hfit
              have HST := Lib.hid hst
              have HX := Lib.hid hx
              have HOWN := Lib.hid hown
              have HB := Lib.hid hb
              have i0 : (0 : Int) ≤ (j : Int) := by omega
              have i1 : (j : Int) < (l.length : Int) := by omega
              have hw1 : IntKind.i64.wrap ((j : Int) + 1) = (j : Int) + 1 := IntWalk.i64_in _ (by omega)
              clear hBo hIx hfit hst hx hown hb hBl hin hsz hall
              go_upto_region 24 with fail
              go_cut [83] from 68 to 155 (fun v W => ∃ d : Bool, v = .bool d ∧ (d = true ↔ (j = 0 ∨ keyB l (j - 1) ≠ keyB l j)) ∧ Below w1.heap.size w1 W ∧ W.ownsRow w1.heap.size 9 1 u11 (keysS l j).length ((keysS l j).map Value.string))
              case first =>
                obtain ⟨g, o, rfl, hbl, c0, c1, c2, c3⟩ := (H.out.kept HB.out).cell_at HX.out
                have HKX := Lib.hid (keyB_eq HX.out)
                by_cases hj0 : j = 0
                · have hkq : ((j : Int) == 0) = true := by simpa using hj0
                  have HJ := Lib.hid hj0
                  clear hj0
                  go_quiet (fail)
                  have hbq := below_drewN (Below.refl wr.heap.size wr) nq
                  have HRQ := own_kept HOWN.out hbq
                  go_wp2_with fail
                  go_meet
                  case rel => exact ⟨true, rfl, by simp [HJ.out], HB.out.trans (hbq.mono HB.out.size), HRQ⟩
                · have hkq : ((j : Int) == 0) = false := by simpa using hj0
                  obtain ⟨z, hz⟩ : ∃ z, l[j - 1]? = some z := ⟨_, List.getElem?_eq_getElem (by omega)⟩
                  obtain ⟨b', o', e', _, d0, _, _, _⟩ := (H.out.kept HB.out).cell_at hz
                  cases e'
                  have HKZ := Lib.hid (keyB_eq hz)
                  have q0 : (0 : Int) ≤ (j : Int) - 1 := by omega
                  have q1 : (j : Int) - 1 < (l.length : Int) := by omega
                  have hw1 : IntKind.i64.wrap ((j : Int) - 1) = (j : Int) - 1 := IntWalk.i64_in _ (by omega)
                  have ht1 : ((j : Int) - 1).toNat = j - 1 := by omega
                  have HJ := Lib.hid hj0
                  clear hz hj0
                  by_cases hne : z.key = x.key
                  · have hq : (x.key.toList == z.key.toList) = true := str_beq.2 hne.symm
                    have HNE := Lib.hid hne
                    clear hne
                    go_quiet (fail)
                    have hbq := below_drewN (Below.refl wr.heap.size wr) nq
                    have HRQ := own_kept HOWN.out hbq
                    go_wp2_with fail
                    go_meet
                    case rel => exact ⟨false, rfl, by rw [HKX.out, HKZ.out]; simp [HJ.out, HNE.out], HB.out.trans (hbq.mono HB.out.size), HRQ⟩
                  · have hq : (x.key.toList == z.key.toList) = false := str_beq_false.2 (fun h => hne h.symm)
                    have HNE := Lib.hid hne
                    clear hne
                    go_quiet (fail)
                    have hbq := below_drewN (Below.refl wr.heap.size wr) nq
                    have HRQ := own_kept HOWN.out hbq
                    go_wp2_with fail
                    go_meet
                    case rel => exact ⟨true, rfl, by rw [HKX.out, HKZ.out]; simp [HNE.out], HB.out.trans (hbq.mono HB.out.size), HRQ⟩
              case rest =>
                obtain ⟨d, rfl, hd, hb, hown⟩ := hcut
                have HD := Lib.hid hd
                have HB := Lib.hid hb
                have HOWN := Lib.hid hown
                have HH := H
                clear hd hb hown
                go_upto_if 83 with fail
                go_cut [11] from 84 to 155 (fun v W => Below w1.heap.size w1 W ∧ W.ownsRow w1.heap.size 9 1 v (keysS l (j + 1)).length ((keysS l (j + 1)).map Value.string))
                case first =>
                  cases d with
                  | true =>
                    obtain ⟨g, o, rfl, hbl, c0, c1, c2, c3⟩ := (H.out.kept HB.out).cell_at HX.out
                    have HA := Lib.hid (show keysS l (j + 1) = keysS l j ++ [x.key] by rw [keysS_yes (HD.out.1 rfl), keyB_eq HX.out])
                    have p1 : (keysS l j).length + 1 ≤ maxLen := by unfold maxLen; omega
                    have p2 : ((keysS l j).length + 1) * 16 ≤ 140737488355328 := by omega
                    have p3 : w1.heap.size ≤ (wc.alloc (.cells #[.string x.key] 9)).heap.size := by have := HB.out.size; simp only [World.size_alloc] at *; omega
                    obtain ⟨i0', hi, hz0, hz1, hz2⟩ := info_parts Try.infoStr
                    go_wp2_with (at_builtin; refine wpList_append_row rfl _ _ 142 rfl w1.heap.size 9 i0' (.string ⟨#[]⟩) 1 16 (by kernel_rfl) hi hz0 hz1 hz2 rfl (by decide) u11 _ _ rfl (HOWN.out.alloc _) ⟨wc.heap.size, 0, none⟩ 1 1 [.string x.key] rfl rfl (cell_one_new _ _ _) (by simp [Value.oneCell']) p1 p2 p3 ?_; intro rs' w4 own4 hgr hfr)
                    go_meet
                    case rel =>
                      refine ⟨?_, ?_⟩
                      · exact (HB.out.alloc HB.out.size (.cells #[.string x.key] 9)).grown hgr p3 (fun z hz => (HOWN.out.lt z hz).1)
                      · rw [HA.out]
                        simpa using own4
                  | false =>
                    have HA := Lib.hid (show keysS l (j + 1) = keysS l j by rw [keysS_no (fun h => by have := HD.out.2 h; cases this)])
                    go_wp2_with fail
                    go_meet
                    case rel => exact ⟨HB.out, by rw [HA.out]; exact HOWN.out⟩
                case rest =>
                  clear HB HOWN HD
                  obtain ⟨hb, hown⟩ := hcut
                  obtain ⟨g, o, rfl, hbl, c0, c1, c2, c3⟩ := (H.out.kept hb).cell_at HX.out
                  have v1 : IntKind.i64.wrap ((n : Int) + (x.key.size : Int)) = (n : Int) + (x.key.size : Int) := IntWalk.i64_in _ (by omega)
                  have v2 : IntKind.i64.wrap ((n : Int) + (x.key.size : Int) + (x.val.size : Int)) = (n : Int) + (x.key.size : Int) + (x.val.size : Int) := IntWalk.i64_in _ (by omega)
                  have v3 : IntKind.i64.wrap ((n : Int) + (x.key.size : Int) + (x.val.size : Int) + 16) = (n : Int) + (x.key.size : Int) + (x.val.size : Int) + 16 := IntWalk.i64_in _ (by omega)
                  obtain ⟨y0, y1, y2, y3⟩ := cell3 (HB1.out.below hb HB1.out.lt)
                  have HB := Lib.hid hb
                  have HOWN := Lib.hid hown
                  clear hb hown
                  go_wp2_with fail
                  go_quiet (fail)
                  have hbq := below_drewN (Below.refl wc.heap.size wc) nq
                  have HBQ := Lib.hid (HB.out.trans (hbq.mono HB.out.size))
                  have HRQ := Lib.hid (own_kept HOWN.out hbq)
                  clear hbq
                  go_upto_region 27 with fail
                  go_cut [118] from 108 to 155 (fun v W => ∃ d2 : Bool, v = .bool d2 ∧ (d2 = false ↔ ((b : Int) ≤ (n + (x.key.size + x.val.size + 16) : Nat) ∨ j + 1 = l.length)) ∧ Below w1.heap.size w1 W ∧ W.ownsRow w1.heap.size 9 1 u11 (keysS l (j + 1)).length ((keysS l (j + 1)).map Value.string))
                  case first =>
                    by_cases e1 : (n : Int) + (x.key.size : Int) + (x.val.size : Int) + 16 < (b : Int)
                    · by_cases e2 : (j : Int) + 1 < (l.length : Int)
                      · go_wp2_with fail
                        go_meet
                        case rel => exact ⟨true, rfl, ⟨fun h => (by cases h), fun h => (by omega)⟩, HBQ.out, HRQ.out⟩
                      · go_wp2_with fail
                        go_meet
                        case rel => exact ⟨false, rfl, ⟨fun _ => .inr (by omega), fun _ => rfl⟩, HBQ.out, HRQ.out⟩
                    · go_wp2_with fail
                      go_meet
                      case rel => exact ⟨false, rfl, ⟨fun _ => .inl (by omega), fun _ => rfl⟩, HBQ.out, HRQ.out⟩
                  case rest =>
                    clear y0 y1 y2 y3 c0 c1 c2 c3 hbl
                    obtain ⟨d2, rfl, hd2, hb, hown⟩ := hcut
                    cases d2 with
                    | true =>
                      have HA := Lib.hid (HN.out (fun h => by have := hd2.2 h; cases this))
                      clear hd2
                      go_wp2_with fail
                      go_roundw
                      case rel =>
                        exact ⟨j + 1, by omega, by go_num, by rw [HA.out], by rw [HA.out]; exact congrArg (Value.int .i64) (show (n : Int) + (x.key.size : Int) + (x.val.size : Int) + 16 = ((n + (x.key.size + x.val.size + 16) : Nat) : Int) by clear hw1 v1 v2 v3; omega), by rw [HA.out, HBO.out], by rw [HA.out, HIX.out], by rw [HA.out]; exact HFIT.out, hown, hb⟩
                      case measure => simp [intOf]; omega
                    | false =>
                      have HA := Lib.hid (HY.out (hd2.1 rfl))
                      clear hd2 v1 v2 v3
                      obtain ⟨x0, hx0⟩ : ∃ x0, l[s0]? = some x0 := ⟨_, List.getElem?_eq_getElem (by omega)⟩
                      obtain ⟨b', o', e', hbl, c0, _, _, _⟩ := (H.out.kept hb).cell_at hx0
                      cases e'
                      have hk0 := (check_sizes (HCS.out x0 (List.mem_of_getElem? hx0))).1
                      have hkb := keyB_eq hx0
                      obtain ⟨PL, hPL⟩ : ∃ PL, pieceL l (s0, j + 1) = PL := ⟨_, rfl⟩
                      have hpv : ∀ W, Reads W (.slice (some ⟨g, o, none⟩) l.length cap) l.length 4 (cellVals l) → _ := fun W hW => piece_reads (p := (s0, j + 1)) hW rfl (show s0 < j + 1 by omega) (show j + 1 ≤ l.length by omega) hcap
                      rw [hPL] at hpv
                      have hpck : checkL PL = 0 := by rw [← hPL]; exact pieceL_check HCK.out
                      have hPLl : PL.length ≤ 65536 := by rw [← hPL, pieceL_len (show (s0, j + 1).2 ≤ l.length from (by show j + 1 ≤ l.length; omega))]; show j + 1 - s0 ≤ 65536; omega
                      have hPLs : ∀ c ∈ PL, 0 ≤ c.seq := fun c hc => HS.out c (by rw [← hPL] at hc; exact pieceL_mem hc)
                      obtain ⟨PB, hPB⟩ : ∃ PB, blockN PL r = PB := ⟨_, rfl⟩
                      have hBN : buildN PL (r : Int) = if PB.length ≤ 65536 then (PB, 0) else ([], 3) := by
                        unfold buildN
                        rw [if_neg (by omega), if_neg (by rw [hpck]; simp), Int.toNat_natCast, hPB]
                      have hslc : ∀ W : World, (Instr.sliceAt 22 (.slice (some ⟨g, o, none⟩) l.length cap) (some (.int .i64 (s0 : Nat))) (some (.int .i64 ((j : Int) + 1))) none).run Try.prog W = .ok (.slice (some ⟨g, o + s0 * 4, none⟩) PL.length (cap - s0)) W := fun W => by
                        have e := cut_both (t := 22) (some ⟨g, o, none⟩) l.length cap s0 4 ((j : Int) + 1) (by omega) (by kernel_rfl) (fun w => by go_simp) (by omega) W
                        rw [e]
                        have := (hpv _ (H.out.kept hb)).1
                        unfold pieceV at this
                        rw [show ((j : Int) + 1).toNat = j + 1 by omega]
                        rw [this]
                      have hbu : ∀ W, Below w1.heap.size w1 W → Calls Try.prog 38 #[.slice (some ⟨g, o + s0 * 4, none⟩) PL.length (cap - s0), .int .i64 (r : Nat)] W fun e w' => e = .returned (.tuple #[.string ⟨(buildN PL (r : Int)).1.toArray⟩, .int .i64 (buildN PL (r : Int)).2]) ∧ Below W.heap.size W w' := fun W hW =>
                        ref_build_spec (hpv W (H.out.kept hW)).2 (by omega) hPLs r
                      rw [hBN] at hbu
                      obtain ⟨y0, y1, y2, y3⟩ := cell3 (HB1.out.below hb HB1.out.lt)
                      have hPlan : wc.drew.cell? ⟨w.heap.size, 1, none⟩ = some (.int .i64 (r : Nat)) ∧ w.heap.size < wc.drew.heap.size := ⟨y1, y3⟩
                      have HPL := Lib.hid hPL
                      have HPB := Lib.hid hPB
                      have HX0 := Lib.hid hx0
                      have HKB := Lib.hid hkb
                      have HBW := Lib.hid hb
                      have HOW := Lib.hid hown
                      clear hPL hPB hx0 hkb hb hown hpv hpck hPLs hBN
                      by_cases hfits : PB.length ≤ 65536
                      · rw [if_pos hfits] at hbu
                        have HBU := Lib.hid hbu
                        clear hbu
                        go_wp2_with fail
                        refine region_plan (S := fun w' => w'.cell? ⟨w.heap.size, 1, none⟩ = some (.int .i64 (r : Nat)) ∧ w.heap.size < w'.heap.size)
                          ((0, true) :: (1, true) :: (2, true) :: (3, true) :: (4, true) :: (5, true) :: (6, true) :: (7, false) :: (8, true) :: (9, true) :: (10, true) :: (11, true) :: (12, true) :: [])
                          (by kernel_rfl) (by kernel_rfl) (by kernel_rfl) (by kernel_rfl) (fun _ _ _ dst _ h => by cases dst <;> exact h) hPlan (fun hH => ?_)
                        (repeat (first | (refine plan_take (v := ?_) (by (simp only [List.getElem?_toArray, List.getElem?_cons_succ, List.getElem?_cons_zero]; exact rfl)) (by rfl) ?_ ?_; rotate_left; (focus (intro wS hS; (try dsimp only at hS); go_split_ands; go_simp; (try with_reducible rfl))); simp only [Act.put, List.setIfInBounds_toArray, List.set_cons_zero, List.set_cons_succ]) | (refine plan_skip (by (simp only [List.getElem?_toArray, List.getElem?_cons_succ, List.getElem?_cons_zero]; exact rfl)) (by rfl) ?_; simp only [Act.put, List.setIfInBounds_toArray, List.set_cons_zero, List.set_cons_succ])))
                        (refine plan_solo (by (simp only [List.getElem?_toArray, List.getElem?_cons_succ, List.getElem?_cons_zero]; exact rfl)) (by rfl) ?_; intro K hK; go_simp)
                        refine (HBU.out _ HBW.out.drew).mono ?_
                        rintro e w5 ⟨rfl, hb5⟩
                        have b5 := HBW.out.drew.trans (hb5.mono HBW.out.drew.size)
                        refine hK.out _ _ ⟨cell_keep hb5 y1, Nat.lt_of_lt_of_le y3 hb5.size⟩ (fun hH => ?_)
                        clear hK K
                        (try simp only [Act.put, List.setIfInBounds_toArray, List.set_cons_zero, List.set_cons_succ])
                        (repeat (first | (refine plan_take (v := ?_) (by (simp only [List.getElem?_toArray, List.getElem?_cons_succ, List.getElem?_cons_zero]; exact rfl)) (by rfl) ?_ ?_; rotate_left; (focus (intro wS hS; (try dsimp only at hS); go_split_ands; go_simp; (try with_reducible rfl))); simp only [Act.put, List.setIfInBounds_toArray, List.set_cons_zero, List.set_cons_succ]) | (refine plan_skip (by (simp only [List.getElem?_toArray, List.getElem?_cons_succ, List.getElem?_cons_zero]; exact rfl)) (by rfl) ?_; simp only [Act.put, List.setIfInBounds_toArray, List.set_cons_zero, List.set_cons_succ])))
                        refine plan_nil ?_
                        have HOW5 := Lib.hid (own_kept (own_kept HOW.out (Below.refl wc.heap.size wc).drew) hb5)
                        have c5 := cell_keep hb5 c0
                        have hbl5 := Nat.lt_of_lt_of_le hbl hb5.size
                        have HB5 := Lib.hid b5
                        have htl := textN_len hk0
                        have vl1 := varN_len 9 Bo.length (by omega)
                        have vl2 := varN_len 9 PB.length (by omega)
                        have u1 : IntKind.u64.wrap (Bo.length : Int) = (Bo.length : Int) := by rw [IntKind.wrap_u64]; omega
                        have u2 : IntKind.u64.wrap (PB.length : Int) = (PB.length : Int) := by rw [IntKind.wrap_u64]; omega
                        have HT1 := Lib.hid (fun W => ref_text x0.key (by omega) W)
                        have HV1 := Lib.hid (fun W => ref_varint Bo.length (by omega) W)
                        have HV2 := Lib.hid (fun W => ref_varint PB.length (by omega) W)
                        have hsz1 : (ByteArray.mk Bo.toArray).size = Bo.length := rfl
                        have hsz2 : (ByteArray.mk PB.toArray).size = PB.length := rfl
                        obtain ⟨TX, hTX⟩ : ∃ TX, WM.textN x0.key = TX := ⟨_, rfl⟩
                        obtain ⟨V1, hV1⟩ : ∃ V1, varN Bo.length = V1 := ⟨_, rfl⟩
                        obtain ⟨V2, hV2⟩ : ∃ V2, varN PB.length = V2 := ⟨_, rfl⟩
                        rw [hTX] at htl HT1
                        rw [hV1] at vl1 HV1
                        rw [hV2] at vl2 HV2
                        obtain ⟨S1, hS1⟩ : ∃ S1, Ix ++ TX = S1 := ⟨_, rfl⟩
                        obtain ⟨S2, hS2⟩ : ∃ S2, S1 ++ V1 = S2 := ⟨_, rfl⟩
                        obtain ⟨S3, hS3⟩ : ∃ S3, S2 ++ V2 = S3 := ⟨_, rfl⟩
                        obtain ⟨S4, hS4⟩ : ∃ S4, Bo ++ PB = S4 := ⟨_, rfl⟩
                        have a1 := str_add Ix TX (by omega)
                        have a2 := str_add S1 V1 (by rw [← hS1, List.length_append]; omega)
                        have a3 := str_add S2 V2 (by rw [← hS2, ← hS1, List.length_append, List.length_append]; omega)
                        have a4 := str_add Bo PB (by omega)
                        rw [hS1] at a1
                        rw [hS2] at a2
                        rw [hS3] at a3
                        rw [hS4] at a4
                        have hps : partB l r (out ++ [(s0, j + 1)]) (out ++ [(s0, j + 1)]).length = S4 := by
                          rw [List.length_append]
                          exact (partB_snoc l r out (s0, j + 1)).trans (by rw [HBO.out, HPL.out, HPB.out, hS4])
                        have hpi : partI l r (out ++ [(s0, j + 1)]) (out ++ [(s0, j + 1)]).length = S3 := by
                          rw [List.length_append]
                          refine (partI_snoc l r out (s0, j + 1)).trans ?_
                          rw [HIX.out, HBO.out, HPL.out, HPB.out]
                          show Ix ++ (WM.textN (keyB l s0) ++ _) = _
                          rw [HKB.out, hTX, hV1, hV2, ← hS3, ← hS2, ← hS1]
                          simp only [List.append_assoc]
                        have hft : fitsP l r (out ++ [(s0, j + 1)]) := fun p hp => by
                          rcases List.mem_append.1 hp with hp | hp
                          · exact HFIT.out p hp
                          · obtain rfl : p = _ := by simpa using hp
                            rw [HPL.out, HPB.out]
                            exact hfits
                        have HPS := Lib.hid hps
                        have HPI := Lib.hid hpi
                        have HFT := Lib.hid hft
                        clear hTX hV1 hV2 hps hpi hft hS1 hS2 hS3 hS4
                        clear y0 y1 y2 y3 c0 hbl hb5 b5 HBW HOW
                        go_wp2_with fail
                        refine (HT1.out _).mono ?_
                        rintro e w6 ⟨rfl, b6⟩
                        go_wp2_with fail
                        refine (HV1.out _).mono ?_
                        rintro e w7 ⟨rfl, b7⟩
                        go_wp2_with fail
                        refine (HV2.out _).mono ?_
                        rintro e w8 ⟨rfl, b8⟩
                        have b68 := b6.trans ((b7.trans (b8.mono b7.size)).mono b6.size)
                        have HB8 := Lib.hid (HB5.out.trans (b68.mono HB5.out.size))
                        have HOW8 := Lib.hid (own_kept HOW5.out b68)
                        clear b6 b7 b8 b68
                        go_wp2_with fail
                        go_roundw
                        case rel =>
                          (repeat apply Exists.intro)
                          refine ⟨?_, rfl⟩
                          exact ⟨j + 1, by omega, by go_num, by rw [HA.out]; rfl, by rw [HA.out]; rfl, by rw [HA.out, HPS.out], by rw [HA.out, HPI.out], by rw [HA.out]; exact HFT.out, HOW8.out, HB8.out⟩
                        case measure => simp [intOf]; omega
                      · rw [if_neg hfits] at hbu
                        have HBU := Lib.hid hbu
                        have HT := Lib.hid (show tableN l (b : Int) (r : Int) (t : Int) = ([], 3) by
                          rw [HTN.out, if_pos]
                          intro hft
                          have := hft (s0, j + 1) (HIN.out _ (by rw [HA.out]; simp))
                          rw [HPL.out, HPB.out] at this
                          exact hfits this)
                        clear hbu
                        go_wp2_with fail
                        refine region_plan (S := fun w' => w'.cell? ⟨w.heap.size, 1, none⟩ = some (.int .i64 (r : Nat)) ∧ w.heap.size < w'.heap.size)
                          ((0, true) :: (1, true) :: (2, true) :: (3, true) :: (4, true) :: (5, true) :: (6, true) :: (7, false) :: (8, true) :: (9, true) :: (10, true) :: (11, true) :: (12, true) :: [])
                          (by kernel_rfl) (by kernel_rfl) (by kernel_rfl) (by kernel_rfl) (fun _ _ _ dst _ h => by cases dst <;> exact h) hPlan (fun hH => ?_)
                        (repeat (first | (refine plan_take (v := ?_) (by (simp only [List.getElem?_toArray, List.getElem?_cons_succ, List.getElem?_cons_zero]; exact rfl)) (by rfl) ?_ ?_; rotate_left; (focus (intro wS hS; (try dsimp only at hS); go_split_ands; go_simp; (try with_reducible rfl))); simp only [Act.put, List.setIfInBounds_toArray, List.set_cons_zero, List.set_cons_succ]) | (refine plan_skip (by (simp only [List.getElem?_toArray, List.getElem?_cons_succ, List.getElem?_cons_zero]; exact rfl)) (by rfl) ?_; simp only [Act.put, List.setIfInBounds_toArray, List.set_cons_zero, List.set_cons_succ])))
                        (refine plan_solo (by (simp only [List.getElem?_toArray, List.getElem?_cons_succ, List.getElem?_cons_zero]; exact rfl)) (by rfl) ?_; intro K hK; go_simp)
                        refine (HBU.out _ HBW.out.drew).mono ?_
                        rintro e w5 ⟨rfl, hb5⟩
                        have b5 := HBW.out.drew.trans (hb5.mono HBW.out.drew.size)
                        refine hK.out _ _ ⟨cell_keep hb5 y1, Nat.lt_of_lt_of_le y3 hb5.size⟩ (fun hH => ?_)
                        clear hK K
                        (try simp only [Act.put, List.setIfInBounds_toArray, List.set_cons_zero, List.set_cons_succ])
                        (repeat (first | (refine plan_take (v := ?_) (by (simp only [List.getElem?_toArray, List.getElem?_cons_succ, List.getElem?_cons_zero]; exact rfl)) (by rfl) ?_ ?_; rotate_left; (focus (intro wS hS; (try dsimp only at hS); go_split_ands; go_simp; (try with_reducible rfl))); simp only [Act.put, List.setIfInBounds_toArray, List.set_cons_zero, List.set_cons_succ]) | (refine plan_skip (by (simp only [List.getElem?_toArray, List.getElem?_cons_succ, List.getElem?_cons_zero]; exact rfl)) (by rfl) ?_; simp only [Act.put, List.setIfInBounds_toArray, List.set_cons_zero, List.set_cons_succ])))
                        refine plan_nil ?_
                        have HB5 := Lib.hid b5
                        clear y0 y1 y2 y3 c0 hbl hb5 b5 HBW HOW
                        go_wp2_with fail
                        go_ret2
                        unfold RTPost
                        rw [HT.out]
                        exact ⟨_, rfl, Reads.of_own (World.ownsRow_nil _ 0 5 1), HB0.out.trans (HB5.out.mono HB0.out.size)⟩
            · obtain rfl : j = l.length := by omega
              have hBl := partB_len hfit
              have hIl := partI_len (l := l) (r := r) (fun c hc => (check_sizes (HCS.out c hc)).1) (cutS l b l.length).out.length (by have := cutS_len l b l.length; omega) hfit
              have hcl := cutS_len l b l.length
              have hBl2 := hBl (cutS l b l.length).out.length
              have hBT : partB l r (cutS l b l.length).out (cutS l b l.length).out.length = bodyT l b r := rfl
              have hIT : partI l r (cutS l b l.length).out (cutS l b l.length).out.length = indexT l b r := rfl
              have hkl := keysS_len l l.length
              have hown' : wr.ownsRow w1.heap.size 9 1 u11 (keysN l).length ((keysN l).map Value.string) := hown
              have hkn : (keysN l).length ≤ 65536 := by unfold keysN; omega
              have hks : ∀ s ∈ keysN l, s.size ≤ 128 := fun s hs => by
                obtain ⟨c, hc, rfl⟩ := keysN_mem hs
                exact (check_sizes (HCS.out c hc)).1
              obtain ⟨Ak, ck, rfl⟩ := (Reads.of_own hown').form
              have hfl := rfilter_main (Reads.of_own hown') hkn hks t (by omega) (by omega)
              have hF : (filterN (keysN l) t).length ≤ 300000 := by
                rw [filterN_len]
                obtain ⟨q, hq, _, hqm⟩ := fM_facts (keysN l).length t
                have : (keysN l).length * t ≤ 65536 * 32 := Nat.mul_le_mul hkn (by omega)
                omega
              have hTOK : tableN l (b : Int) (r : Int) (t : Int) = if 1048576 < (bytesT l b r t).length then ([], 3) else (bytesT l b r t, 0) := by
                rw [HTN.out, if_neg]
                exact fun h => h hfit
              have hBY : bytesT l b r t = wholeN (bodyT l b r) (filterN (keysN l) t) (indexT l b r) l.length b r t := rfl
              rw [hBT] at hBl2 ⊢
              rw [hIT] at hIl ⊢
              obtain ⟨Bo, hBo⟩ : ∃ Bo, bodyT l b r = Bo := ⟨_, rfl⟩
              obtain ⟨Ix, hIx⟩ : ∃ Ix, indexT l b r = Ix := ⟨_, rfl⟩
              obtain ⟨F, hFe⟩ : ∃ F, filterN (keysN l) t = F := ⟨_, rfl⟩
              rw [hBo] at hBl2 hBY ⊢
              rw [hIx] at hIl hBY ⊢
              rw [hFe] at hBY hfl hF
              rw [hBY] at hTOK
              obtain ⟨y0, y1, y2, y3⟩ := cell3 (HB1.out.below hb HB1.out.lt)
              have HFL := Lib.hid hfl
              have HTOK := Lib.hid hTOK
              have HBW := Lib.hid hb
              clear hBl hBT hIT hown hown' hks hfl hBY hBo hIx hFe hTOK hb hfit hkl
              go_wp2_with fail
              refine HFL.out.mono ?_
              rintro e w5 ⟨v5, rfl, own5, b5⟩
              have y0' := cell_keep b5 y0
              have y1' := cell_keep b5 y1
              have y2' := cell_keep b5 y2
              have y3' := Nat.lt_of_lt_of_le y3 b5.size
              have HB5 := Lib.hid (HBW.out.trans (b5.mono HBW.out.size))
              obtain ⟨A5, c5, rfl⟩ := (Reads.of_own own5).form
              have HO5 := Lib.hid own5
              have hPlan : w5.drew.cell? ⟨w.heap.size, 0, none⟩ = some (.int .i64 (b : Nat)) ∧ w5.drew.cell? ⟨w.heap.size, 1, none⟩ = some (.int .i64 (r : Nat)) ∧ w5.drew.cell? ⟨w.heap.size, 2, none⟩ = some (.int .i64 (t : Nat)) ∧ w.heap.size < w5.drew.heap.size := ⟨y0', y1', y2', y3'⟩
              clear y0 y1 y2 y3 own5 b5 HBW
              have hBm : Bo.length ≤ 4294967296 := by omega
              have hIm : Ix.length ≤ 10354688 := by omega
              have u1 : IntKind.u64.wrap (Bo.length : Int) = (Bo.length : Int) := by rw [IntKind.wrap_u64]; omega
              have u2 : IntKind.u64.wrap (F.length : Int) = (F.length : Int) := by rw [IntKind.wrap_u64]; omega
              have u3 : IntKind.i64.wrap ((Bo.length : Int) + (F.length : Int)) = ((Bo.length + F.length : Nat) : Int) := by rw [IntWalk.i64_in _ (by omega)]; omega
              have u4 : IntKind.u64.wrap ((Bo.length + F.length : Nat) : Int) = ((Bo.length + F.length : Nat) : Int) := by rw [IntKind.wrap_u64]; omega
              have u5 : IntKind.u64.wrap (Ix.length : Int) = (Ix.length : Int) := by rw [IntKind.wrap_u64]; omega
              have u6 : IntKind.u64.wrap (l.length : Int) = (l.length : Int) := by rw [IntKind.wrap_u64]; omega
              have u7 : IntKind.u64.wrap (b : Int) = (b : Int) := by rw [IntKind.wrap_u64]; omega
              have u8 : IntKind.u64.wrap (r : Int) = (r : Int) := by rw [IntKind.wrap_u64]; omega
              have u9 : IntKind.u64.wrap (t : Int) = (t : Int) := by rw [IntKind.wrap_u64]; omega
              have HC1 := Lib.hid (fun W => ref_number4 Bo.length W)
              have HC2 := Lib.hid (fun W => ref_number4 F.length W)
              obtain ⟨BF, hBF⟩ : ∃ BF, Bo.length + F.length = BF := ⟨_, rfl⟩
              rw [hBF] at u3 u4
              have HC3 := Lib.hid (fun W => ref_number4 BF W)
              have HC4 := Lib.hid (fun W => ref_number4 Ix.length W)
              have HC5 := Lib.hid (fun W => ref_number4 l.length W)
              have HC6 := Lib.hid (fun W => ref_number4 b W)
              have HC7 := Lib.hid (fun W => ref_number2 r W)
              have HC8 := Lib.hid (fun W => ref_number2 t W)
              obtain ⟨M1, hM1⟩ : ∃ M, be4 (Bo.length) = M := ⟨_, rfl⟩
              have m1 : M1.length = 4 := by rw [← hM1]; rfl
              rw [hM1] at HC1
              obtain ⟨M2, hM2⟩ : ∃ M, be4 (F.length) = M := ⟨_, rfl⟩
              have m2 : M2.length = 4 := by rw [← hM2]; rfl
              rw [hM2] at HC2
              obtain ⟨M3, hM3⟩ : ∃ M, be4 BF = M := ⟨_, rfl⟩
              have m3 : M3.length = 4 := by rw [← hM3]; rfl
              rw [hM3] at HC3
              obtain ⟨M4, hM4⟩ : ∃ M, be4 (Ix.length) = M := ⟨_, rfl⟩
              have m4 : M4.length = 4 := by rw [← hM4]; rfl
              rw [hM4] at HC4
              obtain ⟨M5, hM5⟩ : ∃ M, be4 (l.length) = M := ⟨_, rfl⟩
              have m5 : M5.length = 4 := by rw [← hM5]; rfl
              rw [hM5] at HC5
              obtain ⟨M6, hM6⟩ : ∃ M, be4 b = M := ⟨_, rfl⟩
              have m6 : M6.length = 4 := by rw [← hM6]; rfl
              rw [hM6] at HC6
              obtain ⟨M7, hM7⟩ : ∃ M, be2 r = M := ⟨_, rfl⟩
              have m7 : M7.length = 2 := by rw [← hM7]; rfl
              rw [hM7] at HC7
              obtain ⟨M8, hM8⟩ : ∃ M, be2 t = M := ⟨_, rfl⟩
              have m8 : M8.length = 2 := by rw [← hM8]; rfl
              rw [hM8] at HC8
              obtain ⟨S2, hS2⟩ : ∃ S, M1 ++ M2 = S := ⟨_, rfl⟩
              have q2 : S2.length ≤ 8 := by rw [← hS2, List.length_append]; omega
              have a2 := str_add M1 M2 (by omega)
              rw [hS2] at a2
              obtain ⟨S3, hS3⟩ : ∃ S, S2 ++ M3 = S := ⟨_, rfl⟩
              have q3 : S3.length ≤ 12 := by rw [← hS3, List.length_append]; omega
              have a3 := str_add S2 M3 (by omega)
              rw [hS3] at a3
              obtain ⟨S4, hS4⟩ : ∃ S, S3 ++ M4 = S := ⟨_, rfl⟩
              have q4 : S4.length ≤ 16 := by rw [← hS4, List.length_append]; omega
              have a4 := str_add S3 M4 (by omega)
              rw [hS4] at a4
              obtain ⟨S5, hS5⟩ : ∃ S, S4 ++ M5 = S := ⟨_, rfl⟩
              have q5 : S5.length ≤ 20 := by rw [← hS5, List.length_append]; omega
              have a5 := str_add S4 M5 (by omega)
              rw [hS5] at a5
              obtain ⟨S6, hS6⟩ : ∃ S, S5 ++ M6 = S := ⟨_, rfl⟩
              have q6 : S6.length ≤ 24 := by rw [← hS6, List.length_append]; omega
              have a6 := str_add S5 M6 (by omega)
              rw [hS6] at a6
              obtain ⟨S7, hS7⟩ : ∃ S, S6 ++ M7 = S := ⟨_, rfl⟩
              have q7 : S7.length ≤ 28 := by rw [← hS7, List.length_append]; omega
              have a7 := str_add S6 M7 (by omega)
              rw [hS7] at a7
              obtain ⟨S8, hS8⟩ : ∃ S, S7 ++ M8 = S := ⟨_, rfl⟩
              have q8 : S8.length ≤ 32 := by rw [← hS8, List.length_append]; omega
              have a8 := str_add S7 M8 (by omega)
              rw [hS8] at a8
              have hft : S8 = foot0 Bo.length F.length Ix.length l.length b r t := by
                unfold foot0
                rw [← be4_m32, ← be4_m32, ← be4_m32, ← be4_m32, ← be4_m32, ← be4_m32, hBF, hM1, hM2, hM3, hM4, hM5, hM6, hM7, hM8, ← hS8, ← hS7, ← hS6, ← hS5, ← hS4, ← hS3, ← hS2]
                simp only [List.append_assoc]
              have HFT := Lib.hid hft
              clear hft hBF hM1 hM2 hM3 hM4 hM5 hM6 hM7 hM8 hS2 hS3 hS4 hS5 hS6 hS7 hS8
              go_wp2_with fail
              refine region_plan (S := fun w' => w'.cell? ⟨w.heap.size, 0, none⟩ = some (.int .i64 (b : Nat)) ∧ w'.cell? ⟨w.heap.size, 1, none⟩ = some (.int .i64 (r : Nat)) ∧ w'.cell? ⟨w.heap.size, 2, none⟩ = some (.int .i64 (t : Nat)) ∧ w.heap.size < w'.heap.size)
                ((0, true) :: (1, true) :: (3, true) :: (4, true) :: (5, true) :: (8, true) :: (9, true) :: (10, true) :: (11, true) :: (12, true) :: (15, true) :: (16, true) :: (17, true) :: (20, true) :: (21, true) :: (22, true) :: (25, true) :: (26, true) :: (27, true) :: (30, true) :: (31, true) :: (32, true) :: (35, true) :: (36, true) :: (37, true) :: (2, false) :: (6, false) :: (7, true) :: (13, false) :: (14, true) :: (18, false) :: (19, true) :: (23, false) :: (24, true) :: (28, false) :: (29, true) :: (33, false) :: (34, true) :: (38, false) :: (39, true) :: (40, true) :: [])
                (by kernel_rfl) (by kernel_rfl) (by kernel_rfl) (by kernel_rfl) (fun _ _ _ dst _ h => by cases dst <;> exact h) hPlan (fun hH => ?_)
              clear hPlan
              have p5 := HB5.out.drew
              have o5 := own_kept HO5.out (Below.refl w5.heap.size w5).drew
              have O5 := Lib.hid o5
              have P5 := Lib.hid p5
              clear p5 o5 HB5 HO5
              (repeat (first | (refine plan_take (v := ?_) (by (simp only [List.getElem?_toArray, List.getElem?_cons_succ, List.getElem?_cons_zero]; exact rfl)) (by rfl) ?_ ?_; rotate_left; (focus (intro wS hS; (try dsimp only at hS); go_split_ands; go_simp; (try with_reducible rfl))); simp only [Act.put, List.setIfInBounds_toArray, List.set_cons_zero, List.set_cons_succ]) | (refine plan_skip (by (simp only [List.getElem?_toArray, List.getElem?_cons_succ, List.getElem?_cons_zero]; exact rfl)) (by rfl) ?_; simp only [Act.put, List.setIfInBounds_toArray, List.set_cons_zero, List.set_cons_succ])))
              (refine plan_solo (by (simp only [List.getElem?_toArray, List.getElem?_cons_succ, List.getElem?_cons_zero]; exact rfl)) (by rfl) ?_; intro K hK; go_simp)
              refine (HC1.out _).mono ?_
              rintro e w6 ⟨rfl, f1⟩
              have P6 := Lib.hid (P5.out.trans (f1.mono P5.out.size))
              have O6 := Lib.hid (own_kept O5.out f1)
              refine hK.out _ _ ⟨cell_keep f1 hH.1, cell_keep f1 hH.2.1, cell_keep f1 hH.2.2.1, Nat.lt_of_lt_of_le hH.2.2.2 f1.size⟩ (fun hH' => ?_)
              clear hK K hH f1 P5 O5
              have hH := hH'
              clear hH'
              (try simp only [Act.put, List.setIfInBounds_toArray, List.set_cons_zero, List.set_cons_succ])
              (repeat (first | (refine plan_take (v := ?_) (by (simp only [List.getElem?_toArray, List.getElem?_cons_succ, List.getElem?_cons_zero]; exact rfl)) (by rfl) ?_ ?_; rotate_left; (focus (intro wS hS; (try dsimp only at hS); go_split_ands; go_simp; (try with_reducible rfl))); simp only [Act.put, List.setIfInBounds_toArray, List.set_cons_zero, List.set_cons_succ]) | (refine plan_skip (by (simp only [List.getElem?_toArray, List.getElem?_cons_succ, List.getElem?_cons_zero]; exact rfl)) (by rfl) ?_; simp only [Act.put, List.setIfInBounds_toArray, List.set_cons_zero, List.set_cons_succ])))
              (refine plan_solo (by (simp only [List.getElem?_toArray, List.getElem?_cons_succ, List.getElem?_cons_zero]; exact rfl)) (by rfl) ?_; intro K hK; go_simp)
              refine (HC2.out _).mono ?_
              rintro e w7 ⟨rfl, f2⟩
              have P7 := Lib.hid (P6.out.trans (f2.mono P6.out.size))
              have O7 := Lib.hid (own_kept O6.out f2)
              refine hK.out _ _ ⟨cell_keep f2 hH.1, cell_keep f2 hH.2.1, cell_keep f2 hH.2.2.1, Nat.lt_of_lt_of_le hH.2.2.2 f2.size⟩ (fun hH' => ?_)
              clear hK K hH f2 P6 O6
              have hH := hH'
              clear hH'
              (try simp only [Act.put, List.setIfInBounds_toArray, List.set_cons_zero, List.set_cons_succ])
              (repeat (first | (refine plan_take (v := ?_) (by (simp only [List.getElem?_toArray, List.getElem?_cons_succ, List.getElem?_cons_zero]; exact rfl)) (by rfl) ?_ ?_; rotate_left; (focus (intro wS hS; (try dsimp only at hS); go_split_ands; go_simp; (try with_reducible rfl))); simp only [Act.put, List.setIfInBounds_toArray, List.set_cons_zero, List.set_cons_succ]) | (refine plan_skip (by (simp only [List.getElem?_toArray, List.getElem?_cons_succ, List.getElem?_cons_zero]; exact rfl)) (by rfl) ?_; simp only [Act.put, List.setIfInBounds_toArray, List.set_cons_zero, List.set_cons_succ])))
              (refine plan_solo (by (simp only [List.getElem?_toArray, List.getElem?_cons_succ, List.getElem?_cons_zero]; exact rfl)) (by rfl) ?_; intro K hK; go_simp)
              refine (HC3.out _).mono ?_
              rintro e w8 ⟨rfl, f3⟩
              have P8 := Lib.hid (P7.out.trans (f3.mono P7.out.size))
              have O8 := Lib.hid (own_kept O7.out f3)
              refine hK.out _ _ ⟨cell_keep f3 hH.1, cell_keep f3 hH.2.1, cell_keep f3 hH.2.2.1, Nat.lt_of_lt_of_le hH.2.2.2 f3.size⟩ (fun hH' => ?_)
              clear hK K hH f3 P7 O7
              have hH := hH'
              clear hH'
              (try simp only [Act.put, List.setIfInBounds_toArray, List.set_cons_zero, List.set_cons_succ])
              (repeat (first | (refine plan_take (v := ?_) (by (simp only [List.getElem?_toArray, List.getElem?_cons_succ, List.getElem?_cons_zero]; exact rfl)) (by rfl) ?_ ?_; rotate_left; (focus (intro wS hS; (try dsimp only at hS); go_split_ands; go_simp; (try with_reducible rfl))); simp only [Act.put, List.setIfInBounds_toArray, List.set_cons_zero, List.set_cons_succ]) | (refine plan_skip (by (simp only [List.getElem?_toArray, List.getElem?_cons_succ, List.getElem?_cons_zero]; exact rfl)) (by rfl) ?_; simp only [Act.put, List.setIfInBounds_toArray, List.set_cons_zero, List.set_cons_succ])))
              (refine plan_solo (by (simp only [List.getElem?_toArray, List.getElem?_cons_succ, List.getElem?_cons_zero]; exact rfl)) (by rfl) ?_; intro K hK; go_simp)
              refine (HC4.out _).mono ?_
              rintro e w9 ⟨rfl, f4⟩
              have P9 := Lib.hid (P8.out.trans (f4.mono P8.out.size))
              have O9 := Lib.hid (own_kept O8.out f4)
              refine hK.out _ _ ⟨cell_keep f4 hH.1, cell_keep f4 hH.2.1, cell_keep f4 hH.2.2.1, Nat.lt_of_lt_of_le hH.2.2.2 f4.size⟩ (fun hH' => ?_)
              clear hK K hH f4 P8 O8
              have hH := hH'
              clear hH'
              (try simp only [Act.put, List.setIfInBounds_toArray, List.set_cons_zero, List.set_cons_succ])
              (repeat (first | (refine plan_take (v := ?_) (by (simp only [List.getElem?_toArray, List.getElem?_cons_succ, List.getElem?_cons_zero]; exact rfl)) (by rfl) ?_ ?_; rotate_left; (focus (intro wS hS; (try dsimp only at hS); go_split_ands; go_simp; (try with_reducible rfl))); simp only [Act.put, List.setIfInBounds_toArray, List.set_cons_zero, List.set_cons_succ]) | (refine plan_skip (by (simp only [List.getElem?_toArray, List.getElem?_cons_succ, List.getElem?_cons_zero]; exact rfl)) (by rfl) ?_; simp only [Act.put, List.setIfInBounds_toArray, List.set_cons_zero, List.set_cons_succ])))
              (refine plan_solo (by (simp only [List.getElem?_toArray, List.getElem?_cons_succ, List.getElem?_cons_zero]; exact rfl)) (by rfl) ?_; intro K hK; go_simp)
              refine (HC5.out _).mono ?_
              rintro e w10 ⟨rfl, f5⟩
              have P10 := Lib.hid (P9.out.trans (f5.mono P9.out.size))
              have O10 := Lib.hid (own_kept O9.out f5)
              refine hK.out _ _ ⟨cell_keep f5 hH.1, cell_keep f5 hH.2.1, cell_keep f5 hH.2.2.1, Nat.lt_of_lt_of_le hH.2.2.2 f5.size⟩ (fun hH' => ?_)
              clear hK K hH f5 P9 O9
              have hH := hH'
              clear hH'
              (try simp only [Act.put, List.setIfInBounds_toArray, List.set_cons_zero, List.set_cons_succ])
              (repeat (first | (refine plan_take (v := ?_) (by (simp only [List.getElem?_toArray, List.getElem?_cons_succ, List.getElem?_cons_zero]; exact rfl)) (by rfl) ?_ ?_; rotate_left; (focus (intro wS hS; (try dsimp only at hS); go_split_ands; go_simp; (try with_reducible rfl))); simp only [Act.put, List.setIfInBounds_toArray, List.set_cons_zero, List.set_cons_succ]) | (refine plan_skip (by (simp only [List.getElem?_toArray, List.getElem?_cons_succ, List.getElem?_cons_zero]; exact rfl)) (by rfl) ?_; simp only [Act.put, List.setIfInBounds_toArray, List.set_cons_zero, List.set_cons_succ])))
              (refine plan_solo (by (simp only [List.getElem?_toArray, List.getElem?_cons_succ, List.getElem?_cons_zero]; exact rfl)) (by rfl) ?_; intro K hK; go_simp)
              refine (HC6.out _).mono ?_
              rintro e w11 ⟨rfl, f6⟩
              have P11 := Lib.hid (P10.out.trans (f6.mono P10.out.size))
              have O11 := Lib.hid (own_kept O10.out f6)
              refine hK.out _ _ ⟨cell_keep f6 hH.1, cell_keep f6 hH.2.1, cell_keep f6 hH.2.2.1, Nat.lt_of_lt_of_le hH.2.2.2 f6.size⟩ (fun hH' => ?_)
              clear hK K hH f6 P10 O10
              have hH := hH'
              clear hH'
              (try simp only [Act.put, List.setIfInBounds_toArray, List.set_cons_zero, List.set_cons_succ])
              (repeat (first | (refine plan_take (v := ?_) (by (simp only [List.getElem?_toArray, List.getElem?_cons_succ, List.getElem?_cons_zero]; exact rfl)) (by rfl) ?_ ?_; rotate_left; (focus (intro wS hS; (try dsimp only at hS); go_split_ands; go_simp; (try with_reducible rfl))); simp only [Act.put, List.setIfInBounds_toArray, List.set_cons_zero, List.set_cons_succ]) | (refine plan_skip (by (simp only [List.getElem?_toArray, List.getElem?_cons_succ, List.getElem?_cons_zero]; exact rfl)) (by rfl) ?_; simp only [Act.put, List.setIfInBounds_toArray, List.set_cons_zero, List.set_cons_succ])))
              (refine plan_solo (by (simp only [List.getElem?_toArray, List.getElem?_cons_succ, List.getElem?_cons_zero]; exact rfl)) (by rfl) ?_; intro K hK; go_simp)
              refine (HC7.out _).mono ?_
              rintro e w12 ⟨rfl, f7⟩
              have P12 := Lib.hid (P11.out.trans (f7.mono P11.out.size))
              have O12 := Lib.hid (own_kept O11.out f7)
              refine hK.out _ _ ⟨cell_keep f7 hH.1, cell_keep f7 hH.2.1, cell_keep f7 hH.2.2.1, Nat.lt_of_lt_of_le hH.2.2.2 f7.size⟩ (fun hH' => ?_)
              clear hK K hH f7 P11 O11
              have hH := hH'
              clear hH'
              (try simp only [Act.put, List.setIfInBounds_toArray, List.set_cons_zero, List.set_cons_succ])
              (repeat (first | (refine plan_take (v := ?_) (by (simp only [List.getElem?_toArray, List.getElem?_cons_succ, List.getElem?_cons_zero]; exact rfl)) (by rfl) ?_ ?_; rotate_left; (focus (intro wS hS; (try dsimp only at hS); go_split_ands; go_simp; (try with_reducible rfl))); simp only [Act.put, List.setIfInBounds_toArray, List.set_cons_zero, List.set_cons_succ]) | (refine plan_skip (by (simp only [List.getElem?_toArray, List.getElem?_cons_succ, List.getElem?_cons_zero]; exact rfl)) (by rfl) ?_; simp only [Act.put, List.setIfInBounds_toArray, List.set_cons_zero, List.set_cons_succ])))
              (refine plan_solo (by (simp only [List.getElem?_toArray, List.getElem?_cons_succ, List.getElem?_cons_zero]; exact rfl)) (by rfl) ?_; intro K hK; go_simp)
              refine (HC8.out _).mono ?_
              rintro e w13 ⟨rfl, f8⟩
              have P13 := Lib.hid (P12.out.trans (f8.mono P12.out.size))
              have O13 := Lib.hid (own_kept O12.out f8)
              refine hK.out _ _ ⟨cell_keep f8 hH.1, cell_keep f8 hH.2.1, cell_keep f8 hH.2.2.1, Nat.lt_of_lt_of_le hH.2.2.2 f8.size⟩ (fun hH' => ?_)
              clear hK K hH f8 P12 O12
              have hH := hH'
              clear hH'
              (try simp only [Act.put, List.setIfInBounds_toArray, List.set_cons_zero, List.set_cons_succ])
              (repeat (first | (refine plan_take (v := ?_) (by (simp only [List.getElem?_toArray, List.getElem?_cons_succ, List.getElem?_cons_zero]; exact rfl)) (by rfl) ?_ ?_; rotate_left; (focus (intro wS hS; (try dsimp only at hS); go_split_ands; go_simp; (try with_reducible rfl))); simp only [Act.put, List.setIfInBounds_toArray, List.set_cons_zero, List.set_cons_succ]) | (refine plan_skip (by (simp only [List.getElem?_toArray, List.getElem?_cons_succ, List.getElem?_cons_zero]; exact rfl)) (by rfl) ?_; simp only [Act.put, List.setIfInBounds_toArray, List.set_cons_zero, List.set_cons_succ])))
              refine plan_nil ?_
              clear hH
              obtain ⟨T1, hT1⟩ : ∃ S, F ++ Ix = S := ⟨_, rfl⟩
              have t1 : T1.length ≤ 10654688 := by rw [← hT1, List.length_append]; omega
              have e1 := str_add F Ix (by omega)
              rw [hT1] at e1
              obtain ⟨T2, hT2⟩ : ∃ S, T1 ++ S8 = S := ⟨_, rfl⟩
              have t2 : T2.length ≤ 10654720 := by rw [← hT2, List.length_append]; omega
              have e2 := str_add T1 S8 (by omega)
              rw [hT2] at e2
              obtain ⟨T3, hT3⟩ : ∃ S, Bo ++ T2 = S := ⟨_, rfl⟩
              have t3 : T3.length ≤ 4305622016 := by rw [← hT3, List.length_append]; omega
              have e3 := str_add Bo T2 (by omega)
              rw [hT3] at e3
              have hcl := crcN_lt T2
              have HR := Lib.hid (fun W => rcrc_list T2 W (by omega))
              obtain ⟨c, hc⟩ : ∃ c, crcN T2 = c := ⟨_, rfl⟩
              rw [hc] at HR hcl
              have u10 : IntKind.u64.wrap (c : Int) = (c : Int) := by rw [IntKind.wrap_u64]; omega
              have HC9 := Lib.hid (fun W => ref_number4 c W)
              obtain ⟨M9, hM9⟩ : ∃ M, be4 c = M := ⟨_, rfl⟩
              have m9 : M9.length = 4 := by rw [← hM9]; rfl
              rw [hM9] at HC9
              obtain ⟨T4, hT4⟩ : ∃ S, T3 ++ M9 = S := ⟨_, rfl⟩
              have t4 : T4.length ≤ 4305622020 := by rw [← hT4, List.length_append]; omega
              have e4 := str_add T3 M9 (by omega)
              rw [hT4] at e4
              obtain ⟨T5, hT5⟩ : ∃ S, T4 ++ [65, 84, 66, 76] = S := ⟨_, rfl⟩
              have t5 : T5.length ≤ 4305622024 := by rw [← hT5, List.length_append]; simp only [List.length_cons, List.length_nil]; omega
              have e5 := str_add T4 [65, 84, 66, 76] (by simp only [List.length_cons, List.length_nil]; omega)
              rw [hT5] at e5
              have hcv := conv_own O13.out
              have hwh : wholeN Bo F Ix l.length b r t = T5 := by
                unfold wholeN
                rw [← HFT.out, ← List.append_assoc F Ix S8, hT1, hT2, hc, hM9]
                show Bo ++ (F ++ (Ix ++ (S8 ++ (M9 ++ magicN)))) = T5
                rw [← hT5, ← hT4, ← hT3, ← hT2, ← hT1]
                simp only [List.append_assoc]
                rfl
              have htk := HTOK.out
              rw [hwh] at htk
              have HTK := Lib.hid htk
              have hT5s : (ByteArray.mk T5.toArray).size = T5.length := rfl
              clear htk hwh hT1 hT2 hT3 hT4 hT5 hM9 hc HTOK a2 a3 a4 a5 a6 a7 a8
              go_wp2_with fail
              refine (HR.out _).mono ?_
              rintro e w14 ⟨rfl, hu⟩
              obtain rfl := hu.symm
              go_wp2_with fail
              refine (HC9.out _).mono ?_
              rintro e w15 ⟨rfl, b15⟩
              have HP15 := Lib.hid (P13.out.trans (b15.mono P13.out.size))
              clear b15 hcv
              by_cases hbig : 1048576 < T5.length
              · have hbi : (1048576 : Int) < (T5.length : Int) := by omega
                have HT := Lib.hid (show tableN l (b : Int) (r : Int) (t : Int) = ([], 3) by rw [HTK.out, if_pos hbig])
                go_wp2_with fail
                go_ret2
                unfold RTPost
                rw [HT.out]
                exact ⟨_, rfl, Reads.of_own (World.ownsRow_nil _ 0 5 1), HB0.out.trans (HP15.out.mono HB0.out.size)⟩
              · have hbi : ¬ (1048576 : Int) < (T5.length : Int) := by omega
                have HT := Lib.hid (show tableN l (b : Int) (r : Int) (t : Int) = (T5, 0) by rw [HTK.out, if_neg hbig])
                have hcv2 : ∀ W, (convert 9 74 (.string ⟨T5.toArray⟩)).run Try.prog W = .ok (.slice (some ⟨W.heap.size, 0, none⟩) T5.length (grownCap W T5.length 0 5)) (Lib.bytesWorld W 5 ⟨T5.toArray⟩) := fun W => Lib.run_convert_string_bytes W 9 74 5 ⟨T5.toArray⟩ Try.underlying9 Try.underlying74 Try.underlying5
                have hR := bytes_reads T5 (by omega) (grownCap w15 T5.length 0 5) w15
                have HRD := Lib.hid hR
                have HBB := Lib.hid (bytes_below w15 ⟨T5.toArray⟩)
                clear hR
                go_wp2_with fail
                go_ret2
                unfold RTPost
                rw [HT.out]
                exact ⟨_, rfl, HRD.out, HB0.out.trans ((HP15.out.trans (HBB.out.mono HP15.out.size)).mono HB0.out.size)⟩
end Go.Proofs.Ytbcaiegglbdonaa

/-
  The reference's table Build: the cells that are refused.
-/
namespace Go.Proofs.Ytbcaiegglbdonaa
open Go Go.RowKit
set_option linter.unusedSimpArgs false

def RtI1 (w1 : World) (l : List Cell) (i : Value) (W : World) : Prop := ∃ k : Nat, k ≤ l.length ∧ i = .int .i64 k ∧ (∀ c ∈ l.take k, checkN c = 0) ∧ Below w1.heap.size w1 W
def RtI2 (w1 : World) (l : List Cell) (i : Value) (W : World) : Prop := ∃ k : Nat, k + 1 ≤ l.length ∧ i = .int .i64 ((k : Int) + 1) ∧ (∀ j x y, j < k → l[j]? = some x → l[j + 1]? = some y → PLt x.key x.seq y.key y.seq) ∧ Below w1.heap.size w1 W
set_option maxRecDepth 100000 in
set_option maxHeartbeats 4000000 in
theorem rtab_bad {w : World} {A : Option Addr} {cap : Nat} {l : List Cell} (h : Reads w (.slice A l.length cap) l.length 4 (cellVals l)) (b r t : Int) (hc : checkT l b r t ≠ 0) :
    Calls Try.prog 55 #[.slice A l.length cap, .agg #[.int .i64 b, .int .i64 r, .int .i64 t]] w (RTPost w (tableN l b r t)) := by
  have hTN : tableN l b r t = ([], checkT l b r t) := by unfold tableN; rw [if_pos hc]
  have HTN := Lib.hid hTN
  have hsh := fun W => ref_shape b r t W
  obtain ⟨S, hS⟩ : ∃ S, checkS b r t = S := ⟨_, rfl⟩
  rw [hS] at hsh
  have HSH := Lib.hid hsh
  have HS0 := Lib.hid hS
  have HC := Lib.hid hc
  obtain ⟨w1, hw1⟩ : ∃ w1, w.alloc (.cells #[.int .i64 b, .int .i64 r, .int .i64 t] 89) = w1 := ⟨_, rfl⟩
  have hB1 : Blk w1 w.heap.size #[.int .i64 b, .int .i64 r, .int .i64 t] 89 := by rw [← hw1]; exact Blk.new _ _ _
  have hb0 : Below w.heap.size w w1 := by rw [← hw1]; exact (Below.refl _ _).alloc (Nat.le_refl _) _
  have H := Lib.hid (h.kept hb0)
  have HB0 := Lib.hid hb0
  obtain ⟨y0, y1, y2, y3⟩ := cell3 hB1
  clear h hsh hTN hB1 hb0 hc hS
  by_cases h0 : ¬ S = 0
  · have HT := Lib.hid (show checkT l b r t = S by unfold checkT; rw [HS0.out, if_pos h0])
    have hq : (S == 0) = false := by simpa using h0
    go_enter Try.func55, Try.ntmps55
    go_upto_region 1 with fail
    clear hw1
    go_wp2_with fail
    refine (HSH.out _).mono ?_
    rintro e w2 ⟨rfl, b2⟩
    go_wp2_with fail
    go_ret2
    exact ⟨_, by rw [HTN.out, HT.out]; rfl, by rw [HTN.out]; exact Reads.of_own (World.ownsRow_nil _ 0 5 1), HB0.out.trans (b2.mono HB0.out.size)⟩
  have h0 : S = 0 := by omega
  subst h0
  by_cases h1 : 65536 < l.length
  · have HT := Lib.hid (show checkT l b r t = 3 by unfold checkT; rw [HS0.out, if_neg (by simp), if_pos h1])
    have hI : (65536 : Int) < (l.length : Int) := by omega
    go_enter Try.func55, Try.ntmps55
    go_upto_region 1 with fail
    clear hw1
    go_wp2_with fail
    refine (HSH.out _).mono ?_
    rintro e w2 ⟨rfl, b2⟩
    go_wp2_with fail
    go_ret2
    exact ⟨_, by rw [HTN.out, HT.out]; rfl, by rw [HTN.out]; exact Reads.of_own (World.ownsRow_nil _ 0 5 1), HB0.out.trans (b2.mono HB0.out.size)⟩
  have n1 : (l.length : Int) ≤ 65536 := by omega
  have hl1 : l.length ≤ 65536 := by omega
  by_cases h2 : l.length = 0
  · have HT := Lib.hid (show checkT l b r t = 1 by unfold checkT; rw [HS0.out, if_neg (by simp), if_neg h1, if_pos h2])
    have hz : (l.length : Int) = 0 := by omega
    have hq : ((l.length : Int) == 0) = true := by simpa using h2
    go_enter Try.func55, Try.ntmps55
    go_upto_region 1 with fail
    clear hw1
    go_wp2_with fail
    refine (HSH.out _).mono ?_
    rintro e w2 ⟨rfl, b2⟩
    go_wp2_with fail
    go_ret2
    exact ⟨_, by rw [HTN.out, HT.out]; rfl, by rw [HTN.out]; exact Reads.of_own (World.ownsRow_nil _ 0 5 1), HB0.out.trans (b2.mono HB0.out.size)⟩
  have n2 : ((l.length : Int) == 0) = false := by
    have : ¬ l = [] := by rintro rfl; exact h2 rfl
    simpa using this
  have n3 : ¬ ((l.length : Int) = 0) := by omega
  have HT := Lib.hid (show checkT l b r t = if checkL l = 81 then 91 else checkL l by unfold checkT; rw [HS0.out, if_neg (by simp), if_neg h1, if_neg h2])
  go_enter Try.func55, Try.ntmps55
  go_upto_region 1 with fail
  clear hw1
  go_wp2_with fail
  refine (HSH.out _).mono ?_
  rintro e w2 ⟨rfl, b2⟩
  go_wp2_with fail
  clear y0 y1 y2 y3
  go_loopw [7] (RtI1 w1 l) (fun i _ => l.length - (intOf i).toNat)
  case atStart => exact ⟨0, Nat.zero_le _, rfl, by simp, b2⟩
  case round =>
    obtain ⟨k, hk, rfl, hok, hb⟩ := hrel
    by_cases hlt : k < l.length
    · obtain ⟨x, hx⟩ : ∃ x, l[k]? = some x := ⟨_, List.getElem?_eq_getElem hlt⟩
      obtain ⟨g, o, rfl, hbl, c0, c1, c2, c3⟩ := (H.out.kept hb).cell_at hx
      have i0 : (0 : Int) ≤ (k : Int) := by omega
      have i1 : (k : Int) < (l.length : Int) := by omega
      have HX := Lib.hid hx
      have HO := Lib.hid hok
      clear hx hok
      rcases check_or x with hc | hc
      · have hck := ref_check x wr
        rw [hc] at hck
        have HK := Lib.hid hck
        have HC0 := Lib.hid hc
        clear hck hc
        go_wp2_with (go_at_call 80; refine HK.out.mono ?_; rintro e w3 ⟨rfl, b3⟩)
        go_roundw
        case rel =>
          refine ⟨k + 1, by omega, by go_num, ?_, hb.trans (b3.mono hb.size)⟩
          intro c hc
          rw [List.take_add_one, HX.out] at hc
          rcases List.mem_append.1 hc with hc | hc
          · exact HO.out c hc
          · obtain rfl : c = x := by simpa using hc
            exact HC0.out
        case measure => simp [intOf]; omega
      · have hck := ref_check x wr
        rw [hc] at hck
        have HK := Lib.hid hck
        have hL : checkL l = 60 := by unfold checkL; rw [if_pos ⟨x, List.mem_of_getElem? HX.out, hc⟩]
        have HC0 := Lib.hid (show checkT l b r t = 60 by rw [HT.out, hL]; rfl)
        clear hck hc hL
        go_wp2_with (go_at_call 80; refine HK.out.mono ?_; rintro e w3 ⟨rfl, b3⟩)
        go_ret2
        exact ⟨_, by rw [HTN.out, HC0.out]; rfl, by rw [HTN.out]; exact Reads.of_own (World.ownsRow_nil _ 0 5 1), HB0.out.trans ((hb.trans (b3.mono hb.size)).mono HB0.out.size)⟩
    · obtain rfl : k = l.length := by omega
      rw [List.take_length] at hok
      have HO := Lib.hid (show ¬ ∃ c ∈ l, checkN c = 60 by rintro ⟨c, hc, h⟩; have := hok c hc; omega)
      clear hok b2
      go_wp2_with fail
      go_loopw [8] (RtI2 w1 l) (fun i _ => l.length - (intOf i).toNat)
      case atStart => exact ⟨0, by omega, rfl, fun j _ _ hj => by omega, hb⟩
      case round =>
        obtain ⟨k, hk, rfl, hok, hb⟩ := hrel
        by_cases hlt : k + 1 < l.length
        · obtain ⟨x, hx⟩ : ∃ x, l[k]? = some x := ⟨_, List.getElem?_eq_getElem (by omega)⟩
          obtain ⟨y, hy⟩ : ∃ y, l[k + 1]? = some y := ⟨_, List.getElem?_eq_getElem hlt⟩
          obtain ⟨g, o, rfl, hbl, c0, c1, c2, c3⟩ := (H.out.kept hb).cell_at hx
          obtain ⟨b', o', e', _, d0, d1, d2, d3⟩ := (H.out.kept hb).cell_at hy
          cases e'
          have i0 : (0 : Int) ≤ (k : Int) := by omega
          have i1 : (k : Int) < (l.length : Int) := by omega
          have i2 : (0 : Int) ≤ (k : Int) + 1 := by omega
          have i3 : (k : Int) + 1 < (l.length : Int) := by omega
          have hw1 : IntKind.i64.wrap ((k : Int) + 1 - 1) = (k : Int) := by
            rw [show (k : Int) + 1 - 1 = (k : Int) by omega]; exact IntWalk.i64_in _ (by omega)
          have hw2 : IntKind.i64.wrap (k : Int) = (k : Int) := IntWalk.i64_in _ (by omega)
          have hw3 : IntKind.i64.wrap ((k : Int) + 1 + 1) = (k : Int) + 1 + 1 := IntWalk.i64_in _ (by omega)
          have ht1 : ((k : Int) + 1).toNat = k + 1 := by omega
          have HX := Lib.hid hx
          have HY := Lib.hid hy
          have HK := Lib.hid hok
          clear hx hy hok
          have hS : wr.drew.cell? ⟨g, o + k * 4, none⟩ = some (.string x.key) ∧ wr.drew.cell? ⟨g, o + k * 4 + 1, none⟩ = some (.int .u64 x.seq) ∧ wr.drew.cell? ⟨g, o + k * 4 + 2, none⟩ = some (.string x.val) ∧ wr.drew.cell? ⟨g, o + k * 4 + 3, none⟩ = some (.bool x.gone) ∧ wr.drew.cell? ⟨g, o + (k + 1) * 4, none⟩ = some (.string y.key) ∧ wr.drew.cell? ⟨g, o + (k + 1) * 4 + 1, none⟩ = some (.int .u64 y.seq) ∧ wr.drew.cell? ⟨g, o + (k + 1) * 4 + 2, none⟩ = some (.string y.val) ∧ wr.drew.cell? ⟨g, o + (k + 1) * 4 + 3, none⟩ = some (.bool y.gone) := ⟨c0, c1, c2, c3, d0, d1, d2, d3⟩
          by_cases hP : PLt x.key x.seq y.key y.seq
          · have HP := Lib.hid hP
            have hq : decide (PLt x.key x.seq y.key y.seq) = true := decide_eq_true hP
            clear hP
            go_wp2_with fail
            refine region_plan (S := fun w' => w'.cell? ⟨g, o + k * 4, none⟩ = some (.string x.key) ∧ w'.cell? ⟨g, o + k * 4 + 1, none⟩ = some (.int .u64 x.seq) ∧ w'.cell? ⟨g, o + k * 4 + 2, none⟩ = some (.string x.val) ∧ w'.cell? ⟨g, o + k * 4 + 3, none⟩ = some (.bool x.gone) ∧ w'.cell? ⟨g, o + (k + 1) * 4, none⟩ = some (.string y.key) ∧ w'.cell? ⟨g, o + (k + 1) * 4 + 1, none⟩ = some (.int .u64 y.seq) ∧ w'.cell? ⟨g, o + (k + 1) * 4 + 2, none⟩ = some (.string y.val) ∧ w'.cell? ⟨g, o + (k + 1) * 4 + 3, none⟩ = some (.bool y.gone))
              ((0, true) :: (1, true) :: (2, true) :: (3, true) :: (4, true) :: (5, true) :: (6, true) :: (7, true) :: (8, true) :: (9, false) :: (10, true) :: [])
              (by kernel_rfl) (by kernel_rfl) (by kernel_rfl) (by kernel_rfl) (fun _ _ _ dst _ h => by cases dst <;> exact h) hS (fun hH => ?_)
            (repeat (first | (refine plan_take (v := ?_) (by (simp only [List.getElem?_toArray, List.getElem?_cons_succ, List.getElem?_cons_zero]; exact rfl)) (by rfl) ?_ ?_; rotate_left; (focus (intro wS hS; (try dsimp only at hS); go_split_ands; go_simp; (try with_reducible rfl))); simp only [Act.put, List.setIfInBounds_toArray, List.set_cons_zero, List.set_cons_succ]) | (refine plan_skip (by (simp only [List.getElem?_toArray, List.getElem?_cons_succ, List.getElem?_cons_zero]; exact rfl)) (by rfl) ?_; simp only [Act.put, List.setIfInBounds_toArray, List.set_cons_zero, List.set_cons_succ])))
            (refine plan_solo (by (simp only [List.getElem?_toArray, List.getElem?_cons_succ, List.getElem?_cons_zero]; exact rfl)) (by rfl) ?_; intro K hK; go_simp)
            refine (ref_rises x y _).mono ?_
            rintro e w5 ⟨rfl, hb5⟩
            rw [hq]
            refine hK.out _ _ ⟨cell_keep hb5 c0, cell_keep hb5 c1, cell_keep hb5 c2, cell_keep hb5 c3, cell_keep hb5 d0, cell_keep hb5 d1, cell_keep hb5 d2, cell_keep hb5 d3⟩ (fun hH => ?_)
            clear hK K
            (try simp only [Act.put, List.setIfInBounds_toArray, List.set_cons_zero, List.set_cons_succ])
            (repeat (first | (refine plan_take (v := ?_) (by (simp only [List.getElem?_toArray, List.getElem?_cons_succ, List.getElem?_cons_zero]; exact rfl)) (by rfl) ?_ ?_; rotate_left; (focus (intro wS hS; (try dsimp only at hS); go_split_ands; go_simp; (try with_reducible rfl))); simp only [Act.put, List.setIfInBounds_toArray, List.set_cons_zero, List.set_cons_succ]) | (refine plan_skip (by (simp only [List.getElem?_toArray, List.getElem?_cons_succ, List.getElem?_cons_zero]; exact rfl)) (by rfl) ?_; simp only [Act.put, List.setIfInBounds_toArray, List.set_cons_zero, List.set_cons_succ])))
            refine plan_nil ?_
            go_wp2_with fail
            go_roundw
            case rel =>
              refine ⟨k + 1, by omega, by go_num, fun j u v hj hu hv => ?_, hb.trans ((Below.refl _ _).drew.trans (hb5.mono hb.size))⟩
              by_cases hjk : j < k
              · exact HK.out j u v hjk hu hv
              · obtain rfl : j = k := by omega
                rw [HX.out] at hu
                rw [HY.out] at hv
                cases hu
                cases hv
                exact HP.out
            case measure => simp [intOf]; omega
          · have hL : checkL l = 81 := by unfold checkL; rw [if_neg HO.out, if_neg (fun h => hP ((adjC_iff l).1 h k x y HX.out HY.out))]
            have HC0 := Lib.hid (show checkT l b r t = 91 by rw [HT.out, hL]; rfl)
            have hq : decide (PLt x.key x.seq y.key y.seq) = false := decide_eq_false hP
            clear hP hL
            go_wp2_with fail
            refine region_plan (S := fun w' => w'.cell? ⟨g, o + k * 4, none⟩ = some (.string x.key) ∧ w'.cell? ⟨g, o + k * 4 + 1, none⟩ = some (.int .u64 x.seq) ∧ w'.cell? ⟨g, o + k * 4 + 2, none⟩ = some (.string x.val) ∧ w'.cell? ⟨g, o + k * 4 + 3, none⟩ = some (.bool x.gone) ∧ w'.cell? ⟨g, o + (k + 1) * 4, none⟩ = some (.string y.key) ∧ w'.cell? ⟨g, o + (k + 1) * 4 + 1, none⟩ = some (.int .u64 y.seq) ∧ w'.cell? ⟨g, o + (k + 1) * 4 + 2, none⟩ = some (.string y.val) ∧ w'.cell? ⟨g, o + (k + 1) * 4 + 3, none⟩ = some (.bool y.gone))
              ((0, true) :: (1, true) :: (2, true) :: (3, true) :: (4, true) :: (5, true) :: (6, true) :: (7, true) :: (8, true) :: (9, false) :: (10, true) :: [])
              (by kernel_rfl) (by kernel_rfl) (by kernel_rfl) (by kernel_rfl) (fun _ _ _ dst _ h => by cases dst <;> exact h) hS (fun hH => ?_)
            (repeat (first | (refine plan_take (v := ?_) (by (simp only [List.getElem?_toArray, List.getElem?_cons_succ, List.getElem?_cons_zero]; exact rfl)) (by rfl) ?_ ?_; rotate_left; (focus (intro wS hS; (try dsimp only at hS); go_split_ands; go_simp; (try with_reducible rfl))); simp only [Act.put, List.setIfInBounds_toArray, List.set_cons_zero, List.set_cons_succ]) | (refine plan_skip (by (simp only [List.getElem?_toArray, List.getElem?_cons_succ, List.getElem?_cons_zero]; exact rfl)) (by rfl) ?_; simp only [Act.put, List.setIfInBounds_toArray, List.set_cons_zero, List.set_cons_succ])))
            (refine plan_solo (by (simp only [List.getElem?_toArray, List.getElem?_cons_succ, List.getElem?_cons_zero]; exact rfl)) (by rfl) ?_; intro K hK; go_simp)
            refine (ref_rises x y _).mono ?_
            rintro e w5 ⟨rfl, hb5⟩
            rw [hq]
            refine hK.out _ _ ⟨cell_keep hb5 c0, cell_keep hb5 c1, cell_keep hb5 c2, cell_keep hb5 c3, cell_keep hb5 d0, cell_keep hb5 d1, cell_keep hb5 d2, cell_keep hb5 d3⟩ (fun hH => ?_)
            clear hK K
            (try simp only [Act.put, List.setIfInBounds_toArray, List.set_cons_zero, List.set_cons_succ])
            (repeat (first | (refine plan_take (v := ?_) (by (simp only [List.getElem?_toArray, List.getElem?_cons_succ, List.getElem?_cons_zero]; exact rfl)) (by rfl) ?_ ?_; rotate_left; (focus (intro wS hS; (try dsimp only at hS); go_split_ands; go_simp; (try with_reducible rfl))); simp only [Act.put, List.setIfInBounds_toArray, List.set_cons_zero, List.set_cons_succ]) | (refine plan_skip (by (simp only [List.getElem?_toArray, List.getElem?_cons_succ, List.getElem?_cons_zero]; exact rfl)) (by rfl) ?_; simp only [Act.put, List.setIfInBounds_toArray, List.set_cons_zero, List.set_cons_succ])))
            refine plan_nil ?_
            go_wp2_with fail
            go_ret2
            exact ⟨_, by rw [HTN.out, HC0.out]; rfl, by rw [HTN.out]; exact Reads.of_own (World.ownsRow_nil _ 0 5 1), HB0.out.trans ((hb.trans ((Below.refl _ _).drew.trans (hb5.mono hb.size))).mono HB0.out.size)⟩
        · exfalso
          refine HC.out ?_
          rw [HT.out]
          have : checkL l = 0 := by
            unfold checkL
            rw [if_neg HO.out, if_pos]
            refine (adjC_iff l).2 fun i x y hx hy => ?_
            have := (List.getElem?_eq_some_iff.1 hy).1
            exact hok i x y (by omega) hx hy
          rw [this]
          rfl
theorem rtab_spec {w : World} {A : Option Addr} {cap : Nat} {l : List Cell} (h : Reads w (.slice A l.length cap) l.length 4 (cellVals l)) (hcap : l.length ≤ cap) (hs : ∀ c ∈ l, 0 ≤ c.seq) (b r t : Int) :
    Calls Try.prog 55 #[.slice A l.length cap, .agg #[.int .i64 b, .int .i64 r, .int .i64 t]] w (RTPost w (tableN l b r t)) := by
  by_cases hc : checkT l b r t = 0
  · obtain ⟨s1, _⟩ := checkT_ok hc
    obtain ⟨b', rfl⟩ : ∃ b' : Nat, b = b' := ⟨b.toNat, by omega⟩
    obtain ⟨r', rfl⟩ : ∃ r' : Nat, r = r' := ⟨r.toNat, by omega⟩
    obtain ⟨t', rfl⟩ : ∃ t' : Nat, t = t' := ⟨t.toNat, by omega⟩
    exact rtab_main h hcap hs b' r' t' hc
  · exact rtab_bad h b r t hc
end Go.Proofs.Ytbcaiegglbdonaa

/-
  The walk of the law BlockBuilds.
-/
namespace Go.Proofs.Ytbcaiegglbdonaa
open Go Go.RowKit

theorem src_reads {w : World} {A : Option Addr} {n c k : Nat} {xs : List Value} (h : Reads w (.slice A n c) n k xs) (hn : A = none → n = 0 ∧ c = 0) :
    (Value.slice A n c = .slice none 0 0 ∧ n = 0) ∨ ∃ ad c', Value.slice A n c = .slice (some ad) n c' ∧ ∀ (j : Nat) (u : Value), xs[j]? = some u → w.cell? (ad.add j) = some u := by
  cases A with
  | none => obtain ⟨rfl, rfl⟩ := hn rfl; exact .inl ⟨rfl, rfl⟩
  | some a =>
    refine .inr ⟨a, c, rfl, fun j u hj => ?_⟩
    obtain ⟨h1, _, A', c', e, h3⟩ := h
    injection e with e1 e2 e3
    subst e1
    rcases h3 with h0 | ⟨b, o, e4, _, h5⟩
    · subst h0
      have := (List.getElem?_eq_some_iff.1 hj).1
      omega
    · injection e4 with e4
      subst e4
      rw [add_at rfl]
      exact h5 j u hj
theorem reads_alloc {w : World} {v : Value} {n k : Nat} {xs : List Value} (h : Reads w v n k xs) (o : Obj) : Reads (w.alloc o) v n k xs := h.kept ((Below.refl _ _).alloc (Nat.le_refl _) _)
set_option maxRecDepth 100000 in
set_option maxHeartbeats 2000000 in
theorem builds_walk {w : World} {A : Option Addr} {cap : Nat} {l : List Cell} (h : Reads w (.slice A l.length cap) l.length 4 (cellVals l)) (hn : A = none → l.length = 0 ∧ cap = 0) (hl : l.length ≤ 2932031007402) (hs : ∀ c ∈ l, 0 ≤ c.seq) (r : Int) :
    Calls Try.prog 9 #[.slice A l.length cap, .int .i64 r] w fun e w' => e = .returned (.bool true) ∧ Below w.heap.size w w' := by
  obtain ⟨i0, hi, hz0, hz1, hz2⟩ := info_parts Try.infoCell
  have H := Lib.hid h
  have HN := Lib.hid hn
  have hlc := Lib.hid (cellVals_length l)
  have p1 : 0 + l.length ≤ maxLen := by unfold maxLen; omega
  have p2 : (0 + l.length) * 48 ≤ 140737488355328 := by omega
  have hB := fun (W : World) (v : Value) (hv : Reads W v l.length 4 (cellVals l)) => build_spec hv hl hs r
  have hR := fun (W : World) (v : Value) (hv : Reads W v l.length 4 (cellVals l)) => ref_build_spec hv hl hs r
  obtain ⟨X, hX⟩ : ∃ X, (buildN l r).1 = X := ⟨_, rfl⟩
  obtain ⟨E, hE⟩ : ∃ E, (buildN l r).2 = E := ⟨_, rfl⟩
  rw [hX, hE] at hB hR
  have HB := Lib.hid hB
  have HR := Lib.hid hR
  have HC := Lib.hid (fun (W : World) (v : Value) (hv : Reads W v l.length 4 (cellVals l)) => block_check hv hl)
  have HD := Lib.hid (fun (W : World) (v : Value) (hv : Reads W v l.length 4 (cellVals l)) => ref_check_list hv hl)
  have HS := Lib.hid (fun (W : World) (v v' : Value) (hv : Reads W v l.length 4 (cellVals l)) (hv' : Reads W v' l.length 4 (cellVals l)) => by have := same8_spec hv hv'; rw [decide_eq_true rfl] at this; exact this)
  clear h hn hB hR hX hE hs
  go_enter Try.func9, Try.ntmps9
  go_wp2_with (first
    | (go_at_call 36; refine (awake8 w).mono ?_; rintro e w1 ⟨rfl, b1⟩
       have oA := World.ownsRow_made (base := w1.heap.size) (e := 25) (size := 4) w1 #[] 0 (Nat.le_refl _) (by decide) rfl
       have hsrc := src_reads (reads_alloc (H.out.kept b1) (.cells #[] 25)) HN.out
       have p3 : w1.heap.size ≤ (w1.alloc (.cells #[] 25)).heap.size := by simp)
    | (at_builtin; refine wpList_append_any rfl _ _ 22 rfl w1.heap.size 25 i0 cellZ 4 48 Try.underlying22 hi hz0 hz1 hz2 rfl (by decide) w1.heap.size 0 0 [] rfl oA l.length (cellVals l) hlc.out hsrc (cellVals_one l) p1 p2 p3 ?_))
  intro g1 c1 w2 own1 hgr hg1
  have own1 : w2.ownsRow w1.heap.size 25 4 (.slice (some ⟨g1, 0, none⟩) l.length c1) l.length (cellVals l) := by simpa using own1
  have b2 : Below w1.heap.size w1 w2 := ((Below.refl _ _).alloc (Nat.le_refl _) _).grown hgr p3 (fun j hj => by cases hj; exact Nat.le_refl _)
  have HO := Lib.hid (Reads.of_own own1)
  have HA := Lib.hid (H.out.kept (b1.trans (b2.mono b1.size)))
  have b12 := b1.trans (b2.mono b1.size)
  clear own1 hgr hg1 oA hsrc
  go_wp2_with fail
  refine (HB.out _ _ HO.out).mono ?_
  rintro e w3 ⟨rfl, b3⟩
  have b13 := b12.trans (b3.mono b12.size)
  go_wp2_with fail
  refine (HR.out _ _ (HA.out.kept b3)).mono ?_
  rintro e w4 ⟨rfl, b4⟩
  have b14 := b13.trans (b4.mono b13.size)
  have h34 := b3.trans (b4.mono b3.size)
  go_wp2_with fail
  refine (HC.out _ _ (HO.out.kept h34)).mono ?_
  rintro e w5 ⟨rfl, b5⟩
  have b15 := b14.trans (b5.mono b14.size)
  have h35 := h34.trans (b5.mono h34.size)
  go_wp2_with fail
  refine (HD.out _ _ (HA.out.kept h35)).mono ?_
  rintro e w6 ⟨rfl, b6⟩
  have b16 := b15.trans (b6.mono b15.size)
  have h36 := h35.trans (b6.mono h35.size)
  go_wp2_with fail
  refine (HS.out _ _ _ (HO.out.kept h36) (HA.out.kept h36)).mono ?_
  rintro e w7 ⟨rfl, b7⟩
  have b17 := b16.trans (b7.mono b16.size)
  go_wp2_with fail
  go_ret
  exact ⟨rfl, b17⟩
end Go.Proofs.Ytbcaiegglbdonaa

/-
  Arguments of a law opened: a slice of cells that may be nil, an int.
-/
namespace Go.Proofs.Ytbcaiegglbdonaa
open Go.ChangeShapes Go.WideShapes Go.ChangeAt Go.RowKit Go.Deep Go.Joins

set_option maxRecDepth 100000 in
/-- A nil slice of cells has nothing in it. -/
theorem open_nil {H : Type} {enc : TypeId × Value → H} {W : World} {v : Value} {d : DataW H} {p : List MemPlace} {r : Reach} {b0 : Nat} (hv : Value.okWide Try.prog W r b0 22 v) (h : DataW.Trod enc Try.prog W 0 (fun _ => true) true 22 v d p) :
    ∃ A n c, v = .slice A n c ∧ (A = none → n = 0 ∧ c = 0) := by
  obtain ⟨a0, len, cap, rfl⟩ := okWide_slice Try.underlying22 hv
  obtain ⟨fuel, hf⟩ := h
  rcases open_slice_fields Try.underlying22 Try.underlying25 (by kernel_rfl) Try.cells25 hf with ⟨hcs, hx⟩ | ⟨a, len', cap', m, D, Pl, hcs, _, hl, hm, hmm, hx, hcell⟩
  · simp [Value.cells] at hcs
    obtain ⟨rfl, rfl, rfl⟩ := hcs
    exact ⟨none, 0, 0, rfl, fun _ => ⟨rfl, rfl⟩⟩
  · simp [Value.cells] at hcs
    obtain ⟨rfl, rfl, rfl⟩ := hcs
    exact ⟨some a, _, _, rfl, fun h => by cases h⟩
theorem reads_nil {w : World} {v : Value} {cs : List Cell} (h : Reads w v cs.length 4 (cellVals cs)) (hn : ∃ A n c, v = .slice A n c ∧ (A = none → n = 0 ∧ c = 0)) : ∃ A cap, v = .slice A cs.length cap ∧ (A = none → cs.length = 0 ∧ cap = 0) := by
  obtain ⟨A, cap, rfl⟩ := h.form
  obtain ⟨A', n, c, e, h2⟩ := hn
  injection e with e1 e2 e3
  subst e1 e2 e3
  exact ⟨A, cap, rfl, h2⟩
set_option maxRecDepth 100000 in
theorem open_i64 {H : Type} {enc : TypeId × Value → H} {W : World} {v : Value} {d : DataW H} {p : List MemPlace} {r : Reach} {b0 : Nat} (hv : Value.okWide Try.prog W r b0 3 v) (h : DataW.Trod enc Try.prog W 0 (fun _ => true) true 3 v d p) :
    ∃ n, v = .int .i64 n ∧ -9223372036854775808 ≤ n ∧ n ≤ 9223372036854775807 := by
  obtain ⟨n, rfl⟩ := okWide_int Try.underlying3 hv
  obtain ⟨fuel, hf⟩ := h
  obtain ⟨k, e0, _, w0⟩ := DataW.trod_int Try.underlying3 hf
  simp [Value.cells] at e0
  subst e0
  have hw : -9223372036854775808 ≤ n ∧ n ≤ 9223372036854775807 := by simpa [Lit.wf, IntKind.min, IntKind.max, IntKind.signed, IntKind.bits] using w0
  exact ⟨n, rfl, hw.1, hw.2⟩
end Go.Proofs.Ytbcaiegglbdonaa

/-
  Arguments of a law opened: a shape, a byte, a slice of cells and its room.
-/
namespace Go.Proofs.Ytbcaiegglbdonaa
open Go.ChangeShapes Go.WideShapes Go.ChangeAt Go.RowKit Go.Deep Go.Joins

set_option maxRecDepth 100000 in
/-- A slice of cells has room for what is in it. -/
theorem open_room {H : Type} {enc : TypeId × Value → H} {W : World} {v : Value} {d : DataW H} {p : List MemPlace} {r : Reach} {b0 : Nat} (hv : Value.okWide Try.prog W r b0 22 v) (h : DataW.Trod enc Try.prog W 0 (fun _ => true) true 22 v d p) :
    ∃ A n c, v = .slice A n c ∧ n ≤ c := by
  obtain ⟨a0, len, cap, rfl⟩ := okWide_slice Try.underlying22 hv
  obtain ⟨fuel, hf⟩ := h
  rcases open_slice_fields Try.underlying22 Try.underlying25 (by kernel_rfl) Try.cells25 hf with ⟨hcs, hx⟩ | ⟨a, len', cap', m, D, Pl, hcs, _, hl, hm, hmm, hx, hcell⟩
  · simp [Value.cells] at hcs
    obtain ⟨rfl, rfl, rfl⟩ := hcs
    exact ⟨none, 0, 0, rfl, Nat.le_refl _⟩
  · simp [Value.cells] at hcs
    obtain ⟨rfl, rfl, rfl⟩ := hcs
    exact ⟨some a, _, _, rfl, hl⟩
theorem reads_room {w : World} {v : Value} {cs : List Cell} (h : Reads w v cs.length 4 (cellVals cs)) (hn : ∃ A n c, v = .slice A n c ∧ n ≤ c) : ∃ A cap, v = .slice A cs.length cap ∧ cs.length ≤ cap := by
  obtain ⟨A, cap, rfl⟩ := h.form
  obtain ⟨A', n, c, e, h2⟩ := hn
  injection e with e1 e2 e3
  subst e1 e2 e3
  exact ⟨A, cap, rfl, h2⟩
set_option maxRecDepth 100000 in
theorem open_shape {H : Type} {enc : TypeId × Value → H} {W : World} {v : Value} {d : DataW H} {p : List MemPlace} {r : Reach} {b0 : Nat} (hv : Value.okWide Try.prog W r b0 89 v) (h : DataW.Trod enc Try.prog W 0 (fun _ => true) true 89 v d p) :
    ∃ b r t : Int, v = .agg #[.int .i64 b, .int .i64 r, .int .i64 t] := by
  obtain ⟨v0, v1, v2, y0, y1, y2, n, rfl, rfl, _, h0, h1, h2⟩ := open_agg3 Try.underlying89 (by kernel_rfl) (by kernel_rfl) hv h
  obtain ⟨b, e1, _, _⟩ := DataW.trod_int Try.underlying3 h0
  obtain ⟨r, e2, _, _⟩ := DataW.trod_int Try.underlying3 h1
  obtain ⟨t, e3, _, _⟩ := DataW.trod_int Try.underlying3 h2
  simp at e1 e2 e3
  subst e1 e2 e3
  exact ⟨b, r, t, rfl⟩
set_option maxRecDepth 100000 in
theorem open_byte {H : Type} {enc : TypeId × Value → H} {W : World} {v : Value} {d : DataW H} {p : List MemPlace} {r : Reach} {b0 : Nat} (hv : Value.okWide Try.prog W r b0 5 v) (h : DataW.Trod enc Try.prog W 0 (fun _ => true) true 5 v d p) :
    ∃ n : Nat, v = .int .u8 (n : Nat) ∧ n < 256 := by
  obtain ⟨n, rfl⟩ := okWide_int Try.underlying5 hv
  obtain ⟨fuel, hf⟩ := h
  obtain ⟨k, e0, _, w0⟩ := DataW.trod_int Try.underlying5 hf
  simp [Value.cells] at e0
  subst e0
  have hw : 0 ≤ n ∧ n ≤ 255 := by simpa [Lit.wf, IntKind.min, IntKind.max, IntKind.signed, IntKind.bits] using w0
  exact ⟨n.toNat, by rw [Int.toNat_of_nonneg hw.1], by omega⟩
end Go.Proofs.Ytbcaiegglbdonaa

/-
  The walk of the law TableBuilds.
-/
namespace Go.Proofs.Ytbcaiegglbdonaa
open Go Go.RowKit
set_option linter.unusedSimpArgs false

set_option maxRecDepth 100000 in
set_option maxHeartbeats 4000000 in
theorem tbuilds_walk {w : World} {A : Option Addr} {cap : Nat} {l : List Cell} (h : Reads w (.slice A l.length cap) l.length 4 (cellVals l)) (hcap : l.length ≤ cap) (hn : A = none → l.length = 0 ∧ cap = 0) (hl : l.length ≤ 2932031007402) (hs : ∀ c ∈ l, 0 ≤ c.seq) (b r t : Int) :
    Calls Try.prog 16 #[.slice A l.length cap, .agg #[.int .i64 b, .int .i64 r, .int .i64 t]] w fun e w' => e = .returned (.bool true) ∧ Below w.heap.size w w' := by
  obtain ⟨i0, hi, hz0, hz1, hz2⟩ := info_parts Try.infoCell
  have hlc := Lib.hid (cellVals_length l)
  have p1 : 0 + l.length ≤ maxLen := by unfold maxLen; omega
  have p2 : (0 + l.length) * 48 ≤ 140737488355328 := by omega
  obtain ⟨w1, hw1⟩ : ∃ w1, w.alloc (.cells #[.int .i64 b, .int .i64 r, .int .i64 t] 89) = w1 := ⟨_, rfl⟩
  have hB1 : Blk w1 w.heap.size #[.int .i64 b, .int .i64 r, .int .i64 t] 89 := by rw [← hw1]; exact Blk.new _ _ _
  have hb0 : Below w.heap.size w w1 := by rw [← hw1]; exact (Below.refl _ _).alloc (Nat.le_refl _) _
  have hsz1 : w.heap.size < w1.heap.size := hB1.lt
  have H := Lib.hid (h.kept hb0)
  have HN := Lib.hid hn
  have HS := Lib.hid hs
  have HB1 := Lib.hid hB1
  have HB0 := Lib.hid hb0
  have HTB := Lib.hid (fun (W : World) (v : Value) (hv : Reads W v l.length 4 (cellVals l)) (hc : ∃ A n c, v = .slice A n c ∧ n ≤ c) => show Calls Try.prog 54 #[v, .agg #[.int .i64 b, .int .i64 r, .int .i64 t]] W (TBuildPost W (tableN l b r t)) by
    obtain ⟨A', c', rfl, hcc⟩ := reads_room hv hc
    exact tbuild_spec hv hcc hl hs b r t)
  have HRB := Lib.hid (fun (W : World) (hv : Reads W (.slice A l.length cap) l.length 4 (cellVals l)) => rtab_spec hv hcap hs b r t)
  have HSA := Lib.hid (fun (W : World) (v v' : Value) (hv : Reads W v l.length 4 (cellVals l)) (hv' : Reads W v' l.length 4 (cellVals l)) => by have := samecells_spec hv hv'; rw [decide_eq_true rfl] at this; exact this)
  have HT1 := Lib.hid (fun W => table_shape b r t W)
  have HT2 := Lib.hid (fun W => ref_shape b r t W)
  obtain ⟨S, hS⟩ : ∃ S, checkS b r t = S := ⟨_, rfl⟩
  rw [hS] at HT1 HT2
  obtain ⟨D, hD⟩ : ∃ D, tableN l b r t = D := ⟨_, rfl⟩
  rw [hD] at HTB HRB
  obtain ⟨X, E⟩ := D
  have HSB := Lib.hid (fun (W : World) (v v' : Value) (hv : Reads W v X.length 1 (bv X)) (hv' : Reads W v' X.length 1 (bv X)) => by have := samebytes_spec hv hv'; rw [decide_eq_true rfl] at this; exact this)
  obtain ⟨y0, y1, y2, y3⟩ := cell3 hB1
  have oA := World.ownsRow_made (base := w1.heap.size) (e := 25) (size := 4) w1 #[] 0 (Nat.le_refl _) (by decide) rfl
  have hsrc := src_reads (reads_alloc H.out (.cells #[] 25)) HN.out
  have p3 : w1.heap.size ≤ (w1.alloc (.cells #[] 25)).heap.size := by simp
  clear h hn hs hB1 hb0 hS hD
  go_enter Try.func16, Try.ntmps16
  go_upto_region 1 with fail
  clear hw1
  go_wp2_with (at_builtin; refine wpList_append_any rfl _ _ 22 rfl w1.heap.size 25 i0 cellZ 4 48 Try.underlying22 hi hz0 hz1 hz2 rfl (by decide) w1.heap.size 0 0 [] rfl oA l.length (cellVals l) hlc.out hsrc (cellVals_one l) p1 p2 p3 ?_)
  intro g1 c1 w2 own1 hgr hg1
  have own1 : w2.ownsRow w1.heap.size 25 4 (.slice (some ⟨g1, 0, none⟩) l.length c1) l.length (cellVals l) := by simpa using own1
  have b2 : Below w1.heap.size w1 w2 := ((Below.refl _ _).alloc (Nat.le_refl _) _).grown hgr p3 (fun j hj => by cases hj; exact Nat.le_refl _)
  have HO := Lib.hid (Reads.of_own own1)
  have hc1 := own_cap own1
  have HA := Lib.hid (H.out.kept b2)
  obtain ⟨z0, z1, z2, z3⟩ := cell3 (HB1.out.below b2 HB1.out.lt)
  clear own1 hgr hg1 oA hsrc y0 y1 y2 y3
  go_wp2_with fail
  refine (HTB.out _ _ HO.out ⟨_, _, _, rfl, hc1⟩).mono ?_
  rintro e w3 ⟨v3, rfl, own3, b3⟩
  have c0 := cell_keep b3 z0
  have c1' := cell_keep b3 z1
  have c2 := cell_keep b3 z2
  have c3 := Nat.lt_of_lt_of_le z3 b3.size
  have HX3 := Lib.hid (Reads.of_own own3)
  have B3 := Lib.hid (b2.trans (b3.mono b2.size))
  have B23 := Lib.hid b3
  clear z0 z1 z2 z3 own3 b3
  go_wp2_with fail
  refine (HRB.out _ (HA.out.kept B23.out)).mono ?_
  rintro e w4 ⟨v4, rfl, hv4, b4⟩
  have d0 := cell_keep b4 c0
  have d1 := cell_keep b4 c1'
  have d2 := cell_keep b4 c2
  have d3 := Nat.lt_of_lt_of_le c3 b4.size
  have B4 := Lib.hid (B3.out.trans (b4.mono B3.out.size))
  have HX4 := Lib.hid hv4
  have HX3 := Lib.hid (HX3.out.kept b4)
  have HO4 := Lib.hid (HO.out.kept (B23.out.trans (b4.mono B23.out.size)))
  have HA4 := Lib.hid (HA.out.kept (B23.out.trans (b4.mono B23.out.size)))
  clear c0 c1' c2 c3 b4 hv4 B3 B23
  have hPlan : w4.drew.cell? ⟨w.heap.size, 0, none⟩ = some (.int .i64 b) ∧ w4.drew.cell? ⟨w.heap.size, 1, none⟩ = some (.int .i64 r) ∧ w4.drew.cell? ⟨w.heap.size, 2, none⟩ = some (.int .i64 t) ∧ w.heap.size < w4.drew.heap.size := ⟨d0, d1, d2, d3⟩
  have dw := (Below.refl w4.heap.size w4).drew
  have B5 := Lib.hid (B4.out.trans (dw.mono B4.out.size))
  have HX3 := Lib.hid (HX3.out.kept dw)
  have HX4 := Lib.hid (HX4.out.kept dw)
  have HO4 := Lib.hid (HO4.out.kept dw)
  have HA4 := Lib.hid (HA4.out.kept dw)
  clear dw d0 d1 d2 d3 B4
  go_wp2_with fail
  refine region_plan (S := fun w' => w'.cell? ⟨w.heap.size, 0, none⟩ = some (.int .i64 b) ∧ w'.cell? ⟨w.heap.size, 1, none⟩ = some (.int .i64 r) ∧ w'.cell? ⟨w.heap.size, 2, none⟩ = some (.int .i64 t) ∧ w.heap.size < w'.heap.size)
    ((0, false) :: (1, true) :: (2, true) :: (3, true) :: (4, false) :: (5, true) :: (6, true) :: (7, true) :: (8, true) :: (9, true) :: (10, true) :: (11, true) :: (12, true) :: (14, true) :: (13, false) :: (15, false) :: (16, true) :: (17, true) :: (18, true) :: (19, true) :: (20, true) :: (21, false) :: (22, true) :: (23, true) :: [])
    (by kernel_rfl) (by kernel_rfl) (by kernel_rfl) (by kernel_rfl) (fun _ _ _ dst _ h => by cases dst <;> exact h) hPlan (fun hH => ?_)
  clear hPlan
  (refine plan_solo (by (simp only [List.getElem?_toArray, List.getElem?_cons_succ, List.getElem?_cons_zero]; exact rfl)) (by rfl) ?_; intro K hK; go_simp)
  refine (tlives _).mono ?_
  rintro e w6 ⟨rfl, f5⟩
  have B6 := Lib.hid (B5.out.trans (f5.mono B5.out.size))
  have HX3 := Lib.hid (HX3.out.kept f5)
  have HX4 := Lib.hid (HX4.out.kept f5)
  have HO4 := Lib.hid (HO4.out.kept f5)
  have HA4 := Lib.hid (HA4.out.kept f5)
  refine hK.out _ _ ⟨cell_keep f5 hH.1, cell_keep f5 hH.2.1, cell_keep f5 hH.2.2.1, Nat.lt_of_lt_of_le hH.2.2.2 f5.size⟩ (fun hH' => ?_)
  clear hK K hH f5 B5
  have hH := hH'
  clear hH'
  (try simp only [Act.put, List.setIfInBounds_toArray, List.set_cons_zero, List.set_cons_succ])
  (repeat (first | (refine plan_take (v := ?_) (by (simp only [List.getElem?_toArray, List.getElem?_cons_succ, List.getElem?_cons_zero]; exact rfl)) (by rfl) ?_ ?_; rotate_left; (focus (intro wS hS; (try dsimp only at hS); go_split_ands; go_simp; (try with_reducible rfl))); simp only [Act.put, List.setIfInBounds_toArray, List.set_cons_zero, List.set_cons_succ]) | (refine plan_skip (by (simp only [List.getElem?_toArray, List.getElem?_cons_succ, List.getElem?_cons_zero]; exact rfl)) (by rfl) ?_; simp only [Act.put, List.setIfInBounds_toArray, List.set_cons_zero, List.set_cons_succ])))
  (refine plan_solo (by (simp only [List.getElem?_toArray, List.getElem?_cons_succ, List.getElem?_cons_zero]; exact rfl)) (by rfl) ?_; intro K hK; go_simp)
  refine (HSB.out _ _ _ HX3.out HX4.out).mono ?_
  rintro e w7 ⟨rfl, f6⟩
  have B7 := Lib.hid (B6.out.trans (f6.mono B6.out.size))
  have HX3 := Lib.hid (HX3.out.kept f6)
  have HX4 := Lib.hid (HX4.out.kept f6)
  have HO4 := Lib.hid (HO4.out.kept f6)
  have HA4 := Lib.hid (HA4.out.kept f6)
  refine hK.out _ _ ⟨cell_keep f6 hH.1, cell_keep f6 hH.2.1, cell_keep f6 hH.2.2.1, Nat.lt_of_lt_of_le hH.2.2.2 f6.size⟩ (fun hH' => ?_)
  clear hK K hH f6 B6
  have hH := hH'
  clear hH'
  (try simp only [Act.put, List.setIfInBounds_toArray, List.set_cons_zero, List.set_cons_succ])
  (repeat (first | (refine plan_take (v := ?_) (by (simp only [List.getElem?_toArray, List.getElem?_cons_succ, List.getElem?_cons_zero]; exact rfl)) (by rfl) ?_ ?_; rotate_left; (focus (intro wS hS; (try dsimp only at hS); go_split_ands; go_simp; (try with_reducible rfl))); simp only [Act.put, List.setIfInBounds_toArray, List.set_cons_zero, List.set_cons_succ]) | (refine plan_skip (by (simp only [List.getElem?_toArray, List.getElem?_cons_succ, List.getElem?_cons_zero]; exact rfl)) (by rfl) ?_; simp only [Act.put, List.setIfInBounds_toArray, List.set_cons_zero, List.set_cons_succ])))
  (refine plan_solo (by (simp only [List.getElem?_toArray, List.getElem?_cons_succ, List.getElem?_cons_zero]; exact rfl)) (by rfl) ?_; intro K hK; go_simp)
  refine (HT1.out _).mono ?_
  rintro e w8 ⟨rfl, f7⟩
  have B8 := Lib.hid (B7.out.trans (f7.mono B7.out.size))
  have HX3 := Lib.hid (HX3.out.kept f7)
  have HX4 := Lib.hid (HX4.out.kept f7)
  have HO4 := Lib.hid (HO4.out.kept f7)
  have HA4 := Lib.hid (HA4.out.kept f7)
  refine hK.out _ _ ⟨cell_keep f7 hH.1, cell_keep f7 hH.2.1, cell_keep f7 hH.2.2.1, Nat.lt_of_lt_of_le hH.2.2.2 f7.size⟩ (fun hH' => ?_)
  clear hK K hH f7 B7
  have hH := hH'
  clear hH'
  (try simp only [Act.put, List.setIfInBounds_toArray, List.set_cons_zero, List.set_cons_succ])
  (repeat (first | (refine plan_take (v := ?_) (by (simp only [List.getElem?_toArray, List.getElem?_cons_succ, List.getElem?_cons_zero]; exact rfl)) (by rfl) ?_ ?_; rotate_left; (focus (intro wS hS; (try dsimp only at hS); go_split_ands; go_simp; (try with_reducible rfl))); simp only [Act.put, List.setIfInBounds_toArray, List.set_cons_zero, List.set_cons_succ]) | (refine plan_skip (by (simp only [List.getElem?_toArray, List.getElem?_cons_succ, List.getElem?_cons_zero]; exact rfl)) (by rfl) ?_; simp only [Act.put, List.setIfInBounds_toArray, List.set_cons_zero, List.set_cons_succ])))
  (refine plan_solo (by (simp only [List.getElem?_toArray, List.getElem?_cons_succ, List.getElem?_cons_zero]; exact rfl)) (by rfl) ?_; intro K hK; go_simp)
  refine (HT2.out _).mono ?_
  rintro e w9 ⟨rfl, f8⟩
  have B9 := Lib.hid (B8.out.trans (f8.mono B8.out.size))
  have HX3 := Lib.hid (HX3.out.kept f8)
  have HX4 := Lib.hid (HX4.out.kept f8)
  have HO4 := Lib.hid (HO4.out.kept f8)
  have HA4 := Lib.hid (HA4.out.kept f8)
  refine hK.out _ _ ⟨cell_keep f8 hH.1, cell_keep f8 hH.2.1, cell_keep f8 hH.2.2.1, Nat.lt_of_lt_of_le hH.2.2.2 f8.size⟩ (fun hH' => ?_)
  clear hK K hH f8 B8
  have hH := hH'
  clear hH'
  (try simp only [Act.put, List.setIfInBounds_toArray, List.set_cons_zero, List.set_cons_succ])
  (repeat (first | (refine plan_take (v := ?_) (by (simp only [List.getElem?_toArray, List.getElem?_cons_succ, List.getElem?_cons_zero]; exact rfl)) (by rfl) ?_ ?_; rotate_left; (focus (intro wS hS; (try dsimp only at hS); go_split_ands; go_simp; (try with_reducible rfl))); simp only [Act.put, List.setIfInBounds_toArray, List.set_cons_zero, List.set_cons_succ]) | (refine plan_skip (by (simp only [List.getElem?_toArray, List.getElem?_cons_succ, List.getElem?_cons_zero]; exact rfl)) (by rfl) ?_; simp only [Act.put, List.setIfInBounds_toArray, List.set_cons_zero, List.set_cons_succ])))
  (refine plan_solo (by (simp only [List.getElem?_toArray, List.getElem?_cons_succ, List.getElem?_cons_zero]; exact rfl)) (by rfl) ?_; intro K hK; go_simp)
  refine (HSA.out _ _ _ HO4.out HA4.out).mono ?_
  rintro e w10 ⟨rfl, f9⟩
  have B10 := Lib.hid (B9.out.trans (f9.mono B9.out.size))
  have HX3 := Lib.hid (HX3.out.kept f9)
  have HX4 := Lib.hid (HX4.out.kept f9)
  have HO4 := Lib.hid (HO4.out.kept f9)
  have HA4 := Lib.hid (HA4.out.kept f9)
  refine hK.out _ _ ⟨cell_keep f9 hH.1, cell_keep f9 hH.2.1, cell_keep f9 hH.2.2.1, Nat.lt_of_lt_of_le hH.2.2.2 f9.size⟩ (fun hH' => ?_)
  clear hK K hH f9 B9
  have hH := hH'
  clear hH'
  (try simp only [Act.put, List.setIfInBounds_toArray, List.set_cons_zero, List.set_cons_succ])
  (repeat (first | (refine plan_take (v := ?_) (by (simp only [List.getElem?_toArray, List.getElem?_cons_succ, List.getElem?_cons_zero]; exact rfl)) (by rfl) ?_ ?_; rotate_left; (focus (intro wS hS; (try dsimp only at hS); go_split_ands; go_simp; (try with_reducible rfl))); simp only [Act.put, List.setIfInBounds_toArray, List.set_cons_zero, List.set_cons_succ]) | (refine plan_skip (by (simp only [List.getElem?_toArray, List.getElem?_cons_succ, List.getElem?_cons_zero]; exact rfl)) (by rfl) ?_; simp only [Act.put, List.setIfInBounds_toArray, List.set_cons_zero, List.set_cons_succ])))
  refine plan_nil ?_
  go_wp2_with fail
  go_ret
  exact ⟨rfl, HB0.out.trans (B10.out.mono HB0.out.size)⟩
end Go.Proofs.Ytbcaiegglbdonaa

/-
  The law TableBuilds is proved: called with any arguments, it returns true and leaves its arguments as they were. Conditions: none of its own.
-/
namespace Go.Proofs.Ytbcaiegglbdonaa
open Go.ChangeShapes Go.WideShapes Go.ChangeAt Go.RowKit Go.Deep Go.Joins

set_option maxRecDepth 100000 in
theorem tableBuilds_lifted (os : Os) (started : os.Started) (H : Type) (enc : TypeId × Value → H) :
    ReturnsInHanded {} Try.checked os 16 .any (Rows.tableBuildsSpec.pre6 enc Try.prog Try.f16 Rows.tableBuildsRow.domain false) (Rows.tableBuildsSpec.post enc Try.prog Try.f16 false true false false) := by
  refine returnsInHanded_of_change_sized (C := Try.checked) Try.own started (by kernel_rfl) Try.func16
    (ChangeSpec.witness6 (enc := enc) (C := Try.checked) false ⟨#[], #[.slice none 0 0, .agg #[.int .i64 0, .int .i64 0, .int .i64 0]], []⟩ 8 (by kernel_rfl) (by kernel_rfl) (by kernel_rfl) (by kernel_rfl)) ?_
  intro W base args ds gs before hval0 hW _ hsz _
  have hval : ∀ (j : Nat) t v, Try.f16.params[j]? = some t → args[j]? = some v → Value.okWide Try.prog W .any base t v := hval0
  have hW' : DataW.Whole enc Try.prog Try.f16.params.toList Rows.tableBuildsSpec.vars false W args.toList ds gs before := hW
  obtain ⟨p, q, hA0, hV, rfl, hfz, hnd⟩ := hW
  have hA : DataW.TrodAll enc Try.prog W 0 (fun _ => true) true Try.f16.params.toList args.toList ds p := hA0
  rw [Try.params16] at hA hval hsz
  obtain ⟨v0, v1, d0, d1, p0, p1, rfl, rfl, rfl, h0, h1⟩ := trodAll_two hA
  obtain ⟨rfl, rfl⟩ := trodVars_none hV
  obtain ⟨cs, hcs, hwf, hd0⟩ := open_cells (hval 0 22 v0 rfl rfl) h0
  obtain ⟨A, cap, rfl, hcap⟩ := reads_room hcs (open_room (hval 0 22 v0 rfl rfl) h0)
  obtain ⟨A', cap', eq', hnil⟩ := reads_nil hcs (open_nil (hval 0 22 _ rfl rfl) h0)
  cases eq'
  obtain ⟨b, r, t, rfl⟩ := open_shape (hval 1 89 v1 rfl rfl) h1
  have hl0 := cells_len hsz (j := 0) rfl rfl hd0
  refine (tbuilds_walk hcs hcap hnil hl0 (fun c hc => (hwf c hc).1) b r t).mono fun e W' ⟨he, hb⟩ => ?_
  subst he
  exact ⟨_, rfl, law_post rfl hW' rfl rfl rfl rfl (by rw [Try.params16]; intro t ht; simp at ht; rcases ht with rfl | rfl <;> exact ⟨by kernel_rfl, of_decide_eq_true (by kernel_rfl)⟩) hb⟩

theorem tableBuilds_holds : Rows.TableBuildsSaid :=
  OpenClaim.holds_of_wide 16 Try.f16 rfl rfl rfl rfl rfl rfl rfl ⟨rfl, rfl, rfl, rfl, rfl⟩ rfl rfl rfl rfl rfl (by kernel_rfl) Try.func16 (by kernel_rfl)
    (of_decide_eq_true (by kernel_rfl)) (by unfold Func.isWrapper; rw [if_neg (of_decide_eq_false (by kernel_rfl))]; exact ⟨rfl, rfl⟩)
    (fun os started H enc _ => tableBuilds_lifted os started H enc)

end Go.Proofs.Ytbcaiegglbdonaa
