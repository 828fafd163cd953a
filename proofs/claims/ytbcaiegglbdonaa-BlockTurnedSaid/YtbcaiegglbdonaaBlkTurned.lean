/-
  The walk of the law BlockTurned.
-/
import Derived.Test.YtbcaiegglbdonaaAwake8
import Derived.Test.YtbcaiegglbdonaaSeek8
import Derived.Test.YtbcaiegglbdonaaBlkLeaf
import Derived.Laws.BitsAllLaws
namespace Go.Proofs.Ytbcaiegglbdonaa
open Go Go.RowKit
set_option linter.unusedSimpArgs false

/-- A block of bytes, of which the first are known. -/
def BytesIn (W : World) (b : Nat) (own : List UInt8) : Prop :=
  ∃ (cs : Array Value) (m : Nat), W.heap[b]? = some (.cells cs 5 (m, m + 1)) ∧ own.length ≤ m ∧ own.length ≤ cs.size ∧ ∀ (j : Nat) (u : UInt8), own[j]? = some u → cs[j]? = some (Value.int .u8 (u.toNat : Int))
theorem BytesIn.lt {W : World} {b : Nat} {own : List UInt8} (h : BytesIn W b own) : b < W.heap.size := by
  obtain ⟨cs, m, h1, _⟩ := h
  exact (Array.getElem?_eq_some_iff.1 h1).1
theorem BytesIn.cell {W : World} {b : Nat} {own : List UInt8} (h : BytesIn W b own) {j : Nat} {u : UInt8} (hj : own[j]? = some u) : W.cell? ⟨b, j, none⟩ = some (Value.int .u8 (u.toNat : Int)) := by
  obtain ⟨cs, m, h1, _, _, h4⟩ := h
  simp [World.cell?, h1, h4 j u hj]
theorem BytesIn.frozen {W : World} {b : Nat} {own : List UInt8} (h : BytesIn W b own) {j : Nat} (hj : j < own.length) : W.frozen? ⟨b, j, none⟩ = false := by
  obtain ⟨cs, m, h1, h2, _, _⟩ := h
  simp [World.frozen?, h1]
  omega
theorem BytesIn.new (w : World) (s : ByteArray) : BytesIn (Lib.bytesWorld w 5 s) w.heap.size s.data.toList := by
  refine ⟨_, _, Lib.bytesWorld_at_new w 5 s, ?_, ?_, fun j u hj => ?_⟩
  · simp [Lib.bytesCells]
  · simp [Lib.bytesCells]
  · have := (List.getElem?_eq_some_iff.1 hj).1
    obtain ⟨hj1, hj2⟩ := List.getElem?_eq_some_iff.1 hj
    rw [Lib.bytesCells, Array.getElem?_append_left (by simpa using hj1)]
    simp only [Array.getElem?_map]
    rw [← Array.getElem?_toList, hj]
    rfl
theorem BytesIn.set {W : World} {b : Nat} {own : List UInt8} (h : BytesIn W b own) (j : Nat) (u : UInt8) : BytesIn (W.setCell ⟨b, j, none⟩ (.int .u8 (u.toNat : Int))) b (own.set j u) := by
  obtain ⟨cs, m, h1, h2, h3, h4⟩ := h
  refine ⟨cs.setIfInBounds j (.int .u8 (u.toNat : Int)), m, by simp [World.setCell, Array.getElem?_modify, h1], by simpa using h2, by simpa using h3, fun i v hi => ?_⟩
  rw [List.getElem?_set] at hi
  rw [Array.getElem?_setIfInBounds]
  by_cases hij : j = i
  · subst hij
    rw [if_pos rfl] at hi ⊢
    split at hi
    · cases hi
      rw [if_pos (by omega)]
    · cases hi
  · rw [if_neg hij] at hi ⊢
    exact h4 i v hi
theorem BytesIn.drew {W : World} {b : Nat} {own : List UInt8} (h : BytesIn W b own) : BytesIn W.drew b own := h
theorem flip_set {l : List UInt8} {k j : Nat} {u : UInt8} (hk : k / 8 = j) (hu : l[j]? = some u) : flipB l k = l.set j (u ^^^ UInt8.ofNat (2 ^ (k % 8))) := by
  unfold flipB
  rw [hk]
  apply List.ext_getElem?
  intro i
  rw [List.getElem?_modify, List.getElem?_set]
  by_cases hij : j = i
  · subst hij
    have := (List.getElem?_eq_some_iff.1 hu).1
    rw [if_pos rfl, if_pos this, hu]
    simp
  · simp [hij]
theorem xor_u8 (u : UInt8) {r : Nat} (hr : r < 8) : bits .xor .u8 (u.toNat : Int) (2 ^ r % 256) = ((u ^^^ UInt8.ofNat (2 ^ r)).toNat : Int) := by
  have hp : 2 ^ r < 2 ^ 8 := Nat.pow_lt_pow_right (by decide) hr
  have h2 : (UInt8.ofNat (2 ^ r)).toNat = 2 ^ r := by rw [UInt8.toNat_ofNat']; exact Nat.mod_eq_of_lt hp
  have hw : ((2 : Int) ^ r % 256) = ((2 ^ r : Nat) : Int) := by
    have e : ((2 : Int) ^ r) = ((2 ^ r : Nat) : Int) := by norm_cast
    rw [e]
    exact Int.emod_eq_of_lt (Int.natCast_nonneg _) (Int.ofNat_lt.2 hp)
  rw [hw, u8_xor_nat _ _ (u.toNat_lt) (by omega), UInt8.toNat_xor, h2]
theorem conv_in {W : World} {b n cap : Nat} {own : List UInt8} (h : BytesIn W b own) (hn : own.length = n) : (convert 74 9 (.slice (some ⟨b, 0, none⟩) n cap)).run Try.prog W = .ok (.string ⟨own.toArray⟩) W := by
  have := run_convert_bytes_arg (P := Try.prog) W 74 5 Try.underlying74 Try.underlying5 b 0 n cap (own.map fun b => (b.toNat : Int)) (by simpa using hn) (fun i hi => by
    have h1 := h.cell (j := i) (u := own[i]'(by omega)) (List.getElem?_eq_getElem (by omega))
    simpa [List.getD, hn, hi] using h1) 9 Try.underlying9
  have hs : strOfNums (own.map fun b => (b.toNat : Int)) = ⟨own.toArray⟩ := by
    unfold strOfNums
    rw [List.map_map]
    have h1 : ((fun n : Int => UInt8.ofNat n.toNat) ∘ fun b : UInt8 => (b.toNat : Int)) = id := by funext b; simp
    rw [h1, List.map_id]
  rw [this, hs]
def TuRel (wo : World) (X : List UInt8) (tu P Z : Nat) (ch i : Value) (W : World) : Prop :=
  ∃ n : Nat, i = .int .i64 n ∧ ch = .bool (turned tu P Z n) ∧ n ≤ 32 ∧ BytesIn W wo.heap.size (turnB X tu P Z n) ∧ Below wo.heap.size wo W
set_option maxRecDepth 100000 in
set_option maxHeartbeats 4000000 in
theorem turned_walk {w : World} {v : Value} {l : List Cell} (h : Reads w v l.length 4 (cellVals l)) (hl : l.length ≤ 2932031007402) (hs : ∀ c ∈ l, 0 ≤ c.seq) (r : Int) (pl : Int) (tu : Nat) (ht : tu < 4294967296) :
    Calls Try.prog 11 #[.agg #[v, .int .i64 r, .int .i64 pl, .int .u32 tu]] w fun e w' => e = .returned (.bool true) ∧ Below w.heap.size w w' := by
  obtain ⟨A, cap, rfl⟩ := h.form
  have H := Lib.hid h
  have hB := fun (W : World) (v : Value) (hv : Reads W v l.length 4 (cellVals l)) => build_spec hv hl hs r
  obtain ⟨X, hX⟩ : ∃ X, (buildN l r).1 = X := ⟨_, rfl⟩
  obtain ⟨E, hE⟩ : ∃ E, (buildN l r).2 = E := ⟨_, rfl⟩
  rw [hX, hE] at hB
  have HB := Lib.hid hB
  have hb : buildN l r = (X, E) := by rw [← hX, ← hE]
  have HSQ := Lib.hid hs
  clear h hB hX hE hs
  have hbox : Below w.heap.size w (w.alloc (.cells #[.slice A l.length cap, .int .i64 r, .int .i64 pl, .int .u32 tu] 73)) := (Below.refl _ _).alloc (Nat.le_refl _) _
  have hawk := fun W => awake8 W
  by_cases hE0 : ¬ E = 0
  · have hn := build_none hb hE0
    have hEq : (E == 0) = false := by simpa using hE0
    subst hn
    clear hb
    go_enter Try.func11, Try.ntmps11
    go_wp2_with fail
    go_quiet (fail)
    go_wp2_with (first | (go_at_call 36; refine (awake8 _).mono ?_; rintro e w1 ⟨rfl, b1⟩; have c1 := (below_drewN hbox nq).trans (b1.mono (by exact (below_drewN hbox nq).size))) | (go_at_call 37; refine (HB.out _ _ (H.out.kept c1)).mono ?_; rintro e w2 ⟨rfl, b2⟩; have c2 := c1.trans (b2.mono c1.size)))
    go_ret
    exact ⟨rfl, c2⟩
  · have hE0 : E = 0 := by omega
    subst hE0
    obtain ⟨hop, hadj, hck, hxz, hx10⟩ := build_open HSQ.out hb
    obtain ⟨S, hS⟩ : ∃ S : ByteArray, ⟨X.toArray⟩ = S := ⟨_, rfl⟩
    have hSX : S.data.toList = X := by rw [← hS]
    have hSz : S.size = X.length := by rw [← hS]; rfl
    rw [hS] at HB
    obtain ⟨Z, hZ⟩ : ∃ Z, 8 * (X.length - 4) = Z := ⟨_, rfl⟩
    have hzI : (8 : Int) * ((S.size : Int) - 4) = (Z : Int) := by omega
    have h10 : (10 : Int) ≤ (S.size : Int) := by omega
    have hs64 : (S.size : Int) ≤ 65536 := by omega
    have hz0 : ((Z : Int) == 0) = false := by simp; omega
    have hz1 : (Z : Int) ≤ 524288 := by omega
    have hz2 : (48 : Int) ≤ (Z : Int) := by omega
    have hcv : ∀ W, (convert 9 74 (.string S)).run Try.prog W = .ok (.slice (some ⟨W.heap.size, 0, none⟩) S.size (grownCap W S.size 0 5)) (Lib.bytesWorld W 5 S) := fun W => Lib.run_convert_string_bytes W 9 74 5 S Try.underlying9 Try.underlying74 Try.underlying5
    have HX := Lib.hid hS
    have HZ := Lib.hid hZ
    have HSX := Lib.hid hSX
    have HSZ := Lib.hid hSz
    have HBB := Lib.hid hb
    clear hS hZ hop hadj hck hxz hx10 hSX hSz hb
    obtain ⟨M, hM⟩ : ∃ M, pl.tmod (Z : Int) = M := ⟨_, rfl⟩
    have hM1 : -(Z : Int) < M ∧ M < (Z : Int) := by rw [← hM]; exact ⟨by have := Int.lt_tmod_of_pos pl (b := (Z : Int)) (by omega); omega, Int.tmod_lt_of_pos pl (by omega)⟩
    have hP : ∃ P : Nat, P < Z ∧ (if M < 0 then M + (Z : Int) = (P : Int) else M = (P : Int)) := by
      by_cases h : M < 0
      · exact ⟨(M + Z).toNat, by omega, by rw [if_pos h]; omega⟩
      · exact ⟨M.toNat, by omega, by rw [if_neg h]; omega⟩
    obtain ⟨P, hPZ, hPM⟩ := hP
    by_cases hneg : M < 0
    · rw [if_pos hneg] at hPM
      go_enter Try.func11, Try.ntmps11
      go_wp2_with fail
      go_quiet (fail)
      go_wp2_with (first | (go_at_call 36; refine (awake8 _).mono ?_; rintro e w1 ⟨rfl, b1⟩; have c1 := (below_drewN hbox nq).trans (b1.mono (by exact (below_drewN hbox nq).size))) | (go_at_call 37; refine (HB.out _ _ (H.out.kept c1)).mono ?_; rintro e w2 ⟨rfl, b2⟩; have c2 := c1.trans (b2.mono c1.size)))
      go_loopw [12, 13] (TuRel w2 X tu P Z) (fun _ i _ => 32 - (intOf i).toNat)
      case atStart => exact ⟨0, rfl, by rw [turned_zero], by omega, by have := BytesIn.new w2 S; rw [HSX.out] at this; exact this, bytes_below w2 S⟩
      case round =>
        obtain ⟨i, rfl, rfl, hi, hI, hbl⟩ := hrel
        by_cases hlt : i < 32
        · obtain ⟨K, hK⟩ : ∃ K, P + i = K := ⟨_, rfl⟩
          have hKI : (P : Int) + (i : Int) = (K : Int) := by omega
          have j0 : (i : Int) < 32 := by omega
          have HK := Lib.hid hK
          clear hK
          obtain ⟨D, hD⟩ : ∃ D, tu / 2 ^ i % 2 = D := ⟨_, rfl⟩
          have hbit : ((tu : Int) / 2 ^ i).tmod 2 = (D : Int) := by
            have e1 : ((tu : Int) / 2 ^ i) = ((tu / 2 ^ i : Nat) : Int) := by norm_cast
            rw [e1, Int.tmod_eq_emod_of_nonneg (Int.natCast_nonneg _), ← hD]
            norm_cast
          have hD2 : D = 0 ∨ D = 1 := by omega
          have HD := Lib.hid hD
          clear hD
          rcases hD2 with rfl | rfl
          · go_wp2_with fail
            go_roundw
            case rel => exact ⟨i + 1, by go_num, by rw [turned_succ, HD.out]; simp, by omega, by rw [turnB, if_neg (by rw [HD.out]; omega)]; exact hI, hbl⟩
            case measure => simp [intOf]; omega
          · by_cases hKZ : K < Z
            · obtain ⟨J, hJ⟩ : ∃ J, K / 8 = J := ⟨_, rfl⟩
              obtain ⟨R, hR⟩ : ∃ R, K % 8 = R := ⟨_, rfl⟩
              have hlen : (turnB X tu P Z i).length = X.length := turnB_len _ _ _ _ _
              have hZl := HZ.out
              obtain ⟨u, hu⟩ : ∃ u, (turnB X tu P Z i)[J]? = some u := ⟨_, List.getElem?_eq_getElem (by rw [hlen]; omega)⟩
              have z0 := hI.cell hu
              have f0 := hI.frozen (j := J) (by rw [hlen]; omega)
              have f1 := hI.lt
              have hJ1 : (K : Int) / 8 = (J : Int) := by omega
              have hR1 : (K : Int) % 8 = (R : Int) := by omega
              have hJ2 : (J : Int) < (S.size : Int) := by have := HSZ.out; omega
              have hR2 : R < 8 := by omega
              have hRt : (K : Int).tmod 8 = (R : Int) := by rw [Int.tmod_eq_emod_of_nonneg (Int.natCast_nonneg _)]; exact hR1
              have hwJ : IntKind.i64.wrap (J : Int) = (J : Int) := IntWalk.i64_in _ (by omega)
              have hwR : IntKind.i64.wrap (R : Int) = (R : Int) := IntWalk.i64_in _ (by omega)
              have HU := Lib.hid hu
              have HJ := Lib.hid (And.intro hJ hR)
              clear hu hlen hZl hJ hR
              go_wp2_with fail
              refine region_tail 9 (by kernel_rfl) (by kernel_rfl) ?_
              simp only [List.take_succ_cons, List.take_zero, List.drop_succ_cons, List.drop_zero]
              repeat still_step
              refine wpStill_nil ?_
              go_wp2_with fail
              go_roundw
              case rel =>
                refine ⟨i + 1, by go_num, by rw [turned_succ, HD.out]; simp; omega, by omega, ?_, ?_⟩
                · rw [turnB, if_pos (by rw [HD.out]; have := HK.out; omega), HK.out, flip_set HJ.out.1 HU.out, HJ.out.2, xor_u8 u hR2]
                  exact (BytesIn.set hI J _).drew
                · exact (hbl.setCell (Nat.le_refl _) _).drew
              case measure => simp [intOf]; omega
            · go_wp2_with fail
              go_roundw
              case rel => exact ⟨i + 1, by go_num, by rw [turned_succ, HD.out]; simp; omega, by omega, by rw [turnB, if_neg (by omega)]; exact hI, hbl⟩
              case measure => simp [intOf]; omega
        · obtain rfl : i = 32 := by omega
          have hlen : (turnB X tu P Z 32).length = S.size := by rw [turnB_len, HSZ.out]
          have hconv := conv_in (cap := grownCap w2 S.size 0 5) hI hlen
          have hopen := fun W => open_spec ⟨(turnB X tu P Z 32).toArray⟩ (by show (turnB X tu P Z 32).length ≤ _; omega) W
          have hturn := openN_turnB (fit_of (buildN_ok HBB.out).2.2.1 HSQ.out) tu P HBB.out (by have := HSZ.out; omega) ht (by rw [HZ.out]; exact hPZ)
          rw [HZ.out] at hturn
          obtain ⟨T, hT⟩ : ∃ T : ByteArray, ⟨(turnB X tu P Z 32).toArray⟩ = T := ⟨_, rfl⟩
          rw [hT] at hconv hopen hturn
          have cb := c2.trans (hbl.mono c2.size)
          clear hT hlen hI
          cases hop : openN T with
          | none =>
            rw [hop] at hopen hturn
            have HO := Lib.hid hopen
            have hch : turned tu P Z 32 = true := hturn.symm
            clear hopen hturn hop
            go_wp2_with (go_at_call 42; refine (HO.out _).mono ?_; rintro e w5 ⟨b5, rfl⟩)
            go_ret
            exact ⟨rfl, cb.trans (b5.mono cb.size)⟩
          | some q =>
            obtain ⟨l', r'⟩ := q
            rw [hop] at hopen hturn
            have HO := Lib.hid hopen
            have hch : turned tu P Z 32 = false := hturn.symm
            clear hopen hturn hop
            go_wp2_with (go_at_call 42; refine (HO.out _).mono ?_; rintro e w5 ⟨b5, p5, rfl, -, -⟩)
            go_ret
            exact ⟨rfl, cb.trans (b5.mono cb.size)⟩
    · rw [if_neg hneg] at hPM
      subst hPM
      go_enter Try.func11, Try.ntmps11
      go_wp2_with fail
      go_quiet (fail)
      go_wp2_with (first | (go_at_call 36; refine (awake8 _).mono ?_; rintro e w1 ⟨rfl, b1⟩; have c1 := (below_drewN hbox nq).trans (b1.mono (by exact (below_drewN hbox nq).size))) | (go_at_call 37; refine (HB.out _ _ (H.out.kept c1)).mono ?_; rintro e w2 ⟨rfl, b2⟩; have c2 := c1.trans (b2.mono c1.size)))
      go_loopw [12, 13] (TuRel w2 X tu P Z) (fun _ i _ => 32 - (intOf i).toNat)
      case atStart => exact ⟨0, rfl, by rw [turned_zero], by omega, by have := BytesIn.new w2 S; rw [HSX.out] at this; exact this, bytes_below w2 S⟩
      case round =>
        obtain ⟨i, rfl, rfl, hi, hI, hbl⟩ := hrel
        by_cases hlt : i < 32
        · obtain ⟨K, hK⟩ : ∃ K, P + i = K := ⟨_, rfl⟩
          have hKI : (P : Int) + (i : Int) = (K : Int) := by omega
          have j0 : (i : Int) < 32 := by omega
          have HK := Lib.hid hK
          clear hK
          obtain ⟨D, hD⟩ : ∃ D, tu / 2 ^ i % 2 = D := ⟨_, rfl⟩
          have hbit : ((tu : Int) / 2 ^ i).tmod 2 = (D : Int) := by
            have e1 : ((tu : Int) / 2 ^ i) = ((tu / 2 ^ i : Nat) : Int) := by norm_cast
            rw [e1, Int.tmod_eq_emod_of_nonneg (Int.natCast_nonneg _), ← hD]
            norm_cast
          have hD2 : D = 0 ∨ D = 1 := by omega
          have HD := Lib.hid hD
          clear hD
          rcases hD2 with rfl | rfl
          · go_wp2_with fail
            go_roundw
            case rel => exact ⟨i + 1, by go_num, by rw [turned_succ, HD.out]; simp, by omega, by rw [turnB, if_neg (by rw [HD.out]; omega)]; exact hI, hbl⟩
            case measure => simp [intOf]; omega
          · by_cases hKZ : K < Z
            · obtain ⟨J, hJ⟩ : ∃ J, K / 8 = J := ⟨_, rfl⟩
              obtain ⟨R, hR⟩ : ∃ R, K % 8 = R := ⟨_, rfl⟩
              have hlen : (turnB X tu P Z i).length = X.length := turnB_len _ _ _ _ _
              have hZl := HZ.out
              obtain ⟨u, hu⟩ : ∃ u, (turnB X tu P Z i)[J]? = some u := ⟨_, List.getElem?_eq_getElem (by rw [hlen]; omega)⟩
              have z0 := hI.cell hu
              have f0 := hI.frozen (j := J) (by rw [hlen]; omega)
              have f1 := hI.lt
              have hJ1 : (K : Int) / 8 = (J : Int) := by omega
              have hR1 : (K : Int) % 8 = (R : Int) := by omega
              have hJ2 : (J : Int) < (S.size : Int) := by have := HSZ.out; omega
              have hR2 : R < 8 := by omega
              have hRt : (K : Int).tmod 8 = (R : Int) := by rw [Int.tmod_eq_emod_of_nonneg (Int.natCast_nonneg _)]; exact hR1
              have hwJ : IntKind.i64.wrap (J : Int) = (J : Int) := IntWalk.i64_in _ (by omega)
              have hwR : IntKind.i64.wrap (R : Int) = (R : Int) := IntWalk.i64_in _ (by omega)
              have HU := Lib.hid hu
              have HJ := Lib.hid (And.intro hJ hR)
              clear hu hlen hZl hJ hR
              go_wp2_with fail
              refine region_tail 9 (by kernel_rfl) (by kernel_rfl) ?_
              simp only [List.take_succ_cons, List.take_zero, List.drop_succ_cons, List.drop_zero]
              repeat still_step
              refine wpStill_nil ?_
              go_wp2_with fail
              go_roundw
              case rel =>
                refine ⟨i + 1, by go_num, by rw [turned_succ, HD.out]; simp; omega, by omega, ?_, ?_⟩
                · rw [turnB, if_pos (by rw [HD.out]; have := HK.out; omega), HK.out, flip_set HJ.out.1 HU.out, HJ.out.2, xor_u8 u hR2]
                  exact (BytesIn.set hI J _).drew
                · exact (hbl.setCell (Nat.le_refl _) _).drew
              case measure => simp [intOf]; omega
            · go_wp2_with fail
              go_roundw
              case rel => exact ⟨i + 1, by go_num, by rw [turned_succ, HD.out]; simp; omega, by omega, by rw [turnB, if_neg (by omega)]; exact hI, hbl⟩
              case measure => simp [intOf]; omega
        · obtain rfl : i = 32 := by omega
          have hlen : (turnB X tu P Z 32).length = S.size := by rw [turnB_len, HSZ.out]
          have hconv := conv_in (cap := grownCap w2 S.size 0 5) hI hlen
          have hopen := fun W => open_spec ⟨(turnB X tu P Z 32).toArray⟩ (by show (turnB X tu P Z 32).length ≤ _; omega) W
          have hturn := openN_turnB (fit_of (buildN_ok HBB.out).2.2.1 HSQ.out) tu P HBB.out (by have := HSZ.out; omega) ht (by rw [HZ.out]; exact hPZ)
          rw [HZ.out] at hturn
          obtain ⟨T, hT⟩ : ∃ T : ByteArray, ⟨(turnB X tu P Z 32).toArray⟩ = T := ⟨_, rfl⟩
          rw [hT] at hconv hopen hturn
          have cb := c2.trans (hbl.mono c2.size)
          clear hT hlen hI
          cases hop : openN T with
          | none =>
            rw [hop] at hopen hturn
            have HO := Lib.hid hopen
            have hch : turned tu P Z 32 = true := hturn.symm
            clear hopen hturn hop
            go_wp2_with (go_at_call 42; refine (HO.out _).mono ?_; rintro e w5 ⟨b5, rfl⟩)
            go_ret
            exact ⟨rfl, cb.trans (b5.mono cb.size)⟩
          | some q =>
            obtain ⟨l', r'⟩ := q
            rw [hop] at hopen hturn
            have HO := Lib.hid hopen
            have hch : turned tu P Z 32 = false := hturn.symm
            clear hopen hturn hop
            go_wp2_with (go_at_call 42; refine (HO.out _).mono ?_; rintro e w5 ⟨b5, p5, rfl, -, -⟩)
            go_ret
            exact ⟨rfl, cb.trans (b5.mono cb.size)⟩
end Go.Proofs.Ytbcaiegglbdonaa
