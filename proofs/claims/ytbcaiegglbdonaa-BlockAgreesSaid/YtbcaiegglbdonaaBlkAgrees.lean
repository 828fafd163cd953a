/-
  The walk of the law BlockAgrees.
-/
import Derived.Test.YtbcaiegglbdonaaAwake8
import Derived.Test.YtbcaiegglbdonaaAgrees8
import Derived.Test.YtbcaiegglbdonaaMemCells
namespace Go.Proofs.Ytbcaiegglbdonaa
open Go Go.RowKit
set_option linter.unusedSimpArgs false

def AgRel1 (w : World) (a : Nat) (l : List Cell) (i : Value) (wr : World) : Prop := ∃ k : Nat, k ≤ l.length ∧ i = .int .i64 k ∧ Own w a (agrM l k) (fun _ => False) wr
def AgRel2 (w wo : World) (a : Nat) (M : MM) (l : List Cell) (i : Value) (wr : World) : Prop := ∃ k : Nat, k ≤ l.length ∧ i = .int .i64 k ∧ Own w a M (fun _ => False) wr ∧ Below wo.heap.size wo wr
/-- The beginning of a slice of cells. -/
theorem reads_take {w : World} {A : Option Addr} {n cap m : Nat} {l : List Cell} (h : Reads w (.slice A n cap) n 4 (cellVals l)) (hn : l.length = n) (hm : m ≤ n) : Reads w (.slice A (l.take m).length cap) (l.take m).length 4 (cellVals (l.take m)) := by
  have hl : (l.take m).length = m := by rw [List.length_take]; omega
  obtain ⟨h1, h2, A', cap', e, h3⟩ := h
  injection e with e1 e2 e3
  subst e1 e3
  refine ⟨cellVals_length _, by omega, A, cap, rfl, ?_⟩
  rcases h3 with h3 | ⟨b, o, rfl, h4, h5⟩
  · exact .inl (by omega)
  · refine .inr ⟨b, o, rfl, h4, fun j u hj => h5 j u ?_⟩
    have e : cellVals l = cellVals (l.take m) ++ cellVals (l.drop m) := by rw [← cellVals_append, List.take_append_drop]
    rw [e, List.getElem?_append_left (List.getElem?_eq_some_iff.1 hj).1]
    exact hj
set_option maxRecDepth 100000 in
set_option maxHeartbeats 4000000 in
theorem agrees_few {w : World} {A : Option Addr} {cap : Nat} {v2 : Value} {l l2 : List Cell} (h1 : Reads w (.slice A l.length cap) l.length 4 (cellVals l)) (h2 : Reads w v2 l2.length 4 (cellVals l2)) (hs : ∀ c ∈ l, 0 ≤ c.seq) (hl : l.length ≤ 40) (hl2 : l2.length ≤ 2932031007402) :
    Calls Try.prog 15 #[.slice A l.length cap, v2] w fun e w' => e = .returned (.bool true) ∧ Below w.heap.size w w' := by
  obtain ⟨A2, cap2, rfl⟩ := h2.form
  have HL := Lib.hid h1
  have H2 := Lib.hid h2
  have HSQ := Lib.hid hs
  have hI : (l.length : Int) ≤ 40 := by omega
  have NLEN := Lib.hid (rfl : l.length = l.length)
  clear h1 h2 hs
  go_enter Try.func15, Try.ntmps15
  go_wp2_with fail
  refine (new_spec _).mono ?_
  rintro e w1 hn
  obtain ⟨rfl, ho⟩ := Own.new (w0 := w) (Below.refl _ _) hn
  clear hn
  obtain ⟨a, ha⟩ : ∃ a, a = w.heap.size + 1 := ⟨_, rfl⟩
  rw [← ha] at ho ⊢
  clear ha
  go_wp2_with (go_at_call 36; refine (awake8 _).mono ?_; rintro e w2 ⟨rfl, b2⟩; have ho2 := ho.only b2)
  go_loopw [32] (AgRel1 w a l) (fun i _ => l.length - (intOf i).toNat)
  case atStart => exact ⟨0, by have := NLEN.out; omega, rfl, ho2⟩
  case round =>
    obtain ⟨k, hk, rfl, ho⟩ := hrel
    by_cases hlt : k < l.length
    · obtain ⟨d, hd⟩ : ∃ d, l[k]? = some d := ⟨_, List.getElem?_eq_getElem (by have := NLEN.out; omega)⟩
      obtain ⟨b, o, hA, hbl, c0, c1, c2, c3⟩ := (HL.out.kept ho.below).cell_at hd
      cases hA
      have i0 : (0 : Int) ≤ (k : Int) := by omega
      have i1 : (k : Int) < (l.length : Int) := by omega
      have hrem : (k : Int).tmod 4 = ((k % 4 : Nat) : Int) := by rw [Int.tmod_eq_emod_of_nonneg (Int.natCast_nonneg _)]; norm_cast
      have hln : (agrM l k).length ≤ 1099511627776000 := by have := (agrM_ok l HSQ.out k).2.2; have := NLEN.out; omega
      have HD := Lib.hid hd
      have HPUT := Lib.hid ((ho.alloc (.cells #[.string d.key, .int .u64 d.seq, .string d.val, .bool d.gone] 25)).put d (1 + ((k % 4 : Nat) : Int)) hln)
      have hm4 : k % 4 < 4 := Nat.mod_lt _ (by decide)
      obtain ⟨m4, hm4e⟩ : ∃ m4, k % 4 = m4 := ⟨_, rfl⟩
      rw [hm4e] at hrem hm4 HPUT
      have HM4 := Lib.hid hm4e
      clear hd hm4e
      go_wp2_with (go_at_call 22; refine HPUT.out.mono ?_; rintro e w3 ⟨rfl, ho3, _⟩)
      go_roundw
      case rel => exact ⟨k + 1, by have := NLEN.out; omega, by go_num, by simp only [agrM, HD.out, HM4.out]; exact ho3⟩
      case measure => simp [intOf]; omega
    · obtain rfl : k = l.length := by have := NLEN.out; omega
      obtain ⟨hso, hch, hle⟩ := agrM_ok l HSQ.out l.length
      obtain ⟨M, hM⟩ : ∃ M, agrM l l.length = M := ⟨_, rfl⟩
      rw [hM] at hso hch hle ho
      clear hM
      have hl40 : M.length ≤ 40 := by omega
      have hls : (M.map (·.1)).length ≤ 2932031007402 := by rw [List.length_map]; omega
      have hsq : ∀ c ∈ M.map (·.1), 0 ≤ c.seq := fun c hc => by obtain ⟨x, hx, rfl⟩ := List.mem_map.1 hc; exact (hch x hx).2
      have hE := build_table hso (fun x hx => (hch x hx).1) hl40
      have hgt := fun k q => get_table M k q
      obtain ⟨F, hmem, _, _⟩ := ho.mem
      have hce := cells_model hmem (by omega)
      obtain ⟨C, hC⟩ : ∃ C, M.map (·.1) = C := ⟨_, rfl⟩
      rw [hC] at hls hsq hE hce
      simp only [hC] at hgt
      obtain ⟨X, hX⟩ : ∃ X, (buildN C 3).1 = X := ⟨_, rfl⟩
      have hb : buildN C 3 = (X, 0) := by rw [← hX, ← hE]
      obtain ⟨hop, hadj, -, hxz, -⟩ := build_open hsq hb
      have hBU := fun (W : World) (v : Value) (hv : Reads W v C.length 4 (cellVals C)) => build_spec hv hls hsq 3
      rw [hX, hE] at hBU
      have hOP := fun W => open_spec ⟨X.toArray⟩ (by show X.length ≤ _; omega) W
      rw [hop] at hOP
      obtain ⟨S, hS⟩ : ∃ S : ByteArray, ⟨X.toArray⟩ = S := ⟨_, rfl⟩
      rw [hS] at hOP hBU
      have HBU := Lib.hid hBU
      have HOP := Lib.hid hOP
      have HAD := Lib.hid hadj
      have HCE := Lib.hid hce
      have HGT := Lib.hid hgt
      clear hX hb hop hadj hxz hBU hOP hS hE hsq hls hso hch hle hmem hC hce hgt
      go_wp2_with (first
        | (go_at_call 24; refine HCE.out.mono ?_; rintro e w4 ⟨v4, rfl, own4, b4⟩; obtain ⟨A4, k4, rfl⟩ := (Reads.of_own own4).form; have R4 := Lib.hid (Reads.of_own own4); clear own4; have ho4 := ho.only b4)
        | (go_at_call 37; refine (HBU.out _ _ R4.out).mono ?_; rintro e w5 ⟨rfl, b5⟩; have ho5 := ho4.only b5)
        | (go_at_call 42; refine (HOP.out _).mono ?_; rintro e w6 ⟨b6, p, rfl, B6, hp6⟩; have ho6 := ho5.only b6))
      go_loopw [67] (AgRel2 w w6 a M l2) (fun i _ => l2.length - (intOf i).toNat)
      case atStart => exact ⟨0, by omega, rfl, ho6, Below.refl _ _⟩
      case round =>
        obtain ⟨k, hk, rfl, ho, hb⟩ := hrel
        by_cases hlt : k < l2.length
        · obtain ⟨x, hx⟩ : ∃ x, l2[k]? = some x := ⟨_, List.getElem?_eq_getElem hlt⟩
          obtain ⟨b, o, rfl, hbl, c0, c1, c2, c3⟩ := (H2.out.kept ho.below).cell_at hx
          have i0 : (0 : Int) ≤ (k : Int) := by omega
          have i1 : (k : Int) < (l2.length : Int) := by omega
          have hMG := (ho.alloc (.cells #[.string x.key, .int .u64 x.seq, .string x.val, .bool x.gone] 25)).get x.key x.seq
          have hBG := fun (W : World) (hW : Below w6.heap.size w6 W) => blk_get (B6.kept hW) HAD.out x.key x.seq
          rw [HGT.out] at hBG
          obtain ⟨r, hr⟩ : ∃ r, getM M x.key x.seq = r := ⟨_, rfl⟩
          rw [hr] at hMG hBG
          obtain ⟨⟨rk, rs, rv, rg⟩, rb⟩ := r
          have HMG := Lib.hid hMG
          have HBG := Lib.hid hBG
          have hne := cell_neq ⟨rk, rs, rv, rg⟩ ⟨rk, rs, rv, rg⟩
          rw [decide_eq_true rfl] at hne
          have hbox := Blk.new wr #[.string x.key, .int .u64 x.seq, .string x.val, .bool x.gone] 25
          have f0 := hb.alloc hb.size (.cells #[.string x.key, .int .u64 x.seq, .string x.val, .bool x.gone] 25)
          clear hx hr hMG hBG
          go_wp2_with (first
            | (go_at_call 23; refine HMG.out.mono ?_; rintro e w7 ⟨rfl, ho7, b7⟩
               have f7 := f0.trans (b7.mono f0.size)
               have hbox7 := hbox.kept b7
               obtain ⟨y0, y1, y2, y3⟩ := cell4 hbox7
               have yl := hbox7.lt
               have g7 := f7.alloc f7.size (.cells #[.string rk, .int .u64 rs, .string rv, .bool rg] 25)
               have ho7' := ho7.alloc (.cells #[.string rk, .int .u64 rs, .string rv, .bool rg] 25))
            | (go_at_call 44; refine (HBG.out _ g7).mono ?_; rintro e w8 ⟨he, b8⟩; obtain rfl : e = .returned (.tuple #[.agg #[.string rk, .int .u64 rs, .string rv, .bool rg], .bool rb]) := he
               have f8 := g7.trans (b8.mono g7.size)
               have ho8 := ho7'.only b8
               have hbx := (Blk.new w7 #[.string rk, .int .u64 rs, .string rv, .bool rg] 25).kept b8
               obtain ⟨z0, z1, z2, z3⟩ := cell4 hbx
               have zl := hbx.lt))
          go_roundw
          case rel => exact ⟨k + 1, by omega, by go_num, ho8.alloc _, f8.alloc f8.size _⟩
          case measure => simp [intOf]; omega
        · obtain rfl : k = l2.length := by omega
          go_wp2_with fail
          go_ret
          exact ⟨rfl, ho.below⟩
set_option maxRecDepth 100000 in
set_option maxHeartbeats 4000000 in
theorem agrees_many {w : World} {A : Option Addr} {cap : Nat} {v2 : Value} {l l2 : List Cell} (h1 : Reads w (.slice A l.length cap) l.length 4 (cellVals l)) (hcap : l.length ≤ cap) (h2 : Reads w v2 l2.length 4 (cellVals l2)) (hs : ∀ c ∈ l, 0 ≤ c.seq) (hl : 40 < l.length) (hl1 : l.length ≤ 2932031007402) (hl2 : l2.length ≤ 2932031007402) :
    Calls Try.prog 15 #[.slice A l.length cap, v2] w fun e w' => e = .returned (.bool true) ∧ Below w.heap.size w w' := by
  obtain ⟨A2, cap2, rfl⟩ := h2.form
  obtain ⟨b1, o1, rfl⟩ : ∃ b o, A = some ⟨b, o, none⟩ := by
    obtain ⟨_, _, A', c', e, h3⟩ := h1
    injection e with e1 e2 e3
    rcases h3 with h3 | ⟨b, o, e4, _⟩
    · omega
    · exact ⟨b, o, by rw [e1, e4]⟩
  have hR := reads_take h1 rfl (m := 40) (by omega)
  have hNL : (l.take 40).length = 40 := by rw [List.length_take]; omega
  have hs40 : ∀ c ∈ l.take 40, 0 ≤ c.seq := fun c hc => hs c (List.mem_of_mem_take hc)
  obtain ⟨L, hLd⟩ : ∃ L, l.take 40 = L := ⟨_, rfl⟩
  rw [hLd] at hR hNL hs40
  have HL := Lib.hid hR
  have H2 := Lib.hid h2
  have HSQ := Lib.hid hs40
  have NLEN := Lib.hid hNL
  have hI : (40 : Int) < (l.length : Int) := by omega
  have hcI : (l.length : Int) ≤ (cap : Int) := by omega
  rw [NLEN.out] at hR
  have HLR := Lib.hid hR
  clear h1 h2 hs hR hNL hs40 hLd
  go_enter Try.func15, Try.ntmps15
  go_wp2_with fail
  refine (new_spec _).mono ?_
  rintro e w1 hn
  obtain ⟨rfl, ho⟩ := Own.new (w0 := w) (Below.refl _ _) hn
  clear hn
  obtain ⟨a, ha⟩ : ∃ a, a = w.heap.size + 1 := ⟨_, rfl⟩
  rw [← ha] at ho ⊢
  clear ha
  go_wp2_with (go_at_call 36; refine (awake8 _).mono ?_; rintro e w2 ⟨rfl, b2⟩; have ho2 := ho.only b2)
  go_loopw [32] (AgRel1 w a L) (fun i _ => 40 - (intOf i).toNat)
  case atStart => exact ⟨0, by have := NLEN.out; omega, rfl, ho2⟩
  case round =>
    obtain ⟨k, hk, rfl, ho⟩ := hrel
    by_cases hlt : k < 40
    · obtain ⟨d, hd⟩ : ∃ d, L[k]? = some d := ⟨_, List.getElem?_eq_getElem (by have := NLEN.out; omega)⟩
      obtain ⟨b, o, hA, hbl, c0, c1, c2, c3⟩ := (HL.out.kept ho.below).cell_at hd
      cases hA
      have i0 : (0 : Int) ≤ (k : Int) := by omega
      have i1 : (k : Int) < (40 : Int) := by omega
      have hrem : (k : Int).tmod 4 = ((k % 4 : Nat) : Int) := by rw [Int.tmod_eq_emod_of_nonneg (Int.natCast_nonneg _)]; norm_cast
      have hln : (agrM L k).length ≤ 1099511627776000 := by have := (agrM_ok L HSQ.out k).2.2; have := NLEN.out; omega
      have HD := Lib.hid hd
      have HPUT := Lib.hid ((ho.alloc (.cells #[.string d.key, .int .u64 d.seq, .string d.val, .bool d.gone] 25)).put d (1 + ((k % 4 : Nat) : Int)) hln)
      have hm4 : k % 4 < 4 := Nat.mod_lt _ (by decide)
      obtain ⟨m4, hm4e⟩ : ∃ m4, k % 4 = m4 := ⟨_, rfl⟩
      rw [hm4e] at hrem hm4 HPUT
      have HM4 := Lib.hid hm4e
      clear hd hm4e
      go_wp2_with (go_at_call 22; refine HPUT.out.mono ?_; rintro e w3 ⟨rfl, ho3, _⟩)
      go_roundw
      case rel => exact ⟨k + 1, by have := NLEN.out; omega, by go_num, by simp only [agrM, HD.out, HM4.out]; exact ho3⟩
      case measure => simp [intOf]; omega
    · obtain rfl : k = 40 := by have := NLEN.out; omega
      obtain ⟨hso, hch, hle⟩ := agrM_ok L HSQ.out 40
      obtain ⟨M, hM⟩ : ∃ M, agrM L 40 = M := ⟨_, rfl⟩
      rw [hM] at hso hch hle ho
      clear hM
      have hl40 : M.length ≤ 40 := by omega
      have hls : (M.map (·.1)).length ≤ 2932031007402 := by rw [List.length_map]; omega
      have hsq : ∀ c ∈ M.map (·.1), 0 ≤ c.seq := fun c hc => by obtain ⟨x, hx, rfl⟩ := List.mem_map.1 hc; exact (hch x hx).2
      have hE := build_table hso (fun x hx => (hch x hx).1) hl40
      have hgt := fun k q => get_table M k q
      obtain ⟨F, hmem, _, _⟩ := ho.mem
      have hce := cells_model hmem (by omega)
      obtain ⟨C, hC⟩ : ∃ C, M.map (·.1) = C := ⟨_, rfl⟩
      rw [hC] at hls hsq hE hce
      simp only [hC] at hgt
      obtain ⟨X, hX⟩ : ∃ X, (buildN C 3).1 = X := ⟨_, rfl⟩
      have hb : buildN C 3 = (X, 0) := by rw [← hX, ← hE]
      obtain ⟨hop, hadj, -, hxz, -⟩ := build_open hsq hb
      have hBU := fun (W : World) (v : Value) (hv : Reads W v C.length 4 (cellVals C)) => build_spec hv hls hsq 3
      rw [hX, hE] at hBU
      have hOP := fun W => open_spec ⟨X.toArray⟩ (by show X.length ≤ _; omega) W
      rw [hop] at hOP
      obtain ⟨S, hS⟩ : ∃ S : ByteArray, ⟨X.toArray⟩ = S := ⟨_, rfl⟩
      rw [hS] at hOP hBU
      have HBU := Lib.hid hBU
      have HOP := Lib.hid hOP
      have HAD := Lib.hid hadj
      have HCE := Lib.hid hce
      have HGT := Lib.hid hgt
      clear hX hb hop hadj hxz hBU hOP hS hE hsq hls hso hch hle hmem hC hce hgt
      go_wp2_with (first
        | (go_at_call 24; refine HCE.out.mono ?_; rintro e w4 ⟨v4, rfl, own4, b4⟩; obtain ⟨A4, k4, rfl⟩ := (Reads.of_own own4).form; have R4 := Lib.hid (Reads.of_own own4); clear own4; have ho4 := ho.only b4)
        | (go_at_call 37; refine (HBU.out _ _ R4.out).mono ?_; rintro e w5 ⟨rfl, b5⟩; have ho5 := ho4.only b5)
        | (go_at_call 42; refine (HOP.out _).mono ?_; rintro e w6 ⟨b6, p, rfl, B6, hp6⟩; have ho6 := ho5.only b6))
      go_loopw [67] (AgRel2 w w6 a M l2) (fun i _ => l2.length - (intOf i).toNat)
      case atStart => exact ⟨0, by omega, rfl, ho6, Below.refl _ _⟩
      case round =>
        obtain ⟨k, hk, rfl, ho, hb⟩ := hrel
        by_cases hlt : k < l2.length
        · obtain ⟨x, hx⟩ : ∃ x, l2[k]? = some x := ⟨_, List.getElem?_eq_getElem hlt⟩
          obtain ⟨b, o, rfl, hbl, c0, c1, c2, c3⟩ := (H2.out.kept ho.below).cell_at hx
          have i0 : (0 : Int) ≤ (k : Int) := by omega
          have i1 : (k : Int) < (l2.length : Int) := by omega
          have hMG := (ho.alloc (.cells #[.string x.key, .int .u64 x.seq, .string x.val, .bool x.gone] 25)).get x.key x.seq
          have hBG := fun (W : World) (hW : Below w6.heap.size w6 W) => blk_get (B6.kept hW) HAD.out x.key x.seq
          rw [HGT.out] at hBG
          obtain ⟨r, hr⟩ : ∃ r, getM M x.key x.seq = r := ⟨_, rfl⟩
          rw [hr] at hMG hBG
          obtain ⟨⟨rk, rs, rv, rg⟩, rb⟩ := r
          have HMG := Lib.hid hMG
          have HBG := Lib.hid hBG
          have hne := cell_neq ⟨rk, rs, rv, rg⟩ ⟨rk, rs, rv, rg⟩
          rw [decide_eq_true rfl] at hne
          have hbox := Blk.new wr #[.string x.key, .int .u64 x.seq, .string x.val, .bool x.gone] 25
          have f0 := hb.alloc hb.size (.cells #[.string x.key, .int .u64 x.seq, .string x.val, .bool x.gone] 25)
          clear hx hr hMG hBG
          go_wp2_with (first
            | (go_at_call 23; refine HMG.out.mono ?_; rintro e w7 ⟨rfl, ho7, b7⟩
               have f7 := f0.trans (b7.mono f0.size)
               have hbox7 := hbox.kept b7
               obtain ⟨y0, y1, y2, y3⟩ := cell4 hbox7
               have yl := hbox7.lt
               have g7 := f7.alloc f7.size (.cells #[.string rk, .int .u64 rs, .string rv, .bool rg] 25)
               have ho7' := ho7.alloc (.cells #[.string rk, .int .u64 rs, .string rv, .bool rg] 25))
            | (go_at_call 44; refine (HBG.out _ g7).mono ?_; rintro e w8 ⟨he, b8⟩; obtain rfl : e = .returned (.tuple #[.agg #[.string rk, .int .u64 rs, .string rv, .bool rg], .bool rb]) := he
               have f8 := g7.trans (b8.mono g7.size)
               have ho8 := ho7'.only b8
               have hbx := (Blk.new w7 #[.string rk, .int .u64 rs, .string rv, .bool rg] 25).kept b8
               obtain ⟨z0, z1, z2, z3⟩ := cell4 hbx
               have zl := hbx.lt))
          go_roundw
          case rel => exact ⟨k + 1, by omega, by go_num, ho8.alloc _, f8.alloc f8.size _⟩
          case measure => simp [intOf]; omega
        · obtain rfl : k = l2.length := by omega
          go_wp2_with fail
          go_ret
          exact ⟨rfl, ho.below⟩
end Go.Proofs.Ytbcaiegglbdonaa
