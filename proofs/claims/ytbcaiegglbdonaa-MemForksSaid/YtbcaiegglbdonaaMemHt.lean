/-
  A table's height of a cell.
-/
import Derived.Test.YtbcaiegglbdonaaPlanTac
import Derived.Test.YtbcaiegglbdonaaMemPut
namespace Go.Proofs.Ytbcaiegglbdonaa
open Go.RowKit

def HtRel (w : World) (n : Nat) (h i : Value) (W : World) : Prop := ∃ k : Nat, k ≤ 12 ∧ i = .int .i64 k ∧ h = .int .i64 ((min k n : Nat) : Int) ∧ Below w.heap.size w W
set_option maxRecDepth 100000 in
set_option maxHeartbeats 2000000 in
theorem height_spec {w : World} {a hb : Nat} {A B : List Node} {n : Node} {sz : Int} (hs : Skip w a hb (A ++ n :: B) sz) (hA : ∀ m ∈ A, lessC m.c n.c.key n.c.seq < 0) (hB : ∀ m ∈ B, 0 < lessC m.c n.c.key n.c.seq) :
    Calls Try.prog 78 #[.pointer (some ⟨a, 0, none⟩), .agg #[.string n.c.key, .int .u64 n.c.seq, .string n.c.val, .bool n.c.gone]] w fun e w' => e = .returned (.int .i64 n.h) ∧ Below w.heap.size w w' := by
  have hn12 : n.h ≤ 12 := hs.hts n (by simp)
  have hself : lessC n.c n.c.key n.c.seq = 0 := cellCmp_eq _ _
  have hout : outAgg hb A = .agg #[.pointer (some ⟨lastAt 0 hb A, 0, none⟩), .pointer (some ⟨lastAt 1 hb A, 0, none⟩), .pointer (some ⟨lastAt 2 hb A, 0, none⟩), .pointer (some ⟨lastAt 3 hb A, 0, none⟩), .pointer (some ⟨lastAt 4 hb A, 0, none⟩), .pointer (some ⟨lastAt 5 hb A, 0, none⟩), .pointer (some ⟨lastAt 6 hb A, 0, none⟩), .pointer (some ⟨lastAt 7 hb A, 0, none⟩), .pointer (some ⟨lastAt 8 hb A, 0, none⟩), .pointer (some ⟨lastAt 9 hb A, 0, none⟩), .pointer (some ⟨lastAt 10 hb A, 0, none⟩), .pointer (some ⟨lastAt 11 hb A, 0, none⟩)] := rfl
  have hahead := fun W hsk => @ahead_spec W a hb A (n :: B) sz hsk n.c.key n.c.seq hA (fun m hm => by rcases List.mem_cons.1 hm with rfl | hm; (rw [hself]; decide); exact Int.le_of_lt (hB m hm))
  rw [hout] at hahead
  clear hout
  have HA := Lib.hid hahead
  clear hahead
  obtain ⟨c, hc⟩ : ∃ c, n.c = c := ⟨_, rfl⟩
  rw [hc] at HA hA hB hself ⊢
  have HC := Lib.hid hc
  clear hc
  go_enter Try.func78, Try.ntmps78
  go_wp2_with (go_at_call 75; refine (HA.out _ (hs.kept ((Below.refl _ _).alloc (Nat.le_refl _) _))).mono ?_; rintro e w2 ⟨rfl, hb2⟩; obtain ⟨x0, x1, x2, x3⟩ := cell4 ((Blk.new w _ _).kept hb2))
  go_loopw [5, 15] (HtRel (w2.alloc (.cells (arr12 (outp hb A)) 103)) n.h) (fun _ i _ => 12 - (intOf i).toNat)
  case atStart => exact ⟨0, by omega, rfl, by simp, Below.refl _ _⟩
  case round =>
    obtain ⟨k, hk, rfl, rfl, hbr⟩ := hrel
    have hbw : Below w.heap.size w wr := (((Below.refl _ _).alloc (Nat.le_refl _) _).trans (hb2.mono (by simp))).trans (((Below.refl _ _).alloc (Nat.le_refl _) _).trans (hbr.mono (by simp)) |>.mono (by have := hb2.size; simp at this; omega))
    by_cases hlt : k < 12
    · have hsk := hs.kept hbw
      obtain ⟨cq, fq, hbq, hfq⟩ := lastAt_blk hsk (l := k) hlt
      have hq := hbq.cell (4 + k) _ (nodeArr_get cq fq hlt)
      have hql := hbq.lt
      rw [hfq] at hq
      have hl0 : wr.cell? ⟨w2.heap.size, k, none⟩ = some (.pointer (some ⟨lastAt k hb A, 0, none⟩)) := ((Blk.new w2 (arr12 (outp hb A)) 103).kept hbr).cell k _ (arr12_get _ hlt)
      have hll := ((Blk.new w2 (arr12 (outp hb A)) 103).kept hbr).lt
      have hbw2 : Below w2.heap.size w2 wr := ((Below.refl _ _).alloc (Nat.le_refl _) _).trans (hbr.mono (by simp))
      have y0 := cell_keep hbw2 x0
      have y1 := cell_keep hbw2 x1
      have y2 := cell_keep hbw2 x2
      have y3 := cell_keep hbw2 x3
      have yl := World.block_lt_of_cell? _ _ y0
      have i0 : (0 : Int) ≤ (k : Int) := by omega
      have i1 : (k : Int) < 12 := by omega
      have hbelow : ∀ {w5 : World}, Below wr.heap.size wr w5 → Below (w2.alloc (.cells (arr12 (outp hb A)) 103)).heap.size (w2.alloc (.cells (arr12 (outp hb A)) 103)) w5 := fun h5 => hbr.trans (h5.mono hbr.size)
      clear hbq hfq hb2 x0 x1 x2 x3
      by_cases hkn : k < n.h
      · have HX := Lib.hid (show ptrv (nxt k (n :: B)) = .pointer (some ⟨n.b, 0, none⟩) by simp [nxt, hkn, ptrv])
        rw [HX.out] at hq
        have hwr : IntKind.i64.wrap (((min k n.h : Nat) : Int) + 1) = ((min k n.h : Nat) : Int) + 1 := IntWalk.i64_in _ (by omega)
        have hres : ((min k n.h : Nat) : Int) + 1 = ((min (k + 1) n.h : Nat) : Int) := by omega
        have HRS := Lib.hid hres
        obtain ⟨m0, m1, m2, m3⟩ := nodeArr_cells hsk.nodes.at_
        have ml := World.block_lt_of_cell? _ _ m0
        obtain ⟨m, hm⟩ : ∃ m, n = m := ⟨_, rfl⟩
        have hcm : cellCmp m.c.key m.c.seq c.key c.seq = 0 := by rw [← hm, HC.out]; exact hself
        have HM := Lib.hid hm
        obtain ⟨q, hqe⟩ : ∃ q, min k n.h = q := ⟨_, rfl⟩
        rw [hqe] at hwr HRS ⊢
        rw [hm] at m0 m1 m2 m3 ml hq
        clear hm hres hqe hkn
        go_wp2_with fail
        refine region_plan (S := fun w' => w'.cell? ⟨w.heap.size, 0, none⟩ = some (.string c.key) ∧ w'.cell? ⟨w.heap.size, 1, none⟩ = some (.int .u64 c.seq) ∧ w'.cell? ⟨w.heap.size, 2, none⟩ = some (.string c.val) ∧ w'.cell? ⟨w.heap.size, 3, none⟩ = some (.bool c.gone) ∧ w'.cell? ⟨m.b, 0, none⟩ = some (.string m.c.key) ∧ w'.cell? ⟨m.b, 1, none⟩ = some (.int .u64 m.c.seq) ∧ w'.cell? ⟨m.b, 2, none⟩ = some (.string m.c.val) ∧ w'.cell? ⟨m.b, 3, none⟩ = some (.bool m.c.gone))
          ((0, true) :: (1, true) :: (2, true) :: (3, true) :: (4, true) :: (5, true) :: (6, true) :: (7, true) :: (8, true) :: (9, true) :: (10, true) :: (11, false) :: (12, true) :: (13, true) :: [])
          (by kernel_rfl) (by kernel_rfl) (by kernel_rfl) (by kernel_rfl) (fun _ _ _ dst _ h => by cases dst <;> exact h) ⟨y0, y1, y2, y3, m0, m1, m2, m3⟩ (fun hH => ?_)
        (repeat (first | (refine plan_take (v := ?_) (by (simp only [List.getElem?_toArray, List.getElem?_cons_succ, List.getElem?_cons_zero]; exact rfl)) (by rfl) ?_ ?_; rotate_left; (focus (intro wS hS; (try dsimp only at hS); go_split_ands; go_simp; (try with_reducible rfl))); simp only [Act.put, List.setIfInBounds_toArray, List.set_cons_zero, List.set_cons_succ]) | (refine plan_skip (by (simp only [List.getElem?_toArray, List.getElem?_cons_succ, List.getElem?_cons_zero]; exact rfl)) (by rfl) ?_; simp only [Act.put, List.setIfInBounds_toArray, List.set_cons_zero, List.set_cons_succ])))
        (refine plan_solo (by (simp only [List.getElem?_toArray, List.getElem?_cons_succ, List.getElem?_cons_zero]; exact rfl)) (by rfl) ?_; intro K hK; go_simp)
        refine (mem_compare _ _ _ _ _ _ _).mono ?_
        rintro e w5 ⟨rfl, hb5⟩
        rw [hcm]
        refine hK.out _ _ ⟨cell_keep hb5 y0, cell_keep hb5 y1, cell_keep hb5 y2, cell_keep hb5 y3, cell_keep hb5 m0, cell_keep hb5 m1, cell_keep hb5 m2, cell_keep hb5 m3⟩ (fun hH => ?_)
        clear hK K
        try simp only [Act.put, List.setIfInBounds_toArray, List.set_cons_zero, List.set_cons_succ]
        (repeat (first | (refine plan_take (v := ?_) (by (simp only [List.getElem?_toArray, List.getElem?_cons_succ, List.getElem?_cons_zero]; exact rfl)) (by rfl) ?_ ?_; rotate_left; (focus (intro wS hS; (try dsimp only at hS); go_split_ands; go_simp; (try with_reducible rfl))); simp only [Act.put, List.setIfInBounds_toArray, List.set_cons_zero, List.set_cons_succ]) | (refine plan_skip (by (simp only [List.getElem?_toArray, List.getElem?_cons_succ, List.getElem?_cons_zero]; exact rfl)) (by rfl) ?_; simp only [Act.put, List.setIfInBounds_toArray, List.set_cons_zero, List.set_cons_succ])))
        refine plan_nil ?_
        go_wp2_with fail
        go_roundw
        case rel => exact ⟨k + 1, by omega, by go_num, by simp only [HRS.out], hbelow ((Below.refl _ _).drew.trans hb5)⟩
        case measure => simp [intOf]; omega
      · by_cases hx : nxt k B = none
        · have HX := Lib.hid (show ptrv (nxt k (n :: B)) = .pointer none by have : nxt k (n :: B) = nxt k B := by simp [nxt, hkn]
                                                                            rw [this, hx]; rfl)
          have HRS := Lib.hid (show ((min k n.h : Nat) : Int) = ((min (k + 1) n.h : Nat) : Int) by omega)
          obtain ⟨q, hqe⟩ : ∃ q, min k n.h = q := ⟨_, rfl⟩
          rw [hqe] at HRS ⊢
          rw [HX.out] at hq
          clear hkn hqe hx
          go_wp2_with fail
          go_quiet (fail)
          go_wp2_with fail
          go_roundw
          case rel => exact ⟨k + 1, by omega, by go_num, by rw [HRS.out], hbelow (below_drewN (Below.refl _ _) _)⟩
          case measure => simp [intOf]; omega
        · obtain ⟨m, hmB, hmh, hmx⟩ := (nxt_none_or k B).resolve_left hx
          have HX := Lib.hid (show ptrv (nxt k (n :: B)) = .pointer (some ⟨m.b, 0, none⟩) by have : nxt k (n :: B) = nxt k B := by simp [nxt, hkn]
                                                                                             rw [this, hmx]; rfl)
          have HRS := Lib.hid (show ((min k n.h : Nat) : Int) = ((min (k + 1) n.h : Nat) : Int) by omega)
          obtain ⟨fm, hfm⟩ := hsk.nodes.mem (n := m) (by simp [hmB])
          obtain ⟨m0, m1, m2, m3⟩ := nodeArr_cells hfm
          have ml := hfm.lt
          have hne0 : (cellCmp m.c.key m.c.seq c.key c.seq == 0) = false := by
            have := hB m hmB
            unfold lessC at this
            simp; omega
          have hne1 : ¬ cellCmp m.c.key m.c.seq c.key c.seq = 0 := by simpa using hne0
          obtain ⟨q, hqe⟩ : ∃ q, min k n.h = q := ⟨_, rfl⟩
          rw [hqe] at HRS ⊢
          clear hkn hqe hx hmx hfm
          rw [HX.out] at hq
          go_wp2_with fail
          refine region_plan (S := fun w' => w'.cell? ⟨w.heap.size, 0, none⟩ = some (.string c.key) ∧ w'.cell? ⟨w.heap.size, 1, none⟩ = some (.int .u64 c.seq) ∧ w'.cell? ⟨w.heap.size, 2, none⟩ = some (.string c.val) ∧ w'.cell? ⟨w.heap.size, 3, none⟩ = some (.bool c.gone) ∧ w'.cell? ⟨m.b, 0, none⟩ = some (.string m.c.key) ∧ w'.cell? ⟨m.b, 1, none⟩ = some (.int .u64 m.c.seq) ∧ w'.cell? ⟨m.b, 2, none⟩ = some (.string m.c.val) ∧ w'.cell? ⟨m.b, 3, none⟩ = some (.bool m.c.gone))
            ((0, true) :: (1, true) :: (2, true) :: (3, true) :: (4, true) :: (5, true) :: (6, true) :: (7, true) :: (8, true) :: (9, true) :: (10, true) :: (11, false) :: (12, true) :: (13, true) :: [])
            (by kernel_rfl) (by kernel_rfl) (by kernel_rfl) (by kernel_rfl) (fun _ _ _ dst _ h => by cases dst <;> exact h) ⟨y0, y1, y2, y3, m0, m1, m2, m3⟩ (fun hH => ?_)
          (repeat (first | (refine plan_take (v := ?_) (by (simp only [List.getElem?_toArray, List.getElem?_cons_succ, List.getElem?_cons_zero]; exact rfl)) (by rfl) ?_ ?_; rotate_left; (focus (intro wS hS; (try dsimp only at hS); go_split_ands; go_simp; (try with_reducible rfl))); simp only [Act.put, List.setIfInBounds_toArray, List.set_cons_zero, List.set_cons_succ]) | (refine plan_skip (by (simp only [List.getElem?_toArray, List.getElem?_cons_succ, List.getElem?_cons_zero]; exact rfl)) (by rfl) ?_; simp only [Act.put, List.setIfInBounds_toArray, List.set_cons_zero, List.set_cons_succ])))
          (refine plan_solo (by (simp only [List.getElem?_toArray, List.getElem?_cons_succ, List.getElem?_cons_zero]; exact rfl)) (by rfl) ?_; intro K hK; go_simp)
          refine (mem_compare _ _ _ _ _ _ _).mono ?_
          rintro e w5 ⟨rfl, hb5⟩
          refine hK.out _ _ ⟨cell_keep hb5 y0, cell_keep hb5 y1, cell_keep hb5 y2, cell_keep hb5 y3, cell_keep hb5 m0, cell_keep hb5 m1, cell_keep hb5 m2, cell_keep hb5 m3⟩ (fun hH => ?_)
          clear hK K
          try simp only [Act.put, List.setIfInBounds_toArray, List.set_cons_zero, List.set_cons_succ]
          (repeat (first | (refine plan_take (v := ?_) (by (simp only [List.getElem?_toArray, List.getElem?_cons_succ, List.getElem?_cons_zero]; exact rfl)) (by rfl) ?_ ?_; rotate_left; (focus (intro wS hS; (try dsimp only at hS); go_split_ands; go_simp; (try with_reducible rfl))); simp only [Act.put, List.setIfInBounds_toArray, List.set_cons_zero, List.set_cons_succ]) | (refine plan_skip (by (simp only [List.getElem?_toArray, List.getElem?_cons_succ, List.getElem?_cons_zero]; exact rfl)) (by rfl) ?_; simp only [Act.put, List.setIfInBounds_toArray, List.set_cons_zero, List.set_cons_succ])))
          refine plan_nil ?_
          go_wp2_with fail
          go_roundw
          case rel => exact ⟨k + 1, by omega, by go_num, by rw [HRS.out], hbelow ((Below.refl _ _).drew.trans hb5)⟩
          case measure => simp [intOf]; omega
    · obtain rfl : k = 12 := by omega
      go_wp2
      go_ret
      exact ⟨by rw [Nat.min_eq_right hn12]; rfl, hbw⟩
end Go.Proofs.Ytbcaiegglbdonaa
