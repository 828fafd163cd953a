/-
  The laws' looks: a table and the reference are told the same.
-/
import Derived.Test.YtbcaiegglbdonaaPlanTac
import Derived.Test.YtbcaiegglbdonaaDuo
import Derived.Test.YtbcaiegglbdonaaMemSame
namespace Go.Proofs.Ytbcaiegglbdonaa
open Go.RowKit

def LkRel (w : World) (n : Nat) (A : Option Addr) (i : Value) (W : World) : Prop :=
  ∃ k : Nat, k ≤ n ∧ i = .int .i64 k ∧ (∀ g, A = some ⟨g, 0, none⟩ → ∃ arr, Blk W g arr 25 ∧ n * 4 ≤ arr.size ∧ w.heap.size ≤ g) ∧ Below w.heap.size w W
set_option maxRecDepth 100000 in
set_option maxHeartbeats 4000000 in
theorem looks_spec {w : World} {base a r : Nat} {F : Nat → Prop} {M : MM} (h : Duo w base a r F M) (hl : M.length ≤ 2700000000000) :
    Calls Try.prog 33 #[.pointer (some ⟨a, 0, none⟩), .pointer (some ⟨r, 0, none⟩)] w fun e w' => e = .returned (.bool true) ∧ Below w.heap.size w w' := by
  have hlen : (M.map (·.1)).length = M.length := List.length_map ..
  have HD := Lib.hid h
  obtain ⟨vc, vh, g1, g2, g3⟩ := h.ref.ex
  obtain ⟨Ac, kc, rfl⟩ := (Reads.of_own g2).form
  have hrc : Reads w (.slice Ac M.length kc) (M.map (·.1)).length 4 (cellVals (M.map (·.1))) := by rw [hlen]; exact Reads.of_own g2
  have hhl : (hts M).length = M.length := by simp [hts]
  have hrh : Reads w vh (hts M).length 1 (ints (hts M)) := by rw [hhl]; exact Reads.of_own g3
  have hsz : sizeN (M.map (·.1)) ≤ 9000000000000000000 := by
    have := sizeN_le (l := M.map (·.1)) (fun c hc => by obtain ⟨x, hx, rfl⟩ := List.mem_map.1 hc; exact h.mem.ok x hx)
    rw [hlen] at this; omega
  have HRC := Lib.hid hrc
  have HRH := Lib.hid hrh
  have HL := Lib.hid hlen
  have HHL := Lib.hid hhl
  have HSM := Lib.hid (sizeM_N M)
  have HLV := Lib.hid (levM_cnt M)
  have HOK := Lib.hid h.mem.ok
  have rW0 := g1.cell 0 _ rfl
  have rW1 := g1.cell 1 _ rfl
  have G1 := Lib.hid g1
  clear g2 g3 hrc hrh hlen hhl h g1
  go_enter Try.func33, Try.ntmps33
  go_wp2_with (go_at_call 24; refine (cells_model HD.out.mem (by omega)).mono ?_; rintro e w1 ⟨v, rfl, hown, hb1⟩; obtain ⟨A, cap, rfl⟩ := (Reads.of_own hown).form)
  have rA0 := cell_keep hb1 rW0
  have rA1 := cell_keep hb1 rW1
  have b1 : Below w.heap.size w w1.drew := hb1.drew
  have HOWN := Lib.hid (show w1.ownsRow w.heap.size 25 4 (.slice A M.length cap) M.length (cellVals (M.map (·.1))) by simpa using hown)
  have hMl : (M.map (·.1)).length = M.length := List.length_map ..
  have HML := Lib.hid hMl
  clear hown hMl
  refine region_plan (S := fun w' => w'.cell? ⟨r, 0, none⟩ = some (.slice Ac M.length kc) ∧ w'.cell? ⟨r, 1, none⟩ = some vh)
    ((0, true) :: (1, true) :: (2, true) :: (3, true) :: (4, true) :: (5, false) :: (6, true) :: (7, true) :: (9, true) :: (10, true) :: (11, true) :: (12, true) :: (13, true) :: (8, false) :: (14, true) :: (15, true) :: (16, true) :: (17, true) :: (19, true) :: (20, true) :: (21, true) :: (22, true) :: (18, false) :: (23, false) :: (24, true) :: (25, true) :: (26, true) :: (27, true) :: (29, true) :: (28, false) :: (30, false) :: (31, false) :: (32, true) :: (33, true) :: [])
    (by kernel_rfl) (by kernel_rfl) (by kernel_rfl) (by kernel_rfl) (fun _ _ _ dst _ h => by cases dst <;> exact h) ⟨rA0, rA1⟩ (fun hH => ?_)
  (repeat (first | (refine plan_take (v := ?_) (by (simp only [List.getElem?_toArray, List.getElem?_cons_succ, List.getElem?_cons_zero]; exact rfl)) (by rfl) ?_ ?_; rotate_left; (focus (intro wS hS; (try dsimp only at hS); go_split_ands; go_simp; (try with_reducible rfl))); simp only [Act.put, List.setIfInBounds_toArray, List.set_cons_zero, List.set_cons_succ]) | (refine plan_skip (by (simp only [List.getElem?_toArray, List.getElem?_cons_succ, List.getElem?_cons_zero]; exact rfl)) (by rfl) ?_; simp only [Act.put, List.setIfInBounds_toArray, List.set_cons_zero, List.set_cons_succ])))
  (refine plan_solo (by (simp only [List.getElem?_toArray, List.getElem?_cons_succ, List.getElem?_cons_zero]; exact rfl)) (by rfl) ?_; intro K hK; go_simp)
  refine (same_spec (l1 := M.map (·.1)) (l2 := M.map (·.1)) (w := w1.drew) (by rw [HML.out]; exact Reads.of_own (own_kept HOWN.out (Below.refl _ _).drew)) (HRC.out.kept b1)).mono ?_
  rintro e w2 ⟨rfl, hb2⟩
  rw [show decide (M.map (·.1) = M.map (·.1)) = true from decide_eq_true rfl]
  refine hK.out _ _ ⟨cell_keep hb2 rA0, cell_keep hb2 rA1⟩ (fun hH => ?_)
  clear hK K
  try simp only [Act.put, List.setIfInBounds_toArray, List.set_cons_zero, List.set_cons_succ]
  have b2 : Below w.heap.size w w2 := b1.trans (hb2.mono b1.size)
  have rB0 := cell_keep hb2 rA0
  have rB1 := cell_keep hb2 rA1
  (repeat (first | (refine plan_take (v := ?_) (by (simp only [List.getElem?_toArray, List.getElem?_cons_succ, List.getElem?_cons_zero]; exact rfl)) (by rfl) ?_ ?_; rotate_left; (focus (intro wS hS; (try dsimp only at hS); go_split_ands; go_simp; (try with_reducible rfl))); simp only [Act.put, List.setIfInBounds_toArray, List.set_cons_zero, List.set_cons_succ]) | (refine plan_skip (by (simp only [List.getElem?_toArray, List.getElem?_cons_succ, List.getElem?_cons_zero]; exact rfl)) (by rfl) ?_; simp only [Act.put, List.setIfInBounds_toArray, List.set_cons_zero, List.set_cons_succ])))
  (refine plan_solo (by (simp only [List.getElem?_toArray, List.getElem?_cons_succ, List.getElem?_cons_zero]; exact rfl)) (by rfl) ?_; intro K hK; go_simp)
  refine (len_model (HD.out.mem.kept b2)).mono ?_
  rintro e w3 ⟨rfl, rfl⟩
  refine hK.out _ _ ⟨rB0, rB1⟩ (fun hH => ?_)
  clear hK K
  try simp only [Act.put, List.setIfInBounds_toArray, List.set_cons_zero, List.set_cons_succ]
  (repeat (first | (refine plan_take (v := ?_) (by (simp only [List.getElem?_toArray, List.getElem?_cons_succ, List.getElem?_cons_zero]; exact rfl)) (by rfl) ?_ ?_; rotate_left; (focus (intro wS hS; (try dsimp only at hS); go_split_ands; go_simp; (try with_reducible rfl))); simp only [Act.put, List.setIfInBounds_toArray, List.set_cons_zero, List.set_cons_succ]) | (refine plan_skip (by (simp only [List.getElem?_toArray, List.getElem?_cons_succ, List.getElem?_cons_zero]; exact rfl)) (by rfl) ?_; simp only [Act.put, List.setIfInBounds_toArray, List.set_cons_zero, List.set_cons_succ])))
  (refine plan_solo (by (simp only [List.getElem?_toArray, List.getElem?_cons_succ, List.getElem?_cons_zero]; exact rfl)) (by rfl) ?_; intro K hK; go_simp)
  refine (size_model (HD.out.mem.kept b2)).mono ?_
  rintro e w4 ⟨rfl, rfl⟩
  rw [HSM.out]
  refine hK.out _ _ ⟨rB0, rB1⟩ (fun hH => ?_)
  clear hK K
  try simp only [Act.put, List.setIfInBounds_toArray, List.set_cons_zero, List.set_cons_succ]
  (repeat (first | (refine plan_take (v := ?_) (by (simp only [List.getElem?_toArray, List.getElem?_cons_succ, List.getElem?_cons_zero]; exact rfl)) (by rfl) ?_ ?_; rotate_left; (focus (intro wS hS; (try dsimp only at hS); go_split_ands; go_simp; (try with_reducible rfl))); simp only [Act.put, List.setIfInBounds_toArray, List.set_cons_zero, List.set_cons_succ]) | (refine plan_skip (by (simp only [List.getElem?_toArray, List.getElem?_cons_succ, List.getElem?_cons_zero]; exact rfl)) (by rfl) ?_; simp only [Act.put, List.setIfInBounds_toArray, List.set_cons_zero, List.set_cons_succ])))
  (refine plan_solo (by (simp only [List.getElem?_toArray, List.getElem?_cons_succ, List.getElem?_cons_zero]; exact rfl)) (by rfl) ?_; intro K hK; go_simp)
  refine (ref_size (l := M.map (·.1)) (HRC.out.kept b2) (fun c hc => by obtain ⟨x, hx, rfl⟩ := List.mem_map.1 hc; exact HOK.out x hx) (by rw [HML.out]; omega)).mono ?_
  rintro e w5 ⟨rfl, hb5⟩
  refine hK.out _ _ ⟨cell_keep hb5 rB0, cell_keep hb5 rB1⟩ (fun hH => ?_)
  clear hK K
  try simp only [Act.put, List.setIfInBounds_toArray, List.set_cons_zero, List.set_cons_succ]
  have b5 : Below w.heap.size w w5 := b2.trans (hb5.mono b2.size)
  have rC0 := cell_keep hb5 rB0
  have rC1 := cell_keep hb5 rB1
  (repeat (first | (refine plan_take (v := ?_) (by (simp only [List.getElem?_toArray, List.getElem?_cons_succ, List.getElem?_cons_zero]; exact rfl)) (by rfl) ?_ ?_; rotate_left; (focus (intro wS hS; (try dsimp only at hS); go_split_ands; go_simp; (try with_reducible rfl))); simp only [Act.put, List.setIfInBounds_toArray, List.set_cons_zero, List.set_cons_succ]) | (refine plan_skip (by (simp only [List.getElem?_toArray, List.getElem?_cons_succ, List.getElem?_cons_zero]; exact rfl)) (by rfl) ?_; simp only [Act.put, List.setIfInBounds_toArray, List.set_cons_zero, List.set_cons_succ])))
  (refine plan_solo (by (simp only [List.getElem?_toArray, List.getElem?_cons_succ, List.getElem?_cons_zero]; exact rfl)) (by rfl) ?_; intro K hK; go_simp)
  refine (levels_model (HD.out.mem.kept b5)).mono ?_
  rintro e w6 ⟨v6, rfl, hv6, hb6⟩
  refine hK.out _ _ ⟨cell_keep hb6 rC0, cell_keep hb6 rC1⟩ (fun hH => ?_)
  clear hK K
  try simp only [Act.put, List.setIfInBounds_toArray, List.set_cons_zero, List.set_cons_succ]
  have b6 : Below w.heap.size w w6 := b5.trans (hb6.mono b5.size)
  have rD0 := cell_keep hb6 rC0
  have rD1 := cell_keep hb6 rC1
  (repeat (first | (refine plan_take (v := ?_) (by (simp only [List.getElem?_toArray, List.getElem?_cons_succ, List.getElem?_cons_zero]; exact rfl)) (by rfl) ?_ ?_; rotate_left; (focus (intro wS hS; (try dsimp only at hS); go_split_ands; go_simp; (try with_reducible rfl))); simp only [Act.put, List.setIfInBounds_toArray, List.set_cons_zero, List.set_cons_succ]) | (refine plan_skip (by (simp only [List.getElem?_toArray, List.getElem?_cons_succ, List.getElem?_cons_zero]; exact rfl)) (by rfl) ?_; simp only [Act.put, List.setIfInBounds_toArray, List.set_cons_zero, List.set_cons_succ])))
  (refine plan_solo (by (simp only [List.getElem?_toArray, List.getElem?_cons_succ, List.getElem?_cons_zero]; exact rfl)) (by rfl) ?_; intro K hK; go_simp)
  refine (ref_levels (G1.out.kept b6) (HRH.out.kept b6) (by rw [HHL.out]; omega)).mono ?_
  rintro e w7 ⟨v7, rfl, hv7, hb7⟩
  refine hK.out _ _ ⟨cell_keep hb7 rD0, cell_keep hb7 rD1⟩ (fun hH => ?_)
  clear hK K
  try simp only [Act.put, List.setIfInBounds_toArray, List.set_cons_zero, List.set_cons_succ]
  have b7 : Below w.heap.size w w7 := b6.trans (hb7.mono b6.size)
  have rE0 := cell_keep hb7 rD0
  have rE1 := cell_keep hb7 rD1
  rw [← HLV.out] at hv7
  (repeat (first | (refine plan_take (v := ?_) (by (simp only [List.getElem?_toArray, List.getElem?_cons_succ, List.getElem?_cons_zero]; exact rfl)) (by rfl) ?_ ?_; rotate_left; (focus (intro wS hS; (try dsimp only at hS); go_split_ands; go_simp; (try with_reducible rfl))); simp only [Act.put, List.setIfInBounds_toArray, List.set_cons_zero, List.set_cons_succ]) | (refine plan_skip (by (simp only [List.getElem?_toArray, List.getElem?_cons_succ, List.getElem?_cons_zero]; exact rfl)) (by rfl) ?_; simp only [Act.put, List.setIfInBounds_toArray, List.set_cons_zero, List.set_cons_succ])))
  (refine plan_solo (by (simp only [List.getElem?_toArray, List.getElem?_cons_succ, List.getElem?_cons_zero]; exact rfl)) (by rfl) ?_; intro K hK; go_simp)
  refine (sameInts_spec (l1 := levM M) (l2 := levM M) ((Reads.of_own hv6).kept hb7) (Reads.of_own hv7)).mono ?_
  rintro e w8 ⟨rfl, hb8⟩
  rw [show decide (levM M = levM M) = true from decide_eq_true rfl]
  refine hK.out _ _ ⟨cell_keep hb8 rE0, cell_keep hb8 rE1⟩ (fun hH => ?_)
  clear hK K
  try simp only [Act.put, List.setIfInBounds_toArray, List.set_cons_zero, List.set_cons_succ]
  have b8 : Below w.heap.size w w8 := b7.trans (hb8.mono b7.size)
  (repeat (first | (refine plan_take (v := ?_) (by (simp only [List.getElem?_toArray, List.getElem?_cons_succ, List.getElem?_cons_zero]; exact rfl)) (by rfl) ?_ ?_; rotate_left; (focus (intro wS hS; (try dsimp only at hS); go_split_ands; go_simp; (try with_reducible rfl))); simp only [Act.put, List.setIfInBounds_toArray, List.set_cons_zero, List.set_cons_succ]) | (refine plan_skip (by (simp only [List.getElem?_toArray, List.getElem?_cons_succ, List.getElem?_cons_zero]; exact rfl)) (by rfl) ?_; simp only [Act.put, List.setIfInBounds_toArray, List.set_cons_zero, List.set_cons_succ])))
  refine plan_nil ?_
  go_wp2_with fail
  have c2 : Below w1.heap.size w1 w2 := (Below.refl _ _).drew.trans hb2
  have c5 := c2.trans (hb5.mono c2.size)
  have c6 := c5.trans (hb6.mono c5.size)
  have c7 := c6.trans (hb7.mono c6.size)
  have c8 := c7.trans (hb8.mono c7.size)
  have own8 := own_kept HOWN.out c8
  have HW8 := Lib.hid own8
  clear own8 c2 c5 c6 c7 c8 rA0 rA1 rB0 rB1 rC0 rC1 rD0 rD1 rE0 rE1 hv6 hv7 hb2 hb5 hb6 hb7 hb8 b1 b2 b5 b6 b7
  go_loopw [45] (LkRel w M.length A) (fun i _ => M.length - (intOf i).toNat)
  case atStart =>
    refine ⟨0, by omega, rfl, fun g hg => ?_, b8⟩
    subst hg
    rcases HW8.out.2 with ⟨h1, h2⟩ | ⟨g', cap', cur, h1, hb, hg, hc, hm, hs, _⟩
    · cases h1
    · cases h1
      exact ⟨cur, hg, by rw [hs]; omega, hb⟩
  case round =>
    obtain ⟨k, hk, rfl, hA, hbr⟩ := hrel
    by_cases hlt : k < M.length
    · obtain ⟨g, cap', e⟩ : ∃ g cap', Value.slice A M.length cap = .slice (some ⟨g, 0, none⟩) M.length cap' := by
        rcases HW8.out.2 with ⟨h1, h2⟩ | ⟨g', cap', cur, h1, _⟩
        · omega
        · exact ⟨g', cap', h1⟩
      cases e
      obtain ⟨arr, hB, hsz, hgw⟩ := hA g rfl
      have l0 : k * 4 < arr.size := by omega
      have l1 : k * 4 + 1 < arr.size := by omega
      have l2 : k * 4 + 2 < arr.size := by omega
      have l3 : k * 4 + 3 < arr.size := by omega
      have q0 := hB.cell (k * 4) _ (Array.getElem?_eq_getElem l0)
      have q1 := hB.cell (k * 4 + 1) _ (Array.getElem?_eq_getElem l1)
      have q2 := hB.cell (k * 4 + 2) _ (Array.getElem?_eq_getElem l2)
      have q3 := hB.cell (k * 4 + 3) _ (Array.getElem?_eq_getElem l3)
      have qf := hB.frozen
      have ql := hB.lt
      have i0 : (0 : Int) ≤ (k : Int) := by omega
      have i1 : (k : Int) < (M.length : Int) := by omega
      have HB := Lib.hid hB
      have HZ := Lib.hid hsz
      clear hB hsz
      go_wp2_with fail
      go_roundw
      case rel =>
        refine ⟨k + 1, by omega, by go_num, fun g' hg' => ?_, ?_⟩
        · cases hg'
          exact ⟨_, (((HB.out.setCell _ _).setCell _ _).setCell _ _).setCell _ _, by simpa using HZ.out, hgw⟩
        · exact (((hbr.setCell hgw _).setCell hgw _).setCell hgw _).setCell hgw _
      case measure => simp [intOf]; omega
    · obtain rfl : k = M.length := by omega
      go_wp2_with fail
      go_ret
      exact ⟨rfl, hbr⟩
end Go.Proofs.Ytbcaiegglbdonaa
