/-
  The reference's Fork.
-/
import Derived.Test.YtbcaiegglbdonaaTree
import Derived.Test.YtbcaiegglbdonaaDuo
namespace Go.Proofs.Ytbcaiegglbdonaa
open Go.RowKit

theorem src_all {w : World} {base e size n cap : Nat} {A : Option Addr} {xs : List Value} (h : w.ownsRow base e size (.slice A n cap) n xs) :
    (Value.slice A n cap = .slice none 0 0 ∧ n = 0) ∨ ∃ ad c, Value.slice A n cap = .slice (some ad) n c ∧ ∀ (j : Nat) (u : Value), xs[j]? = some u → w.cell? (ad.add j) = some u := by
  rcases h.2 with ⟨h1, h2⟩ | ⟨g, cap', cur, h1, _⟩
  · exact .inl ⟨h1, h2⟩
  · rw [h1] at h ⊢
    exact .inr ⟨_, _, rfl, h.cells rfl⟩
def RForkPost (w : World) (M : MM) (e : Ending) (w' : World) : Prop := ∃ s, e = .returned (.pointer (some ⟨s, 0, none⟩)) ∧ RefIs w' w.heap.size s M ∧ w.heap.size ≤ s ∧ Below w.heap.size w w'
theorem rfork_end {w w4 : World} {M : MM} {g1 c1 g2 c2 : Nat} (hb : Below w.heap.size w w4) (h1 : w4.ownsRow w.heap.size 25 4 (.slice (some ⟨g1, 0, none⟩) M.length c1) M.length (cellVals (M.map (·.1))))
    (h2 : w4.ownsRow w.heap.size 3 1 (.slice (some ⟨g2, 0, none⟩) M.length c2) M.length (ints (hts M))) :
    RForkPost w M (.returned (.pointer (some ⟨w4.heap.size, 0, none⟩))) (w4.alloc (.cells #[.slice (some ⟨g1, 0, none⟩) M.length c1, .slice (some ⟨g2, 0, none⟩) M.length c2] 49)) :=
  ⟨_, rfl, ⟨_, _, Blk.new _ _ _, h1.alloc _, h2.alloc _⟩, hb.size, hb.alloc hb.size _⟩
set_option maxRecDepth 100000 in
set_option maxHeartbeats 4000000 in
theorem ref_fork {w : World} {base r : Nat} {M : MM} (hr : RefIs w base r M) (hl : M.length ≤ 2700000000000) :
    Calls Try.prog 34 #[.pointer (some ⟨r, 0, none⟩)] w (RForkPost w M) := by
  obtain ⟨vc, vh, g1, g2, g3⟩ := hr.ex
  obtain ⟨Ac, kc, rfl⟩ := (Reads.of_own g2).form
  obtain ⟨Ah, kh, rfl⟩ := (Reads.of_own g3).form
  obtain ⟨i0, hi, hz0, hz1, hz2⟩ := info_parts Try.infoCell
  obtain ⟨i1, hi', hy0, hy1, hy2⟩ := info_parts Try.infoInt
  have hlc : (cellVals (M.map (·.1))).length = M.length * 4 := by rw [cellVals_length, List.length_map]
  have hlh : (ints (hts M)).length = M.length * 1 := by simp [ints, hts]
  have G2 := Lib.hid g2
  have G3 := Lib.hid g3
  have HLC := Lib.hid hlc
  have HLH := Lib.hid hlh
  have r0 : w.cell? ⟨r, 0, none⟩ = some (.slice Ac M.length kc) := g1.cell 0 _ rfl
  have r1 : w.cell? ⟨r, 1, none⟩ = some (.slice Ah M.length kh) := g1.cell 1 _ rfl
  have p1 : 0 + M.length ≤ maxLen := by unfold maxLen; omega
  have p2 : (0 + M.length) * 48 ≤ 140737488355328 := by omega
  have p3 : (0 + M.length) * 8 ≤ 140737488355328 := by omega
  clear hr g1 g2 g3 hlc hlh
  go_enter Try.func34, Try.ntmps34
  go_wp2_with fail
  refine region_tree (S := fun w' => w'.cell? ⟨r, 0, none⟩ = some (.slice Ac M.length kc) ∧ w'.cell? ⟨r, 1, none⟩ = some (.slice Ah M.length kh))
    (.take 1 (.take 2 (.take 3 (.take 4 (.take 7 (.take 8 (.take 9 (.take 10 (.two 0 (.two 5 (.one 6 (.one 11 (.take 12 (.one 13 (.take 14 .nil))))) 6 (.one 5 (.one 11 (.take 12 (.one 13 (.take 14 .nil)))))) 6 (.one 0 (.one 5 (.one 11 (.take 12 (.one 13 (.take 14 .nil)))))))))))))))
    (by kernel_rfl) (by kernel_rfl) (by kernel_rfl) (fun _ _ _ dst _ h => by cases dst <;> exact h) ⟨r0, r1⟩ (fun hH => ?_)
  (repeat (refine tree_take (v := ?_) (by (simp only [List.getElem?_toArray, List.getElem?_cons_succ, List.getElem?_cons_zero]; exact rfl)) (by rfl) ?_ ?_; rotate_left; (focus (intro wS hS; (try dsimp only at hS); go_split_ands; go_simp; (try with_reducible rfl))); simp only [Act.put, List.setIfInBounds_toArray, List.set_cons_zero, List.set_cons_succ]))
  have bD : Below w.heap.size w w.drew := (Below.refl _ _).drew
  have rl := World.block_lt_of_cell? _ _ r0
  have n0 : w.drew.heap.size = w.heap.size := rfl
  refine tree_two (by (simp only [List.getElem?_toArray, List.getElem?_cons_zero]); exact rfl) (by rfl) (by (simp only [List.getElem?_toArray, List.getElem?_cons_succ, List.getElem?_cons_zero]); exact rfl) (by rfl) ?_ ?_
  · -- 0 first
    intro K hK
    go_simp
    have bA : Below w.heap.size w (w.alloc (.cells #[] 25)).drew := ((Below.refl _ _).alloc (Nat.le_refl _) _).drew
    have oA : (w.alloc (.cells #[] 25)).drew.ownsRow w.heap.size 25 4 (.slice (some ⟨w.heap.size, 0, none⟩) 0 0) 0 [] := World.ownsRow_made w #[] 0 (Nat.le_refl _) (by decide) rfl
    refine hK.out _ _ ⟨cell_keep bA r0, cell_keep bA r1⟩ (fun hH => ?_)
    clear hK K
    try simp only [Act.put, List.setIfInBounds_toArray, List.set_cons_zero, List.set_cons_succ]
    refine tree_two (by (simp only [List.getElem?_toArray, List.getElem?_cons_succ, List.getElem?_cons_zero]); exact rfl) (by rfl) (by (simp only [List.getElem?_toArray, List.getElem?_cons_succ, List.getElem?_cons_zero]); exact rfl) (by rfl) ?_ ?_
    · -- 0 5 6 11
      intro K hK
      refine oper_append_any _ _ 22 rfl w.heap.size 25 i0 cellZ 4 48 Try.underlying22 hi hz0 hz1 hz2 rfl (by decide) w.heap.size 0 0 [] rfl oA M.length (cellVals (M.map (·.1))) HLC.out (src_all (own_kept G2.out bA)) (cellVals_one _) p1 p2 (by simp) ?_
      intro g1 c1 w2 own1 hgr hg
      have own1 : w2.ownsRow (w.heap.size) 25 4 (.slice (some ⟨g1, 0, none⟩) M.length c1) M.length (cellVals (M.map (·.1))) := by simpa using own1
      rw [Nat.zero_add]
      have b2 : Below w.heap.size w w2 := bA.grown hgr (by simp) (fun j hj => by cases hj; exact Nat.le_refl _)
      have s2 := b2.size
      refine hK.out _ _ ⟨cell_keep b2 r0, cell_keep b2 r1⟩ (fun hH => ?_)
      clear hK K
      try simp only [Act.put, List.setIfInBounds_toArray, List.set_cons_zero, List.set_cons_succ]
      (refine tree_one (by (simp only [List.getElem?_toArray, List.getElem?_cons_succ, List.getElem?_cons_zero]; exact rfl)) (by rfl) ?_; intro K hK; go_simp)
      have b3 : Below w.heap.size w (w2.alloc (.cells #[] 3)) := b2.alloc s2 _
      have oB : (w2.alloc (.cells #[] 3)).ownsRow w2.heap.size 3 1 (.slice (some ⟨w2.heap.size, 0, none⟩) 0 0) 0 [] := World.ownsRow_made w2 #[] 0 (Nat.le_refl _) (by decide) rfl
      refine hK.out _ _ ⟨cell_keep b3 r0, cell_keep b3 r1⟩ (fun hH => ?_)
      clear hK K
      try simp only [Act.put, List.setIfInBounds_toArray, List.set_cons_zero, List.set_cons_succ]
      refine tree_one (by (simp only [List.getElem?_toArray, List.getElem?_cons_succ, List.getElem?_cons_zero]); exact rfl) (by rfl) ?_
      intro K hK
      refine oper_append_any _ _ 42 rfl w2.heap.size 3 i1 (.int .i64 0) 1 8 Try.underlying42 hi' hy0 hy1 hy2 rfl (by decide) w2.heap.size 0 0 [] rfl oB M.length (ints (hts M)) HLH.out (src_all (own_kept G3.out b3)) (ints_one _) p1 p3 (by simp) ?_
      intro g2 c2 w4 own2 hgr hg2
      have own2 : w4.ownsRow (w2.heap.size) 3 1 (.slice (some ⟨g2, 0, none⟩) M.length c2) M.length (ints (hts M)) := by simpa using own2
      rw [Nat.zero_add]
      have t1 : w.heap.size ≤ g1 ∧ g1 < w2.heap.size := own1.lt _ rfl
      have row1 := (own1.alloc (.cells #[] 3)).kept hgr (.inr (fun e => by have e2 : g1 = w2.heap.size := Option.some.inj e; omega))
      have b4 : Below w.heap.size w w4 := b3.grown hgr (by simp; omega) (fun j hj => by cases hj; exact s2)
      have row2 := own2.mono s2
      refine hK.out _ _ ⟨cell_keep b4 r0, cell_keep b4 r1⟩ (fun hH => ?_)
      clear hK K
      try simp only [Act.put, List.setIfInBounds_toArray, List.set_cons_zero, List.set_cons_succ]
      (repeat (refine tree_take (v := ?_) (by (simp only [List.getElem?_toArray, List.getElem?_cons_succ, List.getElem?_cons_zero]; exact rfl)) (by rfl) ?_ ?_; rotate_left; (focus (intro wS hS; (try dsimp only at hS); go_split_ands; go_simp; (try with_reducible rfl))); simp only [Act.put, List.setIfInBounds_toArray, List.set_cons_zero, List.set_cons_succ]))
      (refine tree_one (by (simp only [List.getElem?_toArray, List.getElem?_cons_succ, List.getElem?_cons_zero]; exact rfl)) (by rfl) ?_; intro K hK; go_simp)
      refine hK.out _ _ ⟨cell_keep (b4.alloc b4.size _) r0, cell_keep (b4.alloc b4.size _) r1⟩ (fun hH => ?_)
      clear hK K
      try simp only [Act.put, List.setIfInBounds_toArray, List.set_cons_zero, List.set_cons_succ]
      (repeat (refine tree_take (v := ?_) (by (simp only [List.getElem?_toArray, List.getElem?_cons_succ, List.getElem?_cons_zero]; exact rfl)) (by rfl) ?_ ?_; rotate_left; (focus (intro wS hS; (try dsimp only at hS); go_split_ands; go_simp; (try with_reducible rfl))); simp only [Act.put, List.setIfInBounds_toArray, List.set_cons_zero, List.set_cons_succ]))
      refine tree_nil ?_
      go_wp2_with fail
      go_ret
      exact rfork_end b4 row1 row2
    · -- 0 6 5 11
      intro K hK
      go_simp
      have b3 : Below w.heap.size w ((w.alloc (.cells #[] 25)).alloc (.cells #[] 3)).drew := (((Below.refl _ _).alloc (Nat.le_refl _) _).alloc (by simp) _).drew
      have oA1 : ((w.alloc (.cells #[] 25)).alloc (.cells #[] 3)).drew.ownsRow w.heap.size 25 4 (.slice (some ⟨w.heap.size, 0, none⟩) 0 0) 0 [] := (World.ownsRow_made (base := w.heap.size) (e := 25) (size := 4) w #[] 0 (Nat.le_refl _) (by decide) rfl).alloc _
      have oB1 : ((w.alloc (.cells #[] 25)).alloc (.cells #[] 3)).drew.ownsRow w.heap.size 3 1 (.slice (some ⟨w.heap.size + 1, 0, none⟩) 0 0) 0 [] := by
        have := World.ownsRow_made (base := w.heap.size) (e := 3) (size := 1) (w.alloc (.cells #[] 25)) #[] 0 (by simp) (by decide) rfl
        rwa [World.size_alloc] at this
      refine hK.out _ _ ⟨cell_keep b3 r0, cell_keep b3 r1⟩ (fun hH => ?_)
      clear hK K
      try simp only [Act.put, List.setIfInBounds_toArray, List.set_cons_zero, List.set_cons_succ]
      refine tree_one (by (simp only [List.getElem?_toArray, List.getElem?_cons_succ, List.getElem?_cons_zero]); exact rfl) (by rfl) ?_
      intro K hK
      refine oper_append_any _ _ 22 rfl w.heap.size 25 i0 cellZ 4 48 Try.underlying22 hi hz0 hz1 hz2 rfl (by decide) w.heap.size 0 0 [] rfl oA1 M.length (cellVals (M.map (·.1))) HLC.out (src_all (own_kept G2.out b3)) (cellVals_one _) p1 p2 (by exact b3.size) ?_
      intro g1 c1 w2 own1 hgr hg
      have own1 : w2.ownsRow (w.heap.size) 25 4 (.slice (some ⟨g1, 0, none⟩) M.length c1) M.length (cellVals (M.map (·.1))) := by simpa using own1
      rw [Nat.zero_add]
      have b4' : Below w.heap.size w w2 := b3.grown hgr (by simp; omega) (fun j hj => by cases hj; omega)
      have hne : g1 ≠ (w.heap.size + 1) := by simp only [World.size_alloc, World.size_drew] at hg; omega
      have oB2 := oB1.kept hgr (.inr (fun e => by have e2 : (w.heap.size + 1) = w.heap.size := Option.some.inj e; omega))
      refine hK.out _ _ ⟨cell_keep b4' r0, cell_keep b4' r1⟩ (fun hH => ?_)
      clear hK K
      try simp only [Act.put, List.setIfInBounds_toArray, List.set_cons_zero, List.set_cons_succ]
      refine tree_one (by (simp only [List.getElem?_toArray, List.getElem?_cons_succ, List.getElem?_cons_zero]); exact rfl) (by rfl) ?_
      intro K hK
      refine oper_append_any _ _ 42 rfl w.heap.size 3 i1 (.int .i64 0) 1 8 Try.underlying42 hi' hy0 hy1 hy2 rfl (by decide) (w.heap.size + 1) 0 0 [] rfl oB2 M.length (ints (hts M)) HLH.out (src_all (own_kept G3.out b4')) (ints_one _) p1 p3 (by exact b4'.size) ?_
      intro g2 c2 w4 own2 hgr hg2
      have own2 : w4.ownsRow (w.heap.size) 3 1 (.slice (some ⟨g2, 0, none⟩) M.length c2) M.length (ints (hts M)) := by simpa using own2
      rw [Nat.zero_add]
      have row1 := own1.kept hgr (.inr (fun e => hne (Option.some.inj e)))
      have b4 : Below w.heap.size w w4 := b4'.grown hgr b4'.size (fun j hj => by cases hj; omega)
      have row2 := own2
      refine hK.out _ _ ⟨cell_keep b4 r0, cell_keep b4 r1⟩ (fun hH => ?_)
      clear hK K
      try simp only [Act.put, List.setIfInBounds_toArray, List.set_cons_zero, List.set_cons_succ]
      (repeat (refine tree_take (v := ?_) (by (simp only [List.getElem?_toArray, List.getElem?_cons_succ, List.getElem?_cons_zero]; exact rfl)) (by rfl) ?_ ?_; rotate_left; (focus (intro wS hS; (try dsimp only at hS); go_split_ands; go_simp; (try with_reducible rfl))); simp only [Act.put, List.setIfInBounds_toArray, List.set_cons_zero, List.set_cons_succ]))
      (refine tree_one (by (simp only [List.getElem?_toArray, List.getElem?_cons_succ, List.getElem?_cons_zero]; exact rfl)) (by rfl) ?_; intro K hK; go_simp)
      refine hK.out _ _ ⟨cell_keep (b4.alloc b4.size _) r0, cell_keep (b4.alloc b4.size _) r1⟩ (fun hH => ?_)
      clear hK K
      try simp only [Act.put, List.setIfInBounds_toArray, List.set_cons_zero, List.set_cons_succ]
      (repeat (refine tree_take (v := ?_) (by (simp only [List.getElem?_toArray, List.getElem?_cons_succ, List.getElem?_cons_zero]; exact rfl)) (by rfl) ?_ ?_; rotate_left; (focus (intro wS hS; (try dsimp only at hS); go_split_ands; go_simp; (try with_reducible rfl))); simp only [Act.put, List.setIfInBounds_toArray, List.set_cons_zero, List.set_cons_succ]))
      refine tree_nil ?_
      go_wp2_with fail
      go_ret
      exact rfork_end b4 row1 row2
  · -- 6 0 5 11
    intro K hK
    go_simp
    have bA : Below w.heap.size w (w.alloc (.cells #[] 3)).drew := ((Below.refl _ _).alloc (Nat.le_refl _) _).drew
    refine hK.out _ _ ⟨cell_keep bA r0, cell_keep bA r1⟩ (fun hH => ?_)
    clear hK K
    try simp only [Act.put, List.setIfInBounds_toArray, List.set_cons_zero, List.set_cons_succ]
    (refine tree_one (by (simp only [List.getElem?_toArray, List.getElem?_cons_zero]; exact rfl)) (by rfl) ?_; intro K hK; go_simp)
    have b3 : Below w.heap.size w ((w.alloc (.cells #[] 3)).alloc (.cells #[] 25)).drew := (((Below.refl _ _).alloc (Nat.le_refl _) _).alloc (by simp) _).drew
    have oB1 : ((w.alloc (.cells #[] 3)).alloc (.cells #[] 25)).drew.ownsRow w.heap.size 3 1 (.slice (some ⟨w.heap.size, 0, none⟩) 0 0) 0 [] := (World.ownsRow_made (base := w.heap.size) (e := 3) (size := 1) w #[] 0 (Nat.le_refl _) (by decide) rfl).alloc _
    have oA1 : ((w.alloc (.cells #[] 3)).alloc (.cells #[] 25)).drew.ownsRow w.heap.size 25 4 (.slice (some ⟨w.heap.size + 1, 0, none⟩) 0 0) 0 [] := by
      have := World.ownsRow_made (base := w.heap.size) (e := 25) (size := 4) (w.alloc (.cells #[] 3)) #[] 0 (by simp) (by decide) rfl
      rwa [World.size_alloc] at this
    refine hK.out _ _ ⟨cell_keep b3 r0, cell_keep b3 r1⟩ (fun hH => ?_)
    clear hK K
    try simp only [Act.put, List.setIfInBounds_toArray, List.set_cons_zero, List.set_cons_succ]
    refine tree_one (by (simp only [List.getElem?_toArray, List.getElem?_cons_succ, List.getElem?_cons_zero]); exact rfl) (by rfl) ?_
    intro K hK
    refine oper_append_any _ _ 22 rfl w.heap.size 25 i0 cellZ 4 48 Try.underlying22 hi hz0 hz1 hz2 rfl (by decide) (w.heap.size + 1) 0 0 [] rfl oA1 M.length (cellVals (M.map (·.1))) HLC.out (src_all (own_kept G2.out b3)) (cellVals_one _) p1 p2 (by exact b3.size) ?_
    intro g1 c1 w2 own1 hgr hg
    have own1 : w2.ownsRow (w.heap.size) 25 4 (.slice (some ⟨g1, 0, none⟩) M.length c1) M.length (cellVals (M.map (·.1))) := by simpa using own1
    rw [Nat.zero_add]
    have b4' : Below w.heap.size w w2 := b3.grown hgr (by simp; omega) (fun j hj => by cases hj; omega)
    have hne : g1 ≠ w.heap.size := by simp only [World.size_alloc, World.size_drew] at hg; omega
    have oB2 := oB1.kept hgr (.inr (fun e => by have e2 : w.heap.size = (w.heap.size + 1) := Option.some.inj e; omega))
    refine hK.out _ _ ⟨cell_keep b4' r0, cell_keep b4' r1⟩ (fun hH => ?_)
    clear hK K
    try simp only [Act.put, List.setIfInBounds_toArray, List.set_cons_zero, List.set_cons_succ]
    refine tree_one (by (simp only [List.getElem?_toArray, List.getElem?_cons_succ, List.getElem?_cons_zero]); exact rfl) (by rfl) ?_
    intro K hK
    refine oper_append_any _ _ 42 rfl w.heap.size 3 i1 (.int .i64 0) 1 8 Try.underlying42 hi' hy0 hy1 hy2 rfl (by decide) w.heap.size 0 0 [] rfl oB2 M.length (ints (hts M)) HLH.out (src_all (own_kept G3.out b4')) (ints_one _) p1 p3 (by exact b4'.size) ?_
    intro g2 c2 w4 own2 hgr hg2
    have own2 : w4.ownsRow (w.heap.size) 3 1 (.slice (some ⟨g2, 0, none⟩) M.length c2) M.length (ints (hts M)) := by simpa using own2
    rw [Nat.zero_add]
    have row1 := own1.kept hgr (.inr (fun e => hne (Option.some.inj e)))
    have b4 : Below w.heap.size w w4 := b4'.grown hgr b4'.size (fun j hj => by cases hj; omega)
    have row2 := own2
    refine hK.out _ _ ⟨cell_keep b4 r0, cell_keep b4 r1⟩ (fun hH => ?_)
    clear hK K
    try simp only [Act.put, List.setIfInBounds_toArray, List.set_cons_zero, List.set_cons_succ]
    (repeat (refine tree_take (v := ?_) (by (simp only [List.getElem?_toArray, List.getElem?_cons_succ, List.getElem?_cons_zero]; exact rfl)) (by rfl) ?_ ?_; rotate_left; (focus (intro wS hS; (try dsimp only at hS); go_split_ands; go_simp; (try with_reducible rfl))); simp only [Act.put, List.setIfInBounds_toArray, List.set_cons_zero, List.set_cons_succ]))
    (refine tree_one (by (simp only [List.getElem?_toArray, List.getElem?_cons_succ, List.getElem?_cons_zero]; exact rfl)) (by rfl) ?_; intro K hK; go_simp)
    refine hK.out _ _ ⟨cell_keep (b4.alloc b4.size _) r0, cell_keep (b4.alloc b4.size _) r1⟩ (fun hH => ?_)
    clear hK K
    try simp only [Act.put, List.setIfInBounds_toArray, List.set_cons_zero, List.set_cons_succ]
    (repeat (refine tree_take (v := ?_) (by (simp only [List.getElem?_toArray, List.getElem?_cons_succ, List.getElem?_cons_zero]; exact rfl)) (by rfl) ?_ ?_; rotate_left; (focus (intro wS hS; (try dsimp only at hS); go_split_ands; go_simp; (try with_reducible rfl))); simp only [Act.put, List.setIfInBounds_toArray, List.set_cons_zero, List.set_cons_succ]))
    refine tree_nil ?_
    go_wp2_with fail
    go_ret
    exact rfork_end b4 row1 row2
end Go.Proofs.Ytbcaiegglbdonaa
