/-
  A table's fork: another one that is the same.
-/
import Derived.Test.YtbcaiegglbdonaaMemHt
import Derived.Test.YtbcaiegglbdonaaMemCol
namespace Go.Proofs.Ytbcaiegglbdonaa
open Go.RowKit

theorem height_model {w : World} {a : Nat} {F : Nat → Prop} {M : MM} (hm : MemIs w a F M) {x : Cell × Nat} (hx : x ∈ M) :
    Calls Try.prog 78 #[.pointer (some ⟨a, 0, none⟩), .agg #[.string x.1.key, .int .u64 x.1.seq, .string x.1.val, .bool x.1.gone]] w fun e w' => e = .returned (.int .i64 x.2) ∧ Below w.heap.size w w' := by
  obtain ⟨hb, L, hs, hL, hF⟩ := hm.skip
  rw [← hL] at hx
  obtain ⟨n, hn, rfl⟩ := List.mem_map.1 hx
  obtain ⟨A, B, rfl⟩ := List.append_of_mem hn
  have hsd := hm.sorted
  rw [← hL, List.map_append, List.map_cons] at hsd
  obtain ⟨_, h2, h3⟩ := List.pairwise_append.1 hsd
  exact height_spec hs (fun m hm => cellCmp_neg_iff.2 (h3 (m.c, m.h) (List.mem_map.2 ⟨m, hm, rfl⟩) (n.c, n.h) (by simp)))
    (fun m hm => by
      have := (List.pairwise_cons.1 h2).1 (m.c, m.h) (List.mem_map.2 ⟨m, hm, rfl⟩)
      show 0 < cellCmp _ _ _ _
      rw [cellCmp_gt this]; decide)
theorem take_put {M : MM} (hs : SortedM M) (hp : ∀ x ∈ M, 1 ≤ x.2 ∧ x.2 ≤ 12) (ho : cellOkM M) {k : Nat} {x : Cell × Nat} (hx : M[k]? = some x) :
    putRes (M.take k) x.1 (x.2 : Int) = (0, M.take (k + 1)) := by
  have hmem := List.mem_of_getElem? hx
  have hlt := (List.getElem?_eq_some_iff.1 hx).1
  have hall : ∀ y ∈ M.take k, PLt y.1.key y.1.seq x.1.key x.1.seq := by
    intro y hy
    have hsp : M.take k ++ x :: M.drop (k + 1) = M := by
      have h := List.take_append_drop k M
      rw [List.drop_eq_getElem_cons hlt, (List.getElem?_eq_some_iff.1 hx).2] at h
      exact h
    have hs2 := hs
    rw [← hsp] at hs2
    exact (List.pairwise_append.1 hs2).2.2 y hy x (by simp)
  have ha : aheadM (M.take k) x.1.key x.1.seq = M.take k := by
    have := List.takeWhile_append_of_pos (p := ahd x.1.key x.1.seq) (l₁ := M.take k) (l₂ := []) (fun y hy => by simpa [ahd] using hall y hy)
    simpa [aheadM] using this
  have hb : behindM (M.take k) x.1.key x.1.seq = [] := by
    have h := congrArg List.length (ahead_behind (M.take k) x.1.key x.1.seq)
    rw [List.length_append, ha] at h
    exact List.eq_nil_of_length_eq_zero (by omega)
  have hx12 := hp x hmem
  have hck : ¬ checkN x.1 = 60 := by rw [ho x hmem]; decide
  unfold putRes
  rw [if_neg hck, if_neg (by omega), hb, if_neg (by simp [hitM]), ha, List.take_add_one, hx]
  simp

def FkRel (w : World) (M : MM) (o B : Nat) (v : Value) (i : Value) (W : World) : Prop :=
  ∃ (k : Nat) (F : Nat → Prop), k ≤ M.length ∧ i = .int .i64 k ∧ MemIs W o F (M.take k) ∧ (∀ j, F j → w.heap.size ≤ j ∧ v.ownBlock ≠ some j) ∧ W.ownsRow B 25 4 v (M.map (·.1)).length (cellVals (M.map (·.1))) ∧ Below w.heap.size w W
def ForkPost (w : World) (M : MM) (e : Ending) (w' : World) : Prop := ∃ o F, e = .returned (.pointer (some ⟨o, 0, none⟩)) ∧ MemIs w' o F M ∧ (∀ j, F j → w.heap.size ≤ j) ∧ Below w.heap.size w w'
set_option maxRecDepth 100000 in
set_option maxHeartbeats 2000000 in
theorem fork_model {w : World} {a : Nat} {F : Nat → Prop} {M : MM} (hm : MemIs w a F M) (hl : M.length * 48 ≤ 140737488355328) :
    Calls Try.prog 31 #[.pointer (some ⟨a, 0, none⟩)] w (ForkPost w M) := by
  obtain ⟨hFa, hb0, hm0⟩ := hm.head
  have ha := hm.lt _ hFa
  have HM := Lib.hid hm
  clear hm hFa
  go_enter Try.func31, Try.ntmps31
  go_wp2_with (first | (go_at_call 73; refine (made_yes (p := ⟨hb0, 0, none⟩) ?_).mono ?_; (go_simp); rintro e w' ⟨rfl, rfl⟩) | (go_at_call 20; refine (new_spec _).mono ?_; rintro e w1 hn; obtain ⟨rfl, hmem1, hb1, hsz1⟩ := NewPost.mem hn; clear hn) | (go_at_call 24; refine (cells_model (HM.out.kept hb1) hl).mono ?_; rintro e w2 ⟨v, rfl, hown, hb2⟩; obtain ⟨A, cap, rfl⟩ := (Reads.of_own hown).form))
  go_loopw [13] (FkRel w M (w.heap.size + 1) w1.heap.size (.slice A (M.map (·.1)).length cap)) (fun i _ => M.length - (intOf i).toNat)
  case atStart =>
    refine ⟨0, _, by omega, rfl, hmem1.kept hb2, fun j hj => ?_, hown, hb1.trans (hb2.mono hb1.size)⟩
    have : j < w1.heap.size := hmem1.lt j hj
    refine ⟨by rcases hj with rfl | rfl <;> omega, fun e => ?_⟩
    have := (hown.lt j e).1
    omega
  case round =>
    obtain ⟨k, F', hk, rfl, hmr, hFr, hownr, hbr⟩ := hrel
    by_cases hlt : k < M.length
    · obtain ⟨x, hx⟩ : ∃ x, M[k]? = some x := ⟨_, List.getElem?_eq_getElem hlt⟩
      have hxc : (M.map (·.1))[k]? = some x.1 := by rw [List.getElem?_map, hx]; rfl
      obtain ⟨b, o, rfl, hbl, c0, c1, c2, c3⟩ := (Reads.of_own hownr).cell_at hxc
      have hput := take_put HM.out.sorted HM.out.pos HM.out.ok hx
      have HP := Lib.hid hput
      have HXM := Lib.hid (List.mem_of_getElem? hx)
      have HW := Lib.hid hownr
      have i0 : (0 : Int) ≤ (k : Int) := by omega
      have i1 : (k : Int) < ((M.map (·.1)).length : Int) := by rw [List.length_map]; omega
      have i2 : k < (M.map (·.1)).length := by rw [List.length_map]; omega
      clear hx hxc hput hownr
      go_wp2_with fail
      have hB := Blk.new wr #[.string x.1.key, .int .u64 x.1.seq, .string x.1.val, .bool x.1.gone] 25
      obtain ⟨y0, y1, y2, y3⟩ := cell4 hB
      refine region_plan (S := fun w' => w'.cell? ⟨wr.heap.size, 0, none⟩ = some (.string x.1.key) ∧ w'.cell? ⟨wr.heap.size, 1, none⟩ = some (.int .u64 x.1.seq) ∧ w'.cell? ⟨wr.heap.size, 2, none⟩ = some (.string x.1.val) ∧ w'.cell? ⟨wr.heap.size, 3, none⟩ = some (.bool x.1.gone))
        ((0, true) :: (1, true) :: (2, true) :: (3, true) :: (4, false) :: (5, false) :: [])
        (by kernel_rfl) (by kernel_rfl) (by kernel_rfl) (by kernel_rfl) (fun _ _ _ dst _ h => by cases dst <;> exact h) ⟨y0, y1, y2, y3⟩ (fun hH => ?_)
      (repeat (first | (refine plan_take (v := ?_) (by (simp only [List.getElem?_toArray, List.getElem?_cons_succ, List.getElem?_cons_zero]; exact rfl)) (by rfl) ?_ ?_; rotate_left; (focus (intro wS hS; (try dsimp only at hS); go_split_ands; go_simp; (try with_reducible rfl))); simp only [Act.put, List.setIfInBounds_toArray, List.set_cons_zero, List.set_cons_succ]) | (refine plan_skip (by (simp only [List.getElem?_toArray, List.getElem?_cons_succ, List.getElem?_cons_zero]; exact rfl)) (by rfl) ?_; simp only [Act.put, List.setIfInBounds_toArray, List.set_cons_zero, List.set_cons_succ])))
      (refine plan_solo (by (simp only [List.getElem?_toArray, List.getElem?_cons_succ, List.getElem?_cons_zero]; exact rfl)) (by rfl) ?_; intro K hK; go_simp)
      refine (height_model (HM.out.kept (hbr.trans (((Below.refl _ _).alloc (Nat.le_refl _) _).drew.mono hbr.size))) HXM.out).mono ?_
      rintro e w5 ⟨rfl, hb5⟩
      refine hK.out _ _ ⟨cell_keep hb5 y0, cell_keep hb5 y1, cell_keep hb5 y2, cell_keep hb5 y3⟩ (fun hH => ?_)
      clear hK K
      try simp only [Act.put, List.setIfInBounds_toArray, List.set_cons_zero, List.set_cons_succ]
      have hbw5 : Below wr.heap.size wr w5 := ((Below.refl _ _).alloc (Nat.le_refl _) _).drew.trans (hb5.mono (by simp))
      (refine plan_solo (by (simp only [List.getElem?_toArray, List.getElem?_cons_succ, List.getElem?_cons_zero]; exact rfl)) (by rfl) ?_; intro K hK; go_simp)
      refine (put_model (hmr.kept hbw5) x.1 (x.2 : Int) (by rw [List.length_take]; omega)).mono ?_
      rintro e w6 ⟨F6, rfl, hm6, hF6, ho6⟩
      rw [HP.out] at hm6 ⊢
      have hB6 := ((hB.drew).kept hb5).only ho6 (fun h => Nat.lt_irrefl _ (hmr.lt _ h))
      obtain ⟨z0, z1, z2, z3⟩ := cell4 hB6
      refine hK.out _ _ ⟨z0, z1, z2, z3⟩ (fun hH => ?_)
      clear hK K
      refine plan_nil ?_
      have hrow := own_only (own_kept HW.out hbw5) (F := fun j => (Value.slice (some ⟨b, o, none⟩) (M.map (·.1)).length cap).ownBlock = some j) (ho6.mono fun j _ hj hv => (hFr j hj).2 hv) (fun g hg => hg)
      have hlt5 : ∀ j, (Value.slice (some ⟨b, o, none⟩) (M.map (·.1)).length cap).ownBlock = some j → j < w5.heap.size := fun j hj => ((own_kept HW.out hbw5).lt j hj).2
      have hsz5 := hbw5.size
      have hF7 : ∀ j, F6 j → w.heap.size ≤ j ∧ (Value.slice (some ⟨b, o, none⟩) (M.map (·.1)).length cap).ownBlock ≠ some j := fun j hj => (hF6 j hj).elim (hFr j) (fun h => ⟨Nat.le_trans hbr.size (Nat.le_trans hsz5 h), fun e => by have := hlt5 j e; omega⟩)
      have hb7 : Below w.heap.size w w6 := (hbr.trans (hbw5.mono hbr.size)).trans (ho6.below (Nat.le_trans hbr.size hsz5) (fun j hj => (hFr j hj).1))
      clear hlt5 HW
      go_wp2_with fail
      go_roundw
      case rel => exact ⟨k + 1, F6, by omega, by go_num, hm6, hF7, hrow, hb7⟩
      case measure => simp [intOf]; omega
    · obtain rfl : k = M.length := by omega
      go_wp2_with fail
      go_ret
      rw [List.take_length] at hmr
      exact ⟨_, F', rfl, hmr, fun j hj => (hFr j hj).1, hbr⟩
end Go.Proofs.Ytbcaiegglbdonaa
