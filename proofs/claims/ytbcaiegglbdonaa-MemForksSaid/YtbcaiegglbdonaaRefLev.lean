/-
  The reference's Levels.
-/
import Derived.Test.YtbcaiegglbdonaaRefCells
import Derived.Test.YtbcaiegglbdonaaMemHeights
namespace Go.Proofs.Ytbcaiegglbdonaa
open Go.RowKit

def cntH (H : List Int) (j : Nat) : Int := ((H.filter fun h => decide ((j : Int) + 1 ≤ h)).length : Int)
def LevOut (w : World) (H : List Int) (out k : Value) (wr : World) : Prop :=
  ∃ j : Nat, j ≤ 12 ∧ k = .int .i64 ((j : Int) + 1) ∧ wr.ownsRow w.heap.size 3 1 out (levUpto (cntH H) j).length (ints (levUpto (cntH H) j)) ∧ Below w.heap.size w wr
def LevIn (w : World) (H : List Int) (j : Nat) (n i : Value) (wr : World) : Prop :=
  ∃ m : Nat, m ≤ H.length ∧ i = .int .i64 m ∧ n = .int .i64 (cntH (H.take m) j) ∧ wr = w
theorem cntH_le (H : List Int) (j : Nat) : 0 ≤ cntH H j ∧ cntH H j ≤ H.length := by
  unfold cntH
  have := List.length_filter_le (fun h => decide ((j : Int) + 1 ≤ h)) H
  omega
theorem cntH_snoc {H : List Int} {m : Nat} {x : Int} (hx : H[m]? = some x) (j : Nat) : cntH (H.take (m + 1)) j = cntH (H.take m) j + if (j : Int) + 1 ≤ x then 1 else 0 := by
  unfold cntH
  rw [List.take_add_one, hx, List.filter_append]
  by_cases h : (j : Int) + 1 ≤ x <;> simp [h]

set_option maxRecDepth 100000 in
set_option maxHeartbeats 1000000 in
theorem ref_levels {w : World} {r : Nat} {vc vh : Value} {H : List Int} (hr : Blk w r #[vc, vh] 49) (hh : Reads w vh H.length 1 (ints H)) (hl : H.length ≤ 4611686018427387904) :
    Calls Try.prog 82 #[.pointer (some ⟨r, 0, none⟩)] w (LevPost w (levUpto (cntH H) 12)) := by
  obtain ⟨A, cap, rfl⟩ := hh.form
  obtain ⟨i0, hi, hz0, hz1, hz2⟩ := info_parts Try.infoInt
  have HH := Lib.hid hh
  clear hh
  go_enter Try.func82, Try.ntmps82
  go_wp2
  go_loopw [3, 4] (LevOut w H) (fun _ k _ => 13 - (intOf k).toNat)
  case atStart => exact ⟨0, by omega, rfl, World.ownsRow_nil _ _ _ _, Below.refl _ _⟩
  case round =>
    obtain ⟨j, hj, rfl, hown, hb⟩ := hrel
    have hr1 : wr.cell? ⟨r, 1, none⟩ = some (.slice A H.length cap) := (hr.kept hb).cell 1 _ rfl
    have hrl := (hr.kept hb).lt
    by_cases hlt : j < 12
    · have l1 : (j : Int) + 1 ≤ 12 := by omega
      go_wp2
      go_loopw [5, 17] (LevIn wr H j) (fun _ i _ => H.length - (intOf i).toNat)
      case atStart => exact ⟨0, by omega, rfl, rfl, rfl⟩
      case round =>
        obtain ⟨m, hm, rfl, rfl, hw⟩ := hrel
        subst hw
        by_cases hml : m < H.length
        · obtain ⟨x, hx⟩ : ∃ x, H[m]? = some x := ⟨_, List.getElem?_eq_getElem hml⟩
          obtain ⟨b, o, rfl, hbl, c0⟩ := (HH.out.kept hb).int_at hx
          have j0 : (0 : Int) ≤ (m : Int) := by omega
          have j1 : (m : Int) < (H.length : Int) := by omega
          obtain ⟨z0, z1⟩ := cntH_le (H.take m) j
          have z2 : (H.take m).length ≤ m := by rw [List.length_take]; omega
          have hs := cntH_snoc hx j
          have w1 : IntKind.i64.wrap (cntH (H.take m) j + 1) = cntH (H.take m) j + 1 := IntWalk.i64_in _ (by omega)
          have HX := Lib.hid hx
          clear hx
          by_cases hge : (j : Int) + 1 ≤ x
          · have HS := Lib.hid (show cntH (H.take (m + 1)) j = cntH (H.take m) j + 1 by rw [hs, if_pos hge])
            clear hs
            go_wp2
            go_roundw
            case rel => exact ⟨m + 1, by omega, by go_num, by rw [HS.out], rfl⟩
            case measure => simp [intOf]; omega
          · have HS := Lib.hid (show cntH (H.take (m + 1)) j = cntH (H.take m) j by rw [hs, if_neg hge]; omega)
            clear hs
            go_wp2
            go_roundw
            case rel => exact ⟨m + 1, by omega, by go_num, by rw [HS.out], rfl⟩
            case measure => simp [intOf]; omega
        · obtain rfl : m = H.length := by omega
          rw [List.take_length]
          have hln := levUpto_len (cntH H) j
          by_cases hpos : 0 < cntH H j
          · have q3 : (levUpto (cntH H) j).length + 1 ≤ maxLen := by unfold maxLen; omega
            have q4 : ((levUpto (cntH H) j).length + 1) * 8 ≤ 140737488355328 := by omega
            have q5 := hb.size
            have q6 : w.heap.size ≤ (wr.alloc (.cells #[.int .i64 (cntH H j)] 3)).heap.size := by simp only [World.size_alloc]; omega
            go_wp2_with (at_builtin; refine wpList_append_own _ rfl _ _ 42 rfl w.heap.size 3 i0 (.int .i64 0) 1 8 Try.underlying42 hi hz0 hz1 hz2 rfl (by decide) _ _ _ rfl (hown.alloc _) ⟨wr.heap.size, 0, none⟩ 1 1 [.int .i64 (cntH H j)] rfl rfl (cell_one_new _ _ _) (by simp [Value.oneCell']) q3 q4 q6 ?_)
            intro v' w1 hown1 hgr _
            go_wp2
            go_roundw
            case rel => exact ⟨j + 1, by omega, by go_num, own_append hpos hown1, (hb.alloc hb.size _).grown hgr q6 (fun j hj => (hown.lt j hj).1)⟩
            case measure => simp [intOf]; omega
          · go_wp2
            go_roundw
            case rel => exact ⟨j + 1, by omega, by go_num, by rw [levUpto_succ, if_neg hpos]; exact hown, hb⟩
            case measure => simp [intOf]; omega
    · obtain rfl : j = 12 := by omega
      go_wp2
      go_ret
      exact ⟨_, rfl, hown, hb⟩

end Go.Proofs.Ytbcaiegglbdonaa
