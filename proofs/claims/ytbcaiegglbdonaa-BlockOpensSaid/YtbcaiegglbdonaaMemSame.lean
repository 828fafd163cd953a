/-
  The laws' 'same' of two slices of cells.
-/
import Derived.Test.YtbcaiegglbdonaaMemCells
namespace Go.Proofs.Ytbcaiegglbdonaa
open Go.RowKit

def SameCRel (w : World) (l1 l2 : List Cell) (i : Value) (wr : World) : Prop := ∃ k : Nat, k ≤ l1.length ∧ i = .int .i64 k ∧ l1.take k = l2.take k ∧ Below w.heap.size w wr
set_option maxRecDepth 100000 in
set_option maxHeartbeats 1000000 in
theorem same_spec {w : World} {v1 v2 : Value} {l1 l2 : List Cell} (h1 : Reads w v1 l1.length 4 (cellVals l1)) (h2 : Reads w v2 l2.length 4 (cellVals l2)) :
    Calls Try.prog 27 #[v1, v2] w fun e w' => e = .returned (.bool (decide (l1 = l2))) ∧ Below w.heap.size w w' := by
  obtain ⟨A1, c1, rfl⟩ := h1.form
  obtain ⟨A2, c2, rfl⟩ := h2.form
  have hm1 := h1.2.1
  have hm2 := h2.2.1
  have H1 := Lib.hid h1
  have H2 := Lib.hid h2
  clear h1 h2
  by_cases hl : l1.length = l2.length
  · have hlb : ((l1.length : Int) != (l2.length : Int)) = false := by simp [hl]
    have HL := Lib.hid hl
    clear hl
    go_enter Try.func27, Try.ntmps27
    go_wp2
    go_loopw [13] (SameCRel w l1 l2) (fun i _ => l1.length - (intOf i).toNat)
    case atStart => exact ⟨0, by omega, rfl, rfl, Below.refl _ _⟩
    case round =>
      obtain ⟨k, hk, rfl, heq, hbel⟩ := hrel
      by_cases hlt : k < l1.length
      · obtain ⟨x, hx⟩ : ∃ x, l1[k]? = some x := ⟨_, List.getElem?_eq_getElem hlt⟩
        obtain ⟨y, hy⟩ : ∃ y, l2[k]? = some y := ⟨_, List.getElem?_eq_getElem (by have := HL.out; omega)⟩
        obtain ⟨b1, o1, rfl, g1, p0, p1, p2, p3⟩ := (H1.out.kept hbel).cell_at hx
        obtain ⟨b2, o2, rfl, g2, q0, q1, q2, q3⟩ := (H2.out.kept hbel).cell_at hy
        have i1 : (k : Int) < (l1.length : Int) := by omega
        have i2 : (k : Int) < (l2.length : Int) := by have := HL.out; omega
        have i0 : (0 : Int) ≤ (k : Int) := by omega
        have HX := Lib.hid hx
        have HY := Lib.hid hy
        have HE := Lib.hid heq
        clear hx hy heq
        have hne := cell_neq x y
        by_cases hxy : x = y
        · have hb : decide (x = y) = true := by simp [hxy]
          rw [hb] at hne
          have HXY := Lib.hid hxy
          clear hxy hb
          go_wp2
          go_quiet (fail)
          go_wp2
          go_roundw
          case rel => exact ⟨k + 1, by omega, by go_num, same_step HE.out HX.out HY.out HXY.out, below_drewN hbel nq⟩
          case measure => simp [intOf]; omega
        · have hb : decide (x = y) = false := by simp [hxy]
          rw [hb] at hne
          have hnl : decide (l1 = l2) = false := by
            simp; rintro rfl; exact hxy (Option.some.inj (HX.out.symm.trans HY.out))
          have HN := Lib.hid hnl
          clear hnl hxy hb
          go_wp2
          go_quiet (fail)
          go_wp2
          go_ret
          exact ⟨ret_bool HN.out.symm, below_drewN hbel nq⟩
      · obtain rfl : k = l1.length := by omega
        have heq' : decide (l1 = l2) = true := by
          simp
          have := heq
          rwa [List.take_length, HL.out, List.take_length] at this
        have HN := Lib.hid heq'
        clear heq heq'
        go_wp2
        go_ret
        exact ⟨ret_bool HN.out.symm, hbel⟩
  · have hlb : ((l1.length : Int) != (l2.length : Int)) = true := by simp; omega
    have hne : decide (l1 = l2) = false := by simp; rintro rfl; exact hl rfl
    rw [hne]
    clear hne hl
    go_enter Try.func27, Try.ntmps27
    go_wp2
    go_ret
    exact ⟨rfl, Below.refl _ _⟩

end Go.Proofs.Ytbcaiegglbdonaa
