/-
  The block's Scan; slices.Clone of cells.
-/
import Derived.Test.YtbcaiegglbdonaaReader3
import Derived.Test.YtbcaiegglbdonaaMemLevels
import Derived.Lib.SliceRun
namespace Go.Proofs.Ytbcaiegglbdonaa
open Go Go.RowKit

set_option maxRecDepth 100000 in
theorem blk_scan (p : Value) (s t : ByteArray) (w : World) (hp : ∃ q, p = .pointer q) :
    Calls Try.prog 52 #[p, .string s, .string t] w fun e w' => e = .returned (.func (.func 106) #[] #[.pointer (some ⟨w.heap.size, 0, none⟩), .pointer (some ⟨w.heap.size + 1, 0, none⟩), .pointer (some ⟨w.heap.size + 2, 0, none⟩)]) ∧
      Blk w' w.heap.size #[p] 68 ∧ Blk w' (w.heap.size + 1) #[.string s] 9 ∧ Blk w' (w.heap.size + 2) #[.string t] 9 ∧ Below w.heap.size w w' := by
  obtain ⟨q, rfl⟩ := hp
  go_enter Try.func52, Try.ntmps52
  go_wp2
  go_ret
  refine ⟨rfl, ?_, ?_, ?_, (((Below.refl _ _).alloc (Nat.le_refl _) _).alloc (by simp) _).alloc (by simp; omega) _⟩
  · exact ((Blk.new w _ _).alloc _).alloc _
  · have := (Blk.new (w.alloc (.cells #[.pointer q] 68)) #[.string s] 9).alloc (.cells #[.string t] 9)
    simpa using this
  · have := Blk.new ((w.alloc (.cells #[.pointer q] 68)).alloc (.cells #[.string s] 9)) #[.string t] 9
    simpa using this
set_option maxRecDepth 100000 in
set_option maxHeartbeats 1000000 in
theorem clone_cells {w : World} {B : Nat} {v : Value} {l : List Cell} (h : w.ownsRow B 25 4 v l.length (cellVals l)) (hl : l.length ≤ 2932031007402) :
    Calls Try.prog 102 #[v] w (CellsPost w l) := by
  obtain ⟨A, cap, rfl⟩ := (Reads.of_own h).form
  obtain ⟨i0, hi, hz0, hz1, hz2⟩ := info_parts Try.infoCell
  have H := Lib.hid h
  have hnil := fun W => Lib.run_eql_slice_nil (P := Try.prog) W 22 25 A l.length cap 0 0 Try.underlying22
  cases A with
  | none =>
    have h0 : l = [] := by
      rcases h.2 with ⟨_, h1⟩ | ⟨g, cap', cur, h1, _⟩
      · exact List.eq_nil_of_length_eq_zero h1
      · cases h1
    subst h0
    clear h hnil
    have hnil0 := fun W => Lib.run_eql_slice_nil (P := Try.prog) W 22 25 none 0 cap 0 0 Try.underlying22
    go_enter Try.func102, Try.ntmps102
    go_wp2_with fail
    go_ret
    exact ⟨_, rfl, World.ownsRow_nil _ _ _ _, Below.refl _ _⟩
  | some a =>
    have oA := World.ownsRow_made (base := w.heap.size) (e := 25) (size := 4) w #[] 0 (Nat.le_refl _) (by decide) rfl
    have p1 : 0 + l.length ≤ maxLen := by unfold maxLen; omega
    have p2 : (0 + l.length) * 48 ≤ 140737488355328 := by omega
    have p3 : w.heap.size ≤ (w.alloc (.cells #[] 25)).heap.size := by simp
    clear h
    go_enter Try.func102, Try.ntmps102
    go_wp2_with (at_builtin; refine wpList_append_any rfl _ _ 22 rfl w.heap.size 25 i0 cellZ 4 48 Try.underlying22 hi hz0 hz1 hz2 rfl (by decide) w.heap.size 0 0 [] rfl oA l.length (cellVals l) ?hl ?hx ?h1 p1 p2 p3 ?_)
    case hl => first | exact cellVals_length l | simp [cellVals_length]
    case h1 => exact cellVals_one l
    case hx => first | exact src_all (H.out.alloc _) | (go_simp; simpa using src_all (H.out.alloc (.cells #[] 25)))
    intro g1 c1 w2 own1 hgr hg1
    have own1 : w2.ownsRow w.heap.size 25 4 (.slice (some ⟨g1, 0, none⟩) l.length c1) l.length (cellVals l) := by simpa using own1
    have b2 : Below w.heap.size w w2 := ((Below.refl _ _).alloc (Nat.le_refl _) _).grown hgr p3 (fun j hj => by cases hj; exact Nat.le_refl _)
    have HO := Lib.hid own1
    clear own1 hgr hg1 oA
    go_wp2_with fail
    go_ret
    exact ⟨_, rfl, HO.out, b2⟩
end Go.Proofs.Ytbcaiegglbdonaa
