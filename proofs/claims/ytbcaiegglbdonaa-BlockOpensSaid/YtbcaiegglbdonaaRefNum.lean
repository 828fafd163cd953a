/-
  The reference's Varint and Number.
-/
import Derived.Test.YtbcaiegglbdonaaCrc
namespace Go.Proofs.Ytbcaiegglbdonaa
open Go Go.RowKit

theorem varN_mod {m : Nat} : ((m : Int) % 128 + 128) = ((UInt8.ofNat (m % 128 + 128)).toNat : Int) := by
  simp only [UInt8.toNat_ofNat']
  omega
set_option maxRecDepth 100000 in
set_option maxHeartbeats 1000000 in
theorem ref_varint (n : Nat) (hn : n < 18446744073709551616) (w : World) :
    Calls Try.prog 94 #[.int .u64 n] w fun e w' => e = .returned (.string ⟨(varN n).toArray⟩) ∧ Below w.heap.size w w' := by
  obtain ⟨i0, hi, hz0, hz1, hz2⟩ := info_parts Try.infoByte
  have HL := Lib.hid (varN_len 9 n (by omega))
  go_enter Try.func94, Try.ntmps94
  go_wp2_with fail
  go_loopw [0, 3] (VarRel w n) (fun t _ _ => (intOf t).toNat)
  case atStart => exact ⟨n, [], rfl, hn, rfl, World.ownsRow_nil _ _ _ _, Below.refl _ _⟩
  case round =>
    obtain ⟨m, pre, hpre, hm, rfl, hown, hb⟩ := hrel
    have hlen := congrArg List.length hpre
    rw [List.length_append] at hlen
    have h10 := HL.out
    have q2 : w.heap.size ≤ wr.heap.size + 1 := by have := hb.size; omega
    by_cases hlt : m < 128
    · have hle : ¬ (128 : Int) ≤ (m : Int) := by omega
      have HV := Lib.hid (show (m : Int) = ((UInt8.ofNat m).toNat : Int) by simp only [UInt8.toNat_ofNat']; omega)
      have hv1 := varN_lt hlt
      rw [hv1] at hpre hlen
      simp only [List.length_cons, List.length_nil] at hlen
      have p1 : pre.length + 1 ≤ maxLen := by unfold maxLen; omega
      have p2 : (pre.length + 1) * 1 ≤ 140737488355328 := by omega
      have HP := Lib.hid hpre
      have HLN := Lib.hid hlen
      clear hv1 hpre hlen h10
      go_wp2_with (at_builtin; refine wpList_append_row rfl _ _ 74 rfl w.heap.size 5 i0 (.int .u8 0) 1 1 Try.underlying74 hi hz0 hz1 hz2 rfl (by decide) _ _ _ rfl (hown.alloc _) ⟨wr.heap.size, 0, none⟩ 1 1 [.int .u8 (m : Int)] rfl rfl (cell_one_new _ _ _) (by simp [Value.oneCell']) p1 p2 (by rw [World.size_alloc]; exact q2) ?_)
      intro v' w1 own1 hgr hfr
      have hb1 : Below w.heap.size w w1 := (hb.alloc hb.size _).grown hgr (by rw [World.size_alloc]; exact q2) (fun j hj => (hown.lt j hj).1)
      rw [HV.out] at own1
      have own2 : w1.ownsRow w.heap.size 5 1 v' (pre.length + 1) (bv (varN n)) := by rw [← HP.out, bv_append]; exact own1
      have hcv := conv_own own2
      clear own1 own2 hgr hfr
      go_wp2_with fail
      go_ret
      exact ⟨rfl, hb1⟩
    · have hle : (128 : Int) ≤ (m : Int) := by omega
      have HV := Lib.hid (varN_mod (m := m))
      have hv1 := varN_ge hlt
      rw [hv1] at hpre hlen
      simp only [List.length_cons] at hlen
      have p1 : pre.length + 1 ≤ maxLen := by unfold maxLen; omega
      have p2 : (pre.length + 1) * 1 ≤ 140737488355328 := by omega
      have HP := Lib.hid hpre
      clear hv1 hpre hlen h10
      go_wp2_with (at_builtin; refine wpList_append_row rfl _ _ 74 rfl w.heap.size 5 i0 (.int .u8 0) 1 1 Try.underlying74 hi hz0 hz1 hz2 rfl (by decide) _ _ _ rfl (hown.alloc _) ⟨wr.heap.size, 0, none⟩ 1 1 [.int .u8 ((m : Int) % 128 + 128)] rfl rfl (cell_one_new _ _ _) (by simp [Value.oneCell']) p1 p2 (by rw [World.size_alloc]; exact q2) ?_)
      intro v' w1 own1 hgr hfr
      have hb1 : Below w.heap.size w w1 := (hb.alloc hb.size _).grown hgr (by rw [World.size_alloc]; exact q2) (fun j hj => (hown.lt j hj).1)
      rw [HV.out] at own1
      go_wp2_with fail
      go_roundw
      case rel =>
        refine ⟨m / 128, pre ++ [UInt8.ofNat (m % 128 + 128)], by rw [← HP.out]; simp, by omega, ?_, ?_, hb1⟩
        · rfl
        · rw [bv_append, List.length_append]; exact own1
      case measure =>
        show ((m : Int) / 128).toNat < (m : Int).toNat
        omega
set_option maxRecDepth 100000 in
set_option maxHeartbeats 1000000 in
theorem ref_number4 (n : Nat) (w : World) :
    Calls Try.prog 95 #[.int .u64 n, .int .i64 4] w fun e w' => e = .returned (.string ⟨(be4 n).toArray⟩) ∧ Below w.heap.size w w' := by
  obtain ⟨i0, hi, hz0, hz1, hz2⟩ := info_parts Try.infoByte
  have ow0 := World.ownsRow_nil w w.heap.size 5 1
  have hb0 : Below w.heap.size w w := Below.refl _ _
  go_enter Try.func95, Try.ntmps95
  go_wp2_with fail
  refine wp_loop_rounds 6 ?_
  rw [rounds_succ]
  go_wp2_with (at_builtin; refine wpList_append_row rfl _ _ 74 rfl w.heap.size 5 i0 (.int .u8 0) 1 1 Try.underlying74 hi hz0 hz1 hz2 rfl (by decide) _ 0 _ rfl (ow0.alloc _) ⟨w.heap.size, 0, none⟩ 1 1 [.int .u8 ((n : Int) / 16777216 % 256)] rfl rfl (cell_one_new _ _ _) (by simp [Value.oneCell']) (by decide) (by decide) (by rw [World.size_alloc]; have := hb0.size; omega) ?_)
  intro v1 w1 ow1 hgr hfr
  have hb1 : Below w.heap.size w w1 := (hb0.alloc hb0.size _).grown hgr (by rw [World.size_alloc]; have := hb0.size; omega) (fun j hj => (ow0.lt j hj).1)
  clear hgr hfr
  go_wp2_with fail
  rw [rounds_succ]
  go_wp2_with (at_builtin; refine wpList_append_row rfl _ _ 74 rfl w.heap.size 5 i0 (.int .u8 0) 1 1 Try.underlying74 hi hz0 hz1 hz2 rfl (by decide) _ 1 _ rfl (ow1.alloc _) ⟨w1.heap.size, 0, none⟩ 1 1 [.int .u8 ((n : Int) / 65536 % 256)] rfl rfl (cell_one_new _ _ _) (by simp [Value.oneCell']) (by decide) (by decide) (by rw [World.size_alloc]; have := hb1.size; omega) ?_)
  intro v2 w2 ow2 hgr hfr
  have hb2 : Below w.heap.size w w2 := (hb1.alloc hb1.size _).grown hgr (by rw [World.size_alloc]; have := hb1.size; omega) (fun j hj => (ow1.lt j hj).1)
  clear hgr hfr
  go_wp2_with fail
  rw [rounds_succ]
  go_wp2_with (at_builtin; refine wpList_append_row rfl _ _ 74 rfl w.heap.size 5 i0 (.int .u8 0) 1 1 Try.underlying74 hi hz0 hz1 hz2 rfl (by decide) _ 2 _ rfl (ow2.alloc _) ⟨w2.heap.size, 0, none⟩ 1 1 [.int .u8 ((n : Int) / 256 % 256)] rfl rfl (cell_one_new _ _ _) (by simp [Value.oneCell']) (by decide) (by decide) (by rw [World.size_alloc]; have := hb2.size; omega) ?_)
  intro v3 w3 ow3 hgr hfr
  have hb3 : Below w.heap.size w w3 := (hb2.alloc hb2.size _).grown hgr (by rw [World.size_alloc]; have := hb2.size; omega) (fun j hj => (ow2.lt j hj).1)
  clear hgr hfr
  go_wp2_with fail
  rw [rounds_succ]
  go_wp2_with (at_builtin; refine wpList_append_row rfl _ _ 74 rfl w.heap.size 5 i0 (.int .u8 0) 1 1 Try.underlying74 hi hz0 hz1 hz2 rfl (by decide) _ 3 _ rfl (ow3.alloc _) ⟨w3.heap.size, 0, none⟩ 1 1 [.int .u8 ((n : Int) % 256)] rfl rfl (cell_one_new _ _ _) (by simp [Value.oneCell']) (by decide) (by decide) (by rw [World.size_alloc]; have := hb3.size; omega) ?_)
  intro v4 w4 ow4 hgr hfr
  have hb4 : Below w.heap.size w w4 := (hb3.alloc hb3.size _).grown hgr (by rw [World.size_alloc]; have := hb3.size; omega) (fun j hj => (ow3.lt j hj).1)
  clear hgr hfr
  go_wp2_with fail
  have own2 : w4.ownsRow w.heap.size 5 1 v4 4 (bv (be4 n)) := by
    have e : bv (be4 n) = [.int .u8 ((n : Int) / 16777216 % 256), .int .u8 ((n : Int) / 65536 % 256), .int .u8 ((n : Int) / 256 % 256), .int .u8 ((n : Int) % 256)] := by simp [bv, be4, UInt8.toNat_ofNat']
    rw [e]
    simpa using ow4
  have hcv := conv_own own2
  clear own2 ow0 ow1 ow2 ow3 ow4
  rw [rounds_succ]
  go_wp2_with fail
  go_ret
  exact ⟨rfl, hb4⟩
set_option maxRecDepth 100000 in
set_option maxHeartbeats 1000000 in
theorem ref_number2 (n : Nat) (w : World) :
    Calls Try.prog 95 #[.int .u64 n, .int .i64 2] w fun e w' => e = .returned (.string ⟨(be2 n).toArray⟩) ∧ Below w.heap.size w w' := by
  obtain ⟨i0, hi, hz0, hz1, hz2⟩ := info_parts Try.infoByte
  have ow0 := World.ownsRow_nil w w.heap.size 5 1
  have hb0 : Below w.heap.size w w := Below.refl _ _
  go_enter Try.func95, Try.ntmps95
  go_wp2_with fail
  refine wp_loop_rounds 4 ?_
  rw [rounds_succ]
  go_wp2_with (at_builtin; refine wpList_append_row rfl _ _ 74 rfl w.heap.size 5 i0 (.int .u8 0) 1 1 Try.underlying74 hi hz0 hz1 hz2 rfl (by decide) _ 0 _ rfl (ow0.alloc _) ⟨w.heap.size, 0, none⟩ 1 1 [.int .u8 ((n : Int) / 256 % 256)] rfl rfl (cell_one_new _ _ _) (by simp [Value.oneCell']) (by decide) (by decide) (by rw [World.size_alloc]; have := hb0.size; omega) ?_)
  intro v1 w1 ow1 hgr hfr
  have hb1 : Below w.heap.size w w1 := (hb0.alloc hb0.size _).grown hgr (by rw [World.size_alloc]; have := hb0.size; omega) (fun j hj => (ow0.lt j hj).1)
  clear hgr hfr
  go_wp2_with fail
  rw [rounds_succ]
  go_wp2_with (at_builtin; refine wpList_append_row rfl _ _ 74 rfl w.heap.size 5 i0 (.int .u8 0) 1 1 Try.underlying74 hi hz0 hz1 hz2 rfl (by decide) _ 1 _ rfl (ow1.alloc _) ⟨w1.heap.size, 0, none⟩ 1 1 [.int .u8 ((n : Int) % 256)] rfl rfl (cell_one_new _ _ _) (by simp [Value.oneCell']) (by decide) (by decide) (by rw [World.size_alloc]; have := hb1.size; omega) ?_)
  intro v2 w2 ow2 hgr hfr
  have hb2 : Below w.heap.size w w2 := (hb1.alloc hb1.size _).grown hgr (by rw [World.size_alloc]; have := hb1.size; omega) (fun j hj => (ow1.lt j hj).1)
  clear hgr hfr
  go_wp2_with fail
  have own2 : w2.ownsRow w.heap.size 5 1 v2 2 (bv (be2 n)) := by
    have e : bv (be2 n) = [.int .u8 ((n : Int) / 256 % 256), .int .u8 ((n : Int) % 256)] := by simp [bv, be2, UInt8.toNat_ofNat']
    rw [e]
    simpa using ow2
  have hcv := conv_own own2
  clear own2 ow0 ow1 ow2
  rw [rounds_succ]
  go_wp2_with fail
  go_ret
  exact ⟨rfl, hb2⟩
end Go.Proofs.Ytbcaiegglbdonaa
