/-
  mem.Put where it refuses.
-/
import Derived.Test.YtbcaiegglbdonaaMemPut
namespace Go.Proofs.Ytbcaiegglbdonaa
open Go.RowKit

set_option maxRecDepth 100000 in
set_option maxHeartbeats 1000000 in
theorem put_bad {w : World} {a : Nat} {p : Addr} (hm0 : w.cell? ⟨a, 0, none⟩ = some (.pointer (some p))) (c : Cell) (hc : checkN c = 60) (h : Int) :
    Calls Try.prog 22 #[.pointer (some ⟨a, 0, none⟩), .agg #[.string c.key, .int .u64 c.seq, .string c.val, .bool c.gone], .int .i64 h] w fun e w' => e = .returned (.int .i64 60) ∧ Below w.heap.size w w' := by
  have ha := World.block_lt_of_cell? w _ hm0
  have hcheck := fun W => check_spec c W
  rw [hc] at hcheck
  have HC := Lib.hid hcheck
  clear hcheck hc
  go_enter Try.func22, Try.ntmps22
  go_wp2_with (first | (go_at_call 73; refine (made_yes (p := p) ?_).mono ?_; (go_simp); rintro e w' ⟨rfl, rfl⟩) | (go_at_call 74; refine (HC.out _).mono ?_; rintro e w1 ⟨rfl, hb1⟩))
  go_ret
  exact ⟨rfl, ((Below.refl _ _).alloc (Nat.le_refl _) _).trans (hb1.mono (by simp))⟩

set_option maxRecDepth 100000 in
set_option maxHeartbeats 1000000 in
theorem put_height {w : World} {a : Nat} {p : Addr} (hm0 : w.cell? ⟨a, 0, none⟩ = some (.pointer (some p))) (c : Cell) (hc : checkN c = 0) (h : Int) (hh : h < 1 ∨ 12 < h) :
    Calls Try.prog 22 #[.pointer (some ⟨a, 0, none⟩), .agg #[.string c.key, .int .u64 c.seq, .string c.val, .bool c.gone], .int .i64 h] w fun e w' => e = .returned (.int .i64 1) ∧ Below w.heap.size w w' := by
  have ha := World.block_lt_of_cell? w _ hm0
  have hcheck := fun W => check_spec c W
  rw [hc] at hcheck
  have HC := Lib.hid hcheck
  clear hcheck hc
  rcases hh with hh | hh
  all_goals
    go_enter Try.func22, Try.ntmps22
    go_wp2_with (first | (go_at_call 73; refine (made_yes (p := p) ?_).mono ?_; (go_simp); rintro e w' ⟨rfl, rfl⟩) | (go_at_call 74; refine (HC.out _).mono ?_; rintro e w1 ⟨rfl, hb1⟩))
    go_ret
    exact ⟨rfl, ((Below.refl _ _).alloc (Nat.le_refl _) _).trans (hb1.mono (by simp))⟩

set_option maxRecDepth 100000 in
set_option maxHeartbeats 1000000 in
theorem put_zero {w : World} {a : Nat} (hm0 : w.cell? ⟨a, 0, none⟩ = some (.pointer none)) (c : Cell) (h : Int) :
    Calls Try.prog 22 #[.pointer (some ⟨a, 0, none⟩), .agg #[.string c.key, .int .u64 c.seq, .string c.val, .bool c.gone], .int .i64 h] w fun e w' => e = .returned (.int .i64 6) ∧ Below w.heap.size w w' := by
  have ha := World.block_lt_of_cell? w _ hm0
  go_enter Try.func22, Try.ntmps22
  go_wp2_with (first | (go_at_call 73; refine (made_zero ?_).mono ?_; (go_simp); rintro e w' ⟨rfl, rfl⟩))
  go_ret
  exact ⟨rfl, (Below.refl _ _).alloc (Nat.le_refl _) _⟩
set_option maxRecDepth 100000 in
set_option maxHeartbeats 1000000 in
theorem put_nil (w : World) (c : Cell) (h : Int) :
    Calls Try.prog 22 #[.pointer none, .agg #[.string c.key, .int .u64 c.seq, .string c.val, .bool c.gone], .int .i64 h] w fun e w' => e = .returned (.int .i64 6) ∧ Below w.heap.size w w' := by
  go_enter Try.func22, Try.ntmps22
  go_wp2_with (first | (go_at_call 73; refine (made_nil _).mono ?_; rintro e w' ⟨rfl, rfl⟩))
  go_ret
  exact ⟨rfl, (Below.refl _ _).alloc (Nat.le_refl _) _⟩

set_option maxRecDepth 100000 in
set_option maxHeartbeats 1000000 in
theorem put_twice {w : World} {a hb : Nat} {A B : List Node} {n : Node} {sz : Int} (hs : Skip w a hb (A ++ n :: B) sz) (hh : ∀ n' ∈ A ++ n :: B, 1 ≤ n'.h) (c : Cell) (hc : checkN c = 0) (h : Int) (h1 : 1 ≤ h) (h12 : h ≤ 12)
    (hA : ∀ n ∈ A, lessC n.c c.key c.seq < 0) (hn : lessC n.c c.key c.seq = 0) (hB : ∀ n' ∈ B, 0 ≤ lessC n'.c c.key c.seq) :
    Calls Try.prog 22 #[.pointer (some ⟨a, 0, none⟩), .agg #[.string c.key, .int .u64 c.seq, .string c.val, .bool c.gone], .int .i64 h] w fun e w' => e = .returned (.int .i64 61) ∧ Below w.heap.size w w' := by
  have hm0 : w.cell? ⟨a, 0, none⟩ = some (.pointer (some ⟨hb, 0, none⟩)) := hs.mem.cell 0 _ rfl
  have ha : a < w.heap.size := hs.mem.lt
  obtain ⟨cp, fp, hbp, hfp⟩ := lastAt_blk hs (l := 0) (by omega)
  have hcn := hbp.cell 4 _ (nodeArr_get cp fp (i := 0) (by omega))
  have hpl := hbp.lt
  rw [hfp, nxt0 fun n' hn' => hh n' (by simp only [List.mem_append]; exact .inr hn')] at hcn
  clear hfp hbp
  have hout : outAgg hb A = .agg #[.pointer (some ⟨lastAt 0 hb A, 0, none⟩), .pointer (some ⟨lastAt 1 hb A, 0, none⟩), .pointer (some ⟨lastAt 2 hb A, 0, none⟩), .pointer (some ⟨lastAt 3 hb A, 0, none⟩), .pointer (some ⟨lastAt 4 hb A, 0, none⟩), .pointer (some ⟨lastAt 5 hb A, 0, none⟩), .pointer (some ⟨lastAt 6 hb A, 0, none⟩), .pointer (some ⟨lastAt 7 hb A, 0, none⟩), .pointer (some ⟨lastAt 8 hb A, 0, none⟩), .pointer (some ⟨lastAt 9 hb A, 0, none⟩), .pointer (some ⟨lastAt 10 hb A, 0, none⟩), .pointer (some ⟨lastAt 11 hb A, 0, none⟩)] := rfl
  have hahead := fun W hsk => @ahead_spec W a hb A (n :: B) sz hsk c.key c.seq hA (fun n' hn' => by
    rcases List.mem_cons.1 hn' with rfl | hn'
    · omega
    · exact hB n' hn')
  rw [hout] at hahead
  clear hout
  have HA := Lib.hid hahead
  clear hahead
  have hcheck := fun W => check_spec c W
  rw [hc] at hcheck
  have HC := Lib.hid hcheck
  clear hcheck hc
  have hcn' : w.cell? ⟨lastAt 0 hb A, 4, none⟩ = some (.pointer (some ⟨n.b, 0, none⟩)) := hcn
  have hnB := hs.nodes.at_
  have hneq : (cellCmp n.c.key n.c.seq c.key c.seq == 0) = true := by
    unfold lessC at hn
    simpa using hn
  clear hn
  have HN : ∀ w2, Below w.heap.size w w2 → w2.cell? ⟨lastAt 0 hb A, 4, none⟩ = some (.pointer (some ⟨n.b, 0, none⟩)) := fun w2 hb2 => (hb2.cell (p := ⟨lastAt 0 hb A, 4, none⟩) hpl).trans hcn'
  clear hcn hcn'
  have HN' := Lib.hid HN
  clear HN
  go_enter Try.func22, Try.ntmps22
  go_wp2_with (first | (go_at_call 73; refine (made_yes (p := ⟨hb, 0, none⟩) ?_).mono ?_; (go_simp); rintro e w' ⟨rfl, rfl⟩) | (go_at_call 74; refine (HC.out _).mono ?_; rintro e w1 ⟨rfl, hb1⟩; obtain ⟨x0, x1, x2, x3⟩ := cell4 ((Blk.new w _ _).kept hb1)) | (go_at_call 75; refine (HA.out _ ((hs.kept ((Below.refl _ _).alloc (Nat.le_refl _) _)).kept hb1)).mono ?_; rintro e w2 ⟨rfl, hb2⟩; obtain ⟨x0, x1, x2, x3⟩ := cell4 (((Blk.new w _ _).kept hb1).kept hb2); have hcn2 := HN'.out w2 (put_two hb1 hb2); have hpl2 := Nat.lt_of_lt_of_le hpl (put_two hb1 hb2).size; have hsz2 : w.heap.size < w2.heap.size := (((Blk.new w _ _).kept hb1).kept hb2).lt; obtain ⟨k0, k1, k2, k3⟩ := nodeArr_cells (hnB.kept (put_two hb1 hb2)); have hnl := (hnB.kept (put_two hb1 hb2)).lt))
  refine region_tail 11 (by kernel_rfl) (by kernel_rfl) ?_
  simp only [List.take_succ_cons, List.take_zero, List.drop_succ_cons, List.drop_zero]
  repeat still_step
  refine wpStill_nil ?_
  go_wp2_with (go_at_call 76; refine (mem_compare _ _ _ _ _ _ _).mono ?_; rintro e w3 ⟨rfl, hb3⟩; have hb3' := put_three hb1 hb2 hb3)
  go_ret
  exact ⟨rfl, hb3'⟩

end Go.Proofs.Ytbcaiegglbdonaa
