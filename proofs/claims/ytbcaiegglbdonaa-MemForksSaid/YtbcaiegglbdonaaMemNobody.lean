/-
  MemNobody: the walk.
-/
import Derived.Test.YtbcaiegglbdonaaMemNo
import Derived.Test.YtbcaiegglbdonaaMemAwake
namespace Go.Proofs.Ytbcaiegglbdonaa
open Go.RowKit Go.Shelf

set_option maxRecDepth 100000 in
theorem no_get {w : World} {p : Value} {F : Nat → Prop} (h : NoMem p F w) (key : ByteArray) (seq : Int) :
    Calls Try.prog 23 #[p, .string key, .int .u64 seq] w fun e w' => e = .returned (.tuple #[.agg #[.string ⟨#[]⟩, .int .u64 0, .string ⟨#[]⟩, .bool false], .bool false]) ∧ Below w.heap.size w w' := by
  obtain ⟨q, rfl⟩ := h.ptr
  have hn := (h.kept ((Below.refl _ _).alloc (Nat.le_refl _) (.cells #[.string ⟨#[]⟩, .int .u64 0, .string ⟨#[]⟩, .bool false] 25))).now
  have hb := Blk.new w #[.string ⟨#[]⟩, .int .u64 0, .string ⟨#[]⟩, .bool false] 25
  obtain ⟨x0, x1, x2, x3⟩ := cell4 hb
  go_enter Try.func23, Try.ntmps23
  go_wp2_with fail
  refine hn.mono ?_
  rintro e w' ⟨rfl, rfl⟩
  go_wp2_with fail
  refine bodyPost_ret (v := .tuple #[.agg #[.string ⟨#[]⟩, .int .u64 0, .string ⟨#[]⟩, .bool false], .bool false]) ?_ rfl ⟨rfl, ?_⟩
  · simp [results, Try.results23, go_sem]
  · exact (Below.refl _ _).alloc (Nat.le_refl _) _

def NobRel (w : World) (i : Value) (wr : World) : Prop := ∃ k : Nat, k ≤ 2 ∧ i = .int .i64 k ∧ Below w.heap.size w wr
theorem zero_neq (W : World) : (binOp .neq 25 (.agg #[.string ⟨#[]⟩, .int .u64 0, .string ⟨#[]⟩, .bool false]) (.agg #[.string ⟨#[]⟩, .int .u64 0, .string ⟨#[]⟩, .bool false])).run Try.prog W = .ok (.bool false) W := by
  have h := cell_neq ⟨⟨#[]⟩, 0, ⟨#[]⟩, false⟩ ⟨⟨#[]⟩, 0, ⟨#[]⟩, false⟩ W
  rw [decide_eq_true rfl] at h
  exact h
def nobZ : Array Value := #[.pointer none, .int .i64 0, .int .i64 0, .int .i64 0, .int .i64 0, .int .i64 0, .int .i64 0, .int .i64 0, .int .i64 0, .int .i64 0, .int .i64 0, .int .i64 0, .int .i64 0, .int .i64 0]
def opArr (kind : Int) (c : Cell) (to : ByteArray) (n : Int) : Array Value := #[.int .i64 kind, .string c.key, .int .u64 c.seq, .string c.val, .bool c.gone, .string to, .int .i64 n]
theorem cell7 {w : World} {b : Nat} {v0 v1 v2 v3 v4 v5 v6 : Value} {t : TypeId} (h : Blk w b #[v0, v1, v2, v3, v4, v5, v6] t) :
    w.cell? ⟨b, 0, none⟩ = some v0 ∧ w.cell? ⟨b, 1, none⟩ = some v1 ∧ w.cell? ⟨b, 2, none⟩ = some v2 ∧ w.cell? ⟨b, 3, none⟩ = some v3 ∧ w.cell? ⟨b, 4, none⟩ = some v4 ∧ w.cell? ⟨b, 5, none⟩ = some v5 ∧ w.cell? ⟨b, 6, none⟩ = some v6 :=
  ⟨h.cell 0 _ rfl, h.cell 1 _ rfl, h.cell 2 _ rfl, h.cell 3 _ rfl, h.cell 4 _ rfl, h.cell 5 _ rfl, h.cell 6 _ rfl⟩
set_option maxRecDepth 100000 in
set_option maxHeartbeats 2000000 in
theorem nobody_walk {w : World} (kind : Int) (c : Cell) (to : ByteArray) (n : Int) :
    Calls Try.prog 8 #[.agg #[.int .i64 kind, .string c.key, .int .u64 c.seq, .string c.val, .bool c.gone, .string to, .int .i64 n]] w fun e w' => e = .returned (.bool true) ∧ Below w.heap.size w w' := by
  have fz := zero_neq
  go_enter Try.func8, Try.ntmps8
  go_wp2_with fail
  refine (awake_spec _).mono ?_
  rintro e w1 ⟨rfl, hb1⟩
  have ho1 := (Blk.new w (opArr kind c to n) 51).kept hb1
  have hB1 : Below w.heap.size w w1 := ((Below.refl _ _).alloc (Nat.le_refl _) _).trans (hb1.mono (by simp))
  clear hb1
  go_wp2_with fail
  have ho2 := (ho1.alloc (.cells nobZ 60)).alloc (.cells #[.pointer none, .pointer (some ⟨w1.heap.size, 0, none⟩)] 26)
  have hz2 := (Blk.new w1 nobZ 60).alloc (.cells #[.pointer none, .pointer (some ⟨w1.heap.size, 0, none⟩)] 26)
  have ha2 := Blk.new' (w1.alloc (.cells nobZ 60)) #[.pointer none, .pointer (some ⟨w1.heap.size, 0, none⟩)] 26 (n := w1.heap.size + 1) (by simp)
  have hB2 := (hB1.alloc hB1.size (.cells nobZ 60)).alloc (by have := hB1.size; simp; omega) (.cells #[.pointer none, .pointer (some ⟨w1.heap.size, 0, none⟩)] 26)
  obtain ⟨W2, hW2⟩ : ∃ W2, W2 = (w1.alloc (.cells nobZ 60)).alloc (.cells #[.pointer none, .pointer (some ⟨w1.heap.size, 0, none⟩)] 26) := ⟨_, rfl⟩
  rw [← hW2] at ho2 hz2 ha2 hB2
  unfold nobZ at hW2
  rw [← hW2]
  clear hW2
  go_loopw [13] (NobRel W2) (fun i _ => 2 - (intOf i).toNat)
  case atStart => exact ⟨0, by omega, rfl, Below.refl _ _⟩
  case round =>
    obtain ⟨k, hk, rfl, hb⟩ := hrel
    by_cases hlt : k < 2
    · have hp : ∃ q F, wr.cell? ⟨w1.heap.size + 1, k, none⟩ = some (.pointer q) ∧ NoMem (.pointer q) F wr := by
        rcases (by omega : k = 0 ∨ k = 1) with rfl | rfl
        · exact ⟨_, _, (ha2.kept hb).cell 0 _ rfl, noMem_nil _⟩
        · exact ⟨_, _, (ha2.kept hb).cell 1 _ rfl, noMem_zero (hz2.kept hb) rfl⟩
      obtain ⟨q, F, hq, hN⟩ := hp
      have hal := (ha2.kept hb).lt
      have hor := ho2.kept hb
      obtain ⟨o0, o1, o2, o3, o4, o5, o6⟩ := cell7 hor
      have hol := hor.lt
      have i0 : (0 : Int) ≤ (k : Int) := by omega
      have i1 : (k : Int) < 2 := by omega
      go_wp2_with fail
      refine (no_get hN c.key c.seq).mono ?_
      rintro e w4 ⟨rfl, hb4⟩
      have hor4 := (hor.kept hb4).alloc (.cells #[.string ⟨#[]⟩, .int .u64 0, .string ⟨#[]⟩, .bool false] 25)
      have hN4 := (hN.kept hb4).kept ((Below.refl _ _).alloc (Nat.le_refl _) (.cells #[.string ⟨#[]⟩, .int .u64 0, .string ⟨#[]⟩, .bool false] 25))
      obtain ⟨s0, s1, s2, s3, s4, s5, s6⟩ := cell7 (hor.kept hb4)
      have sl := (hor.kept hb4).lt
      clear o0 o1 o2 o3 o4 o5 o6 hq hol hal
      go_wp2_with fail
      refine (no_put hN4 c n).mono ?_
      rintro e w5 ⟨rfl, hb5⟩
      obtain ⟨y0, y1, y2, y3⟩ := cell4 ((Blk.new w4 #[.string ⟨#[]⟩, .int .u64 0, .string ⟨#[]⟩, .bool false] 25).kept hb5)
      have yl := ((Blk.new w4 #[.string ⟨#[]⟩, .int .u64 0, .string ⟨#[]⟩, .bool false] 25).kept hb5).lt
      have hN5 := hN4.kept hb5
      have hB5 : Below wr.heap.size wr w5 := (hb4.alloc hb4.size _).trans (hb5.mono (by have := hb4.size; simp; omega))
      clear s0 s1 s2 s3 s4 s5 s6 sl hN4 hor4 hb4 hb5 hN
      go_wp2_with fail
      refine (no_cells hN5).mono ?_
      rintro e w' ⟨rfl, rfl⟩
      go_wp2_with fail
      refine (no_len hN5).mono ?_
      rintro e w' ⟨rfl, rfl⟩
      go_wp2_with fail
      refine (no_size hN5).mono ?_
      rintro e w' ⟨rfl, rfl⟩
      go_wp2_with fail
      refine (no_levels hN5).mono ?_
      rintro e w' ⟨rfl, rfl⟩
      go_wp2_with fail
      refine (no_fork hN5).mono ?_
      rintro e w' ⟨rfl, rfl⟩
      go_wp2_with fail
      refine (scan_some _ _ _ _ ⟨_, rfl⟩).mono ?_
      rintro e w6 ⟨rfl, x0, x1, x2, hb6⟩
      have hT := no_tab (hN5.kept hb6)
      clear y0 y1 y2 y3 yl
      go_wp2_with fail
      refine (goes_spec (Z := []) 1 x0 x1 x2 hT rfl ⟨rfl, by simp, none, 0, rfl, .inl rfl⟩).mono ?_
      rintro e w7 ⟨rfl, hb7⟩
      have hB7 : Below W2.heap.size W2 w7 := hb.trans ((hB5.trans ((hb6.mono hB5.size).trans (hb7.mono (by have := hB5.size; have := hb6.size; omega)))).mono hb.size)
      go_wp2_with fail
      go_roundw
      case rel => exact ⟨k + 1, by omega, by go_num, hB7⟩
      case measure => simp [intOf]; omega
    · obtain rfl : k = 2 := by omega
      go_wp2_with fail
      go_ret
      exact ⟨rfl, hB2.trans (hb.mono hB2.size)⟩

end Go.Proofs.Ytbcaiegglbdonaa
