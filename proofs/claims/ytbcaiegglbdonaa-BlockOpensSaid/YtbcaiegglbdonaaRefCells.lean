/-
  The reference of layer 6: Check, Size, Newest, Part: each as a plain function of the list of cells.
-/
import Derived.Test.YtbcaiegglbdonaaMemLess
import Derived.Test.YtbcaiegglbdonaaSmall
namespace Go.Proofs.Ytbcaiegglbdonaa
open Go.RowKit

set_option maxRecDepth 100000 in
set_option maxHeartbeats 1000000 in
theorem ref_check (c : Cell) (w : World) :
    Calls Try.prog 80 #[.agg #[.string c.key, .int .u64 c.seq, .string c.val, .bool c.gone]] w fun e w' => e = .returned (.int .i64 (checkN c)) ∧ Below w.heap.size w w' := by
  unfold checkN
  go_enter Try.func80, Try.ntmps80
  go_wp2
  all_goals (go_ret; refine ⟨ret_eq ?_, (Below.refl _ _).alloc (Nat.le_refl _) _⟩; simp_all; try omega)

/-- Size by rounds. -/
def sizeN (l : List Cell) : Nat := (l.map fun x => x.key.size + x.val.size + 16).sum
def RSizeRel (w : World) (l : List Cell) (n i : Value) (wr : World) : Prop := ∃ k : Nat, k ≤ l.length ∧ i = .int .i64 k ∧ n = .int .i64 (sizeN (l.take k)) ∧ Below w.heap.size w wr
theorem sizeN_le {l : List Cell} (h : ∀ c ∈ l, checkN c = 0) : sizeN l ≤ 1168 * l.length := by
  induction l with
  | nil => simp [sizeN]
  | cons c l ih =>
    obtain ⟨h1, h2⟩ := check_sizes (h c (by simp))
    have := ih fun d hd => h d (by simp [hd])
    simp only [sizeN, List.map_cons, List.sum_cons, List.length_cons] at *
    omega
set_option maxRecDepth 100000 in
set_option maxHeartbeats 1000000 in
theorem ref_size {w : World} {v : Value} {l : List Cell} (h : Reads w v l.length 4 (cellVals l)) (hc : ∀ c ∈ l, checkN c = 0) (hl : l.length ≤ 2932031007403) :
    Calls Try.prog 81 #[v] w fun e w' => e = .returned (.int .i64 (sizeN l)) ∧ Below w.heap.size w w' := by
  obtain ⟨A, cap, rfl⟩ := h.form
  have H := Lib.hid h
  clear h
  go_enter Try.func81, Try.ntmps81
  go_wp2
  go_loopw [3, 8] (RSizeRel w l) (fun _ i _ => l.length - (intOf i).toNat)
  case atStart => exact ⟨0, by omega, rfl, rfl, Below.refl _ _⟩
  case round =>
    obtain ⟨k, hk, rfl, rfl, hb⟩ := hrel
    by_cases hlt : k < l.length
    · obtain ⟨x, hx⟩ : ∃ x, l[k]? = some x := ⟨_, List.getElem?_eq_getElem hlt⟩
      obtain ⟨b, o, rfl, hbl, c0, c1, c2, c3⟩ := (H.out.kept hb).cell_at hx
      have i0 : (0 : Int) ≤ (k : Int) := by omega
      have i1 : (k : Int) < (l.length : Int) := by omega
      obtain ⟨z1, z2⟩ := check_sizes (hc x (List.mem_of_getElem? hx))
      have z3 := sizeN_le (l := l.take k) fun c hcm => hc c (List.mem_of_mem_take hcm)
      have z4 : (l.take k).length ≤ k := by rw [List.length_take]; omega
      have HX := Lib.hid hx
      have hst := Lib.hid (show (sizeN (l.take (k + 1)) : Int) = (sizeN (l.take k) : Int) + ((x.key.size : Int) + x.val.size + 16) by
        rw [List.take_add_one, hx]; simp [sizeN])
      have w1 : IntKind.i64.wrap ((x.key.size : Int) + x.val.size) = (x.key.size : Int) + x.val.size := IntWalk.i64_in _ (by omega)
      have w2 : IntKind.i64.wrap ((x.key.size : Int) + x.val.size + 16) = (x.key.size : Int) + x.val.size + 16 := IntWalk.i64_in _ (by omega)
      have w3 : IntKind.i64.wrap ((sizeN (l.take k) : Int) + ((x.key.size : Int) + x.val.size + 16)) = (sizeN (l.take k) : Int) + ((x.key.size : Int) + x.val.size + 16) := IntWalk.i64_in _ (by omega)
      clear hx
      go_wp2
      go_roundw
      case rel => exact ⟨k + 1, by omega, by go_num, by rw [hst.out], hb.alloc hb.size _⟩
      case measure => simp [intOf]; omega
    · obtain rfl : k = l.length := by omega
      rw [List.take_length]
      go_wp2
      go_ret
      exact ⟨rfl, hb⟩

/-! ### Newest -/
def newestN (key : ByteArray) (seq : Int) : List Cell → Cell × Bool
  | [] => (Cell.zero, false)
  | c :: l => if c.key = key ∧ c.seq ≤ seq then (c, true) else newestN key seq l
def NewestRel (w : World) (key : ByteArray) (seq : Int) (l : List Cell) (i : Value) (wr : World) : Prop :=
  ∃ k : Nat, k ≤ l.length ∧ i = .int .i64 k ∧ newestN key seq l = newestN key seq (l.drop k) ∧ Blk wr w.heap.size #[.string ⟨#[]⟩, .int .u64 0, .string ⟨#[]⟩, .bool false] 25 ∧ Below w.heap.size w wr
def cellW (c : Cell) : Value := .agg #[.string c.key, .int .u64 c.seq, .string c.val, .bool c.gone]
set_option maxRecDepth 100000 in
set_option maxHeartbeats 1000000 in
theorem ref_newest {w : World} {v : Value} {l : List Cell} (h : Reads w v l.length 4 (cellVals l)) (key : ByteArray) (seq : Int) :
    Calls Try.prog 47 #[v, .string key, .int .u64 seq] w fun e w' => e = .returned (.tuple #[cellW (newestN key seq l).1, .bool (newestN key seq l).2]) ∧ Below w.heap.size w w' := by
  obtain ⟨A, cap, rfl⟩ := h.form
  have H := Lib.hid h
  have hml := h.2.1
  clear h
  go_enter Try.func47, Try.ntmps47
  go_wp2
  go_loopw [12] (NewestRel w key seq l) (fun i _ => l.length - (intOf i).toNat)
  case atStart => exact ⟨0, by omega, rfl, rfl, Blk.new _ _ _, (Below.refl _ _).alloc (Nat.le_refl _) _⟩
  case round =>
    obtain ⟨k, hk, rfl, hN, hZ, hb⟩ := hrel
    have f0 := hZ.frozen
    have f1 := hZ.lt
    obtain ⟨z0, z1, z2, z3⟩ := cell4 hZ
    by_cases hlt : k < l.length
    · obtain ⟨x, hx⟩ : ∃ x, l[k]? = some x := ⟨_, List.getElem?_eq_getElem hlt⟩
      obtain ⟨b, o, rfl, hbl, c0, c1, c2, c3⟩ := (H.out.kept hb).cell_at hx
      have i0 : (0 : Int) ≤ (k : Int) := by omega
      have i1 : (k : Int) < (l.length : Int) := by omega
      have hdr : l.drop k = x :: l.drop (k + 1) := by rw [List.drop_eq_getElem_cons hlt]; congr; simpa [List.getElem?_eq_getElem hlt] using hx
      rw [hdr] at hN
      have HX := Lib.hid hx
      clear hx hdr
      by_cases h1 : x.key = key ∧ x.seq ≤ seq
      · have hr : newestN key seq l = (x, true) := by rw [hN, newestN, if_pos h1]
        have HR := Lib.hid hr
        have hk1 : (x.key.toList == key.toList) = true := str_beq.2 h1.1
        have hs1 : x.seq ≤ seq := h1.2
        clear hr hN h1
        go_wp2
        refine bodyPost_ret (v := .tuple #[cellW x, .bool true]) ?_ rfl ⟨by rw [HR.out], ?_⟩
        · have hZ2 := ((((hZ.setCell 0 (.string x.key)).setCell 1 (.int .u64 x.seq)).setCell 2 (.string x.val)).setCell 3 (.bool x.gone)).alloc (.cells #[.string x.key, .int .u64 x.seq, .string x.val, .bool x.gone] 25)
          obtain ⟨r0, r1, r2, r3⟩ := cell4 (v0 := .string x.key) (v1 := .int .u64 x.seq) (v2 := .string x.val) (v3 := .bool x.gone) hZ2
          simp [results, Try.results47, go_sem, cellW, r0, r1, r2, r3]
        · exact (Below.set4 hb (Nat.le_refl _) 0 1 2 3 _ _ _ _).alloc (by have := hb.size; simp; omega) _
      · have hr := Lib.hid (show newestN key seq l = newestN key seq (l.drop (k + 1)) by rw [hN, newestN, if_neg h1])
        clear hN
        by_cases hk1 : x.key = key
        · have hs1 : ¬ x.seq ≤ seq := fun h => h1 ⟨hk1, h⟩
          have hk2 : (x.key.toList == key.toList) = true := str_beq.2 hk1
          clear h1 hk1
          go_wp2
          go_roundw
          case rel => exact ⟨k + 1, by omega, by go_num, hr.out, hZ.alloc _, hb.alloc hb.size _⟩
          case measure => simp [intOf]; omega
        · have hk2 : (x.key.toList == key.toList) = false := str_beq_false.2 hk1
          clear h1 hk1
          go_wp2
          go_roundw
          case rel => exact ⟨k + 1, by omega, by go_num, hr.out, hZ.alloc _, hb.alloc hb.size _⟩
          case measure => simp [intOf]; omega
    · obtain rfl : k = l.length := by omega
      have hr : newestN key seq l = (Cell.zero, false) := by rw [hN, List.drop_length]; rfl
      have HR := Lib.hid hr
      clear hr hN
      go_wp2
      refine bodyPost_ret (v := .tuple #[cellW Cell.zero, .bool false]) ?_ rfl ⟨by rw [HR.out], ?_⟩
      · have hZ2 := (((hZ.setCell 0 (.string ⟨#[]⟩)).setCell 1 (.int .u64 0)).setCell 2 (.string ⟨#[]⟩)).setCell 3 (.bool false)
        obtain ⟨r0, r1, r2, r3⟩ := cell4 (v0 := .string ⟨#[]⟩) (v1 := .int .u64 0) (v2 := .string ⟨#[]⟩) (v3 := .bool false) hZ2
        simp [results, Try.results47, go_sem, cellW, Cell.zero, r0, r1, r2, r3]; rfl
      · exact Below.set4 hb (Nat.le_refl _) 0 1 2 3 _ _ _ _

/-! ### Part -/
def partP (fr to : ByteArray) (c : Cell) : Bool := !Op.bytesLess c.key.toList fr.toList && (decide (to.toList = []) || Op.bytesLess c.key.toList to.toList)
def PartRel (w : World) (fr to : ByteArray) (l : List Cell) (out i : Value) (wr : World) : Prop :=
  ∃ k : Nat, k ≤ l.length ∧ i = .int .i64 k ∧ wr.ownsRow w.heap.size 25 4 out ((l.take k).filter (partP fr to)).length (cellVals ((l.take k).filter (partP fr to))) ∧ Below w.heap.size w wr
set_option maxRecDepth 100000 in
set_option maxHeartbeats 1000000 in
theorem ref_part {w : World} {v : Value} {l : List Cell} (h : Reads w v l.length 4 (cellVals l)) (fr to : ByteArray) (hl : l.length ≤ 2932031007402) :
    Calls Try.prog 53 #[v, .string fr, .string to] w (CellsPost w (l.filter (partP fr to))) := by
  obtain ⟨A, cap, rfl⟩ := h.form
  obtain ⟨i0, hi, hz0, hz1, hz2⟩ := info_parts Try.infoCell
  have H := Lib.hid h
  clear h
  go_enter Try.func53, Try.ntmps53
  go_wp2
  go_loopw [7, 12] (PartRel w fr to l) (fun _ i _ => l.length - (intOf i).toNat)
  case atStart => exact ⟨0, by omega, rfl, World.ownsRow_nil _ _ _ _, Below.refl _ _⟩
  case round =>
    obtain ⟨k, hk, rfl, hown, hb⟩ := hrel
    by_cases hlt : k < l.length
    · obtain ⟨x, hx⟩ : ∃ x, l[k]? = some x := ⟨_, List.getElem?_eq_getElem hlt⟩
      obtain ⟨b, o, rfl, hbl, c0, c1, c2, c3⟩ := (H.out.kept hb).cell_at hx
      have j0 : (0 : Int) ≤ (k : Int) := by omega
      have j1 : (k : Int) < (l.length : Int) := by omega
      have hfl : ((l.take k).filter (partP fr to)).length + 1 ≤ 2932031007402 := by
        have := List.length_filter_le (partP fr to) (l.take k)
        have : (l.take k).length ≤ k := by rw [List.length_take]; omega
        omega
      have q3 : ((l.take k).filter (partP fr to)).length + 1 ≤ maxLen := by unfold maxLen; omega
      have q4 : (((l.take k).filter (partP fr to)).length + 1) * 48 ≤ 140737488355328 := by omega
      have q5 : w.heap.size ≤ ((wr.alloc (.cells #[.string x.key, .int .u64 x.seq, .string x.val, .bool x.gone] 25)).alloc (.cells #[.string x.key, .int .u64 x.seq, .string x.val, .bool x.gone] 25)).heap.size := by have := hb.size; simp only [World.size_alloc]; omega
      have hno : partP fr to x = false → (l.take (k + 1)).filter (partP fr to) = (l.take k).filter (partP fr to) := fun h => by rw [take_snoc hx, List.filter_append]; simp [h]
      have hyes : partP fr to x = true → (l.take (k + 1)).filter (partP fr to) = (l.take k).filter (partP fr to) ++ [x] := fun h => by rw [take_snoc hx, List.filter_append]; simp [h]
      have nw := news4 (wr.alloc (.cells #[.string x.key, .int .u64 x.seq, .string x.val, .bool x.gone] 25)) x
      rw [World.size_alloc] at nw
      have HN := Lib.hid hno
      have HY := Lib.hid hyes
      clear hx hno hyes hfl
      by_cases u : Op.bytesLess x.key.toList fr.toList = true
      · have HT := Lib.hid (HN.out (by simp [partP, u]))
        go_wp2
        go_roundw
        case rel => exact ⟨k + 1, by omega, by go_num, by rw [HT.out]; exact hown.alloc _, hb.alloc hb.size _⟩
        case measure => simp [intOf]; omega
      have u : Op.bytesLess x.key.toList fr.toList = false := by simpa using u
      by_cases t : to.toList = []
      · have HT := Lib.hid (HY.out (by simp [partP, u, t]))
        go_wp2_with (at_builtin; refine wpList_append_own _ rfl _ _ 22 rfl w.heap.size 25 i0 cellZ 4 48 Try.underlying22 hi hz0 hz1 hz2 rfl (by decide) _ _ _ rfl ((hown.alloc _).alloc _) ⟨wr.heap.size + 1, 0, none⟩ 1 1 [.string x.key, .int .u64 x.seq, .string x.val, .bool x.gone] rfl rfl nw (by simp [Value.oneCell']) q3 q4 q5 ?_)
        intro v' w1 hown1 hgr _
        have hb1 : Below w.heap.size w w1 := ((hb.alloc hb.size _).alloc (by have := hb.size; simp; omega) _).grown hgr q5 (fun j hj => (hown.lt j hj).1)
        go_wp2
        go_roundw
        case rel => exact ⟨k + 1, by omega, by go_num, by rw [HT.out, List.length_append, cellVals_append]; exact hown1, hb1⟩
        case measure => simp [intOf]; omega
      have t2 : (to.toList == []) = false := by simpa using t
      by_cases u2 : Op.bytesLess x.key.toList to.toList = true
      · have HT := Lib.hid (HY.out (by simp [partP, u, u2]))
        go_wp2_with (at_builtin; refine wpList_append_own _ rfl _ _ 22 rfl w.heap.size 25 i0 cellZ 4 48 Try.underlying22 hi hz0 hz1 hz2 rfl (by decide) _ _ _ rfl ((hown.alloc _).alloc _) ⟨wr.heap.size + 1, 0, none⟩ 1 1 [.string x.key, .int .u64 x.seq, .string x.val, .bool x.gone] rfl rfl nw (by simp [Value.oneCell']) q3 q4 q5 ?_)
        intro v' w1 hown1 hgr _
        have hb1 : Below w.heap.size w w1 := ((hb.alloc hb.size _).alloc (by have := hb.size; simp; omega) _).grown hgr q5 (fun j hj => (hown.lt j hj).1)
        go_wp2
        go_roundw
        case rel => exact ⟨k + 1, by omega, by go_num, by rw [HT.out, List.length_append, cellVals_append]; exact hown1, hb1⟩
        case measure => simp [intOf]; omega
      have u2 : Op.bytesLess x.key.toList to.toList = false := by simpa using u2
      have HT := Lib.hid (HN.out (by simp [partP, t, u2]))
      go_wp2
      go_roundw
      case rel => exact ⟨k + 1, by omega, by go_num, by rw [HT.out]; exact hown.alloc _, hb.alloc hb.size _⟩
      case measure => simp [intOf]; omega
    · obtain rfl : k = l.length := by omega
      rw [List.take_length] at hown
      go_wp2
      go_ret
      exact ⟨_, rfl, hown, hb⟩

end Go.Proofs.Ytbcaiegglbdonaa
