/-
  What a block tells: find, Seek, Get, Cells, Len, Bytes, Restarts.
-/
import Derived.Test.YtbcaiegglbdonaaOpen8
import Derived.Test.YtbcaiegglbdonaaSearch8
import Derived.Test.YtbcaiegglbdonaaBlkLeaf
namespace Go.Proofs.Ytbcaiegglbdonaa
open Go Go.RowKit
set_option linter.unusedSimpArgs false

set_option maxRecDepth 100000 in
set_option maxHeartbeats 1000000 in
theorem blk_find {w : World} {p : Nat} {s : ByteArray} {l : List Cell} {r : Int} (h : BlkIs w p s l r true) (hso : adjC l = true) (k : ByteArray) (q : Int) :
    Calls Try.prog 103 #[.pointer (some ⟨p, 0, none⟩), .string k, .int .u64 q] w fun e w' => e = .returned (.int .i64 (posN l k q : Nat)) ∧ Below w.heap.size w w' := by
  obtain ⟨v, B, hb, ho⟩ := h.ex
  obtain ⟨A, cap, rfl⟩ := (Reads.of_own ho).form
  have c1 : w.cell? ⟨p, 1, none⟩ = some (.slice A l.length cap) := hb.cell 1 _ rfl
  have pl := hb.lt
  have HS := Lib.hid (search_cells (Reads.of_own ho) h.len hso k q)
  clear h hb ho
  go_enter Try.func103, Try.ntmps103
  go_wp2_with (go_at_call 139; refine HS.out.mono ?_; rintro e w1 ⟨⟨b, rfl⟩, hb1⟩)
  go_ret
  exact ⟨rfl, hb1⟩
theorem zero_kept {w w1 : World} (h : Below (w.alloc (.cells #[.string ⟨#[]⟩, .int .u64 0, .string ⟨#[]⟩, .bool false] 25)).heap.size (w.alloc (.cells #[.string ⟨#[]⟩, .int .u64 0, .string ⟨#[]⟩, .bool false] 25)) w1) :
    Blk w1 w.heap.size #[.string ⟨#[]⟩, .int .u64 0, .string ⟨#[]⟩, .bool false] 25 := (Blk.new _ _ _).kept h
def seekC (l : List Cell) (k : ByteArray) (q : Int) : Cell × Bool := match l[posN l k q]? with | some c => (c, true) | none => (Cell.zero, false)
def CellPost (w : World) (x : Cell × Bool) (e : Ending) (w' : World) : Prop := e = .returned (.tuple #[cellW x.1, .bool x.2]) ∧ Below w.heap.size w w'
set_option maxRecDepth 100000 in
set_option maxHeartbeats 1000000 in
theorem blk_seek {w : World} {p : Nat} {s : ByteArray} {l : List Cell} {r : Int} (h : BlkIs w p s l r true) (hso : adjC l = true) (k : ByteArray) (q : Int) :
    Calls Try.prog 45 #[.pointer (some ⟨p, 0, none⟩), .string k, .int .u64 q] w (CellPost w (seekC l k q)) := by
  obtain ⟨v, B, hb, ho⟩ := h.ex
  obtain ⟨A, cap, rfl⟩ := (Reads.of_own ho).form
  have c3 : w.cell? ⟨p, 3, none⟩ = some (.bool true) := hb.cell 3 _ rfl
  have c1 : w.cell? ⟨p, 1, none⟩ = some (.slice A l.length cap) := hb.cell 1 _ rfl
  have pl := hb.lt
  have bA : Below w.heap.size w (w.alloc (.cells #[.string ⟨#[]⟩, .int .u64 0, .string ⟨#[]⟩, .bool false] 25)) := (Below.refl _ _).alloc (Nat.le_refl _) _
  have HF := Lib.hid (blk_find (h.kept bA) hso k q)
  have HR := Lib.hid (Reads.of_own ho)
  have hlen := h.len
  have hple := posN_le l k q
  clear h hb ho
  obtain ⟨n, hn⟩ : ∃ n, posN l k q = n := ⟨_, rfl⟩
  have HN := Lib.hid hn
  rw [hn] at HF hple
  clear hn
  by_cases hlt : n < l.length
  · obtain ⟨x, hx⟩ : ∃ x, l[n]? = some x := ⟨_, List.getElem?_eq_getElem hlt⟩
    have HS := Lib.hid (show seekC l k q = (x, true) by unfold seekC; rw [HN.out, hx])
    have HX := Lib.hid hx
    clear hx
    have j0 : (0 : Int) ≤ (n : Int) := by omega
    have j1 : (n : Int) < (l.length : Int) := by omega
    have j2 : ((n : Int) == (l.length : Int)) = false := by simp; omega
    go_enter Try.func45, Try.ntmps45
    go_wp2_with (go_at_call 103; refine HF.out.mono ?_; rintro e w1 ⟨rfl, hb1⟩; have c1' := cell_keep (bA.trans (hb1.mono bA.size)) c1; obtain ⟨b, o, rfl, hbl, d0, d1, d2, d3⟩ := (HR.out.kept (bA.trans (hb1.mono bA.size))).cell_at HX.out; have hZ := zero_kept hb1; have f0 := hZ.frozen; have f1 := hZ.lt; obtain ⟨z0, z1, z2, z3⟩ := cell4 hZ)
    refine bodyPost_ret (v := .tuple #[cellW x, .bool true]) ?_ rfl ⟨by rw [HS.out], ?_⟩
    · have hZ2 := (((hZ.setCell 0 (.string x.key)).setCell 1 (.int .u64 x.seq)).setCell 2 (.string x.val)).setCell 3 (.bool x.gone)
      obtain ⟨r0, r1, r2, r3⟩ := cell4 (v0 := .string x.key) (v1 := .int .u64 x.seq) (v2 := .string x.val) (v3 := .bool x.gone) hZ2
      simp [results, Try.results45, go_sem, cellW, r0, r1, r2, r3]
    · exact Below.set4 (bA.trans (hb1.mono bA.size)) (Nat.le_refl _) 0 1 2 3 _ _ _ _
  · obtain rfl : n = l.length := by omega
    have HS := Lib.hid (show seekC l k q = (Cell.zero, false) by unfold seekC; rw [HN.out, List.getElem?_eq_none (Nat.le_refl _)])
    go_enter Try.func45, Try.ntmps45
    go_wp2_with (go_at_call 103; refine HF.out.mono ?_; rintro e w1 ⟨rfl, hb1⟩; have c1' := cell_keep (bA.trans (hb1.mono bA.size)) c1; have hZ := zero_kept hb1; have f0 := hZ.frozen; have f1 := hZ.lt; obtain ⟨z0, z1, z2, z3⟩ := cell4 hZ)
    refine bodyPost_ret (v := .tuple #[cellW Cell.zero, .bool false]) ?_ rfl ⟨by rw [HS.out], ?_⟩
    · have hZ2 := (((hZ.setCell 0 (.string ⟨#[]⟩)).setCell 1 (.int .u64 0)).setCell 2 (.string ⟨#[]⟩)).setCell 3 (.bool false)
      obtain ⟨r0, r1, r2, r3⟩ := cell4 (v0 := .string ⟨#[]⟩) (v1 := .int .u64 0) (v2 := .string ⟨#[]⟩) (v3 := .bool false) hZ2
      simp [results, Try.results45, go_sem, cellW, Cell.zero, r0, r1, r2, r3]; rfl
    · exact Below.set4 (bA.trans (hb1.mono bA.size)) (Nat.le_refl _) 0 1 2 3 _ _ _ _
def getS (k : ByteArray) (x : Cell × Bool) : Cell × Bool := if x.2 = true ∧ x.1.key = k then x else (Cell.zero, false)
set_option maxRecDepth 100000 in
set_option maxHeartbeats 1000000 in
theorem get_of_seek {w : World} {a : Option Addr} {k : ByteArray} {q : Int} {x : Cell × Bool} (h : ∀ W, Below w.heap.size w W → Calls Try.prog 45 #[.pointer a, .string k, .int .u64 q] W (CellPost W x)) :
    Calls Try.prog 44 #[.pointer a, .string k, .int .u64 q] w (CellPost w (getS k x)) := by
  obtain ⟨⟨xk, xs, xv, xg⟩, xb⟩ := x
  have bA : Below w.heap.size w (w.alloc (.cells #[.string ⟨#[]⟩, .int .u64 0, .string ⟨#[]⟩, .bool false] 25)) := (Below.refl _ _).alloc (Nat.le_refl _) _
  have HF := Lib.hid (h _ bA)
  clear h
  cases xb with
  | false =>
    have HS := Lib.hid (show getS k (⟨xk, xs, xv, xg⟩, false) = (Cell.zero, false) by unfold getS; rw [if_neg (by simp)])
    go_enter Try.func44, Try.ntmps44
    go_wp2_with (go_at_call 45; refine HF.out.mono ?_; rintro e w1 ⟨he, hb1⟩; obtain rfl : e = .returned (.tuple #[.agg #[.string xk, .int .u64 xs, .string xv, .bool xg], .bool false]) := he; have hZ := (zero_kept hb1).alloc (.cells #[.string xk, .int .u64 xs, .string xv, .bool xg] 25); have f0 := hZ.frozen; have f1 := hZ.lt; obtain ⟨z0, z1, z2, z3⟩ := cell4 hZ)
    refine bodyPost_ret (v := .tuple #[cellW Cell.zero, .bool false]) ?_ rfl ⟨by rw [HS.out], ?_⟩
    · have hZ2 := (((hZ.setCell 0 (.string ⟨#[]⟩)).setCell 1 (.int .u64 0)).setCell 2 (.string ⟨#[]⟩)).setCell 3 (.bool false)
      obtain ⟨r0, r1, r2, r3⟩ := cell4 (v0 := .string ⟨#[]⟩) (v1 := .int .u64 0) (v2 := .string ⟨#[]⟩) (v3 := .bool false) hZ2
      simp [results, Try.results44, go_sem, cellW, Cell.zero, r0, r1, r2, r3]; rfl
    · have b1 := bA.trans (hb1.mono bA.size)
      exact Below.set4 (b1.alloc b1.size _) (Nat.le_refl _) 0 1 2 3 _ _ _ _
  | true =>
    by_cases hk : xk = k
    · have HS := Lib.hid (show getS k (⟨xk, xs, xv, xg⟩, true) = (⟨xk, xs, xv, xg⟩, true) by unfold getS; rw [if_pos ⟨rfl, hk⟩])
      have hkq : (xk.toList == k.toList) = true := str_beq.2 hk
      clear hk
      go_enter Try.func44, Try.ntmps44
      go_wp2_with (go_at_call 45; refine HF.out.mono ?_; rintro e w1 ⟨he, hb1⟩; obtain rfl : e = .returned (.tuple #[.agg #[.string xk, .int .u64 xs, .string xv, .bool xg], .bool true]) := he; have hZ := (zero_kept hb1).alloc (.cells #[.string xk, .int .u64 xs, .string xv, .bool xg] 25); have f0 := hZ.frozen; have f1 := hZ.lt; obtain ⟨z0, z1, z2, z3⟩ := cell4 hZ)
      refine bodyPost_ret (v := .tuple #[cellW ⟨xk, xs, xv, xg⟩, .bool true]) ?_ rfl ⟨by rw [HS.out], ?_⟩
      · have hZ2 := (((hZ.setCell 0 (.string xk)).setCell 1 (.int .u64 xs)).setCell 2 (.string xv)).setCell 3 (.bool xg)
        obtain ⟨r0, r1, r2, r3⟩ := cell4 (v0 := .string xk) (v1 := .int .u64 xs) (v2 := .string xv) (v3 := .bool xg) hZ2
        simp [results, Try.results44, go_sem, cellW, r0, r1, r2, r3]
      · have b1 := bA.trans (hb1.mono bA.size)
        exact Below.set4 (b1.alloc b1.size _) (Nat.le_refl _) 0 1 2 3 _ _ _ _
    · have HS := Lib.hid (show getS k (⟨xk, xs, xv, xg⟩, true) = (Cell.zero, false) by unfold getS; rw [if_neg (fun h => hk h.2)])
      have hkq : (xk.toList == k.toList) = false := str_beq_false.2 hk
      clear hk
      go_enter Try.func44, Try.ntmps44
      go_wp2_with (go_at_call 45; refine HF.out.mono ?_; rintro e w1 ⟨he, hb1⟩; obtain rfl : e = .returned (.tuple #[.agg #[.string xk, .int .u64 xs, .string xv, .bool xg], .bool true]) := he; have hZ := (zero_kept hb1).alloc (.cells #[.string xk, .int .u64 xs, .string xv, .bool xg] 25); have f0 := hZ.frozen; have f1 := hZ.lt; obtain ⟨z0, z1, z2, z3⟩ := cell4 hZ)
      refine bodyPost_ret (v := .tuple #[cellW Cell.zero, .bool false]) ?_ rfl ⟨by rw [HS.out], ?_⟩
      · have hZ2 := (((hZ.setCell 0 (.string ⟨#[]⟩)).setCell 1 (.int .u64 0)).setCell 2 (.string ⟨#[]⟩)).setCell 3 (.bool false)
        obtain ⟨r0, r1, r2, r3⟩ := cell4 (v0 := .string ⟨#[]⟩) (v1 := .int .u64 0) (v2 := .string ⟨#[]⟩) (v3 := .bool false) hZ2
        simp [results, Try.results44, go_sem, cellW, Cell.zero, r0, r1, r2, r3]; rfl
      · have b1 := bA.trans (hb1.mono bA.size)
        exact Below.set4 (b1.alloc b1.size _) (Nat.le_refl _) 0 1 2 3 _ _ _ _
theorem blk_get {w : World} {p : Nat} {s : ByteArray} {l : List Cell} {r : Int} (h : BlkIs w p s l r true) (hso : adjC l = true) (k : ByteArray) (q : Int) :
    Calls Try.prog 44 #[.pointer (some ⟨p, 0, none⟩), .string k, .int .u64 q] w (CellPost w (getS k (seekC l k q))) :=
  get_of_seek fun _ hW => blk_seek (h.kept hW) hso k q
/-! ### A block that Open did not give -/
set_option maxRecDepth 100000 in
set_option maxHeartbeats 1000000 in
theorem no_seek (a : Option Addr) (k : ByteArray) (q : Int) (w : World) (h : a = none ∨ ∃ p s l r, a = some ⟨p, 0, none⟩ ∧ BlkIs w p s l r false) :
    Calls Try.prog 45 #[.pointer a, .string k, .int .u64 q] w (CellPost w (Cell.zero, false)) := by
  have bA : Below w.heap.size w (w.alloc (.cells #[.string ⟨#[]⟩, .int .u64 0, .string ⟨#[]⟩, .bool false] 25)) := (Below.refl _ _).alloc (Nat.le_refl _) _
  rcases h with rfl | ⟨p, s, l, r, rfl, h⟩
  · go_enter Try.func45, Try.ntmps45
    have hZ := Blk.new w #[.string ⟨#[]⟩, .int .u64 0, .string ⟨#[]⟩, .bool false] 25
    have f0 := hZ.frozen
    have f1 := hZ.lt
    obtain ⟨z0, z1, z2, z3⟩ := cell4 hZ
    go_wp2_with fail
    refine bodyPost_ret (v := .tuple #[cellW Cell.zero, .bool false]) ?_ rfl ⟨rfl, ?_⟩
    · first
        | (have hZ2 := (((hZ.setCell 0 (.string ⟨#[]⟩)).setCell 1 (.int .u64 0)).setCell 2 (.string ⟨#[]⟩)).setCell 3 (.bool false)
           obtain ⟨r0, r1, r2, r3⟩ := cell4 (v0 := .string ⟨#[]⟩) (v1 := .int .u64 0) (v2 := .string ⟨#[]⟩) (v3 := .bool false) hZ2
           simp [results, Try.results45, go_sem, cellW, Cell.zero, r0, r1, r2, r3]; rfl)
        | (simp [results, Try.results45, go_sem, cellW, Cell.zero]; rfl)
    · first | exact Below.set4 bA (Nat.le_refl _) 0 1 2 3 _ _ _ _ | exact bA
  · obtain ⟨v, B, hb, ho⟩ := h.ex
    have c3 : w.cell? ⟨p, 3, none⟩ = some (.bool false) := hb.cell 3 _ rfl
    have pl := hb.lt
    go_enter Try.func45, Try.ntmps45
    have hZ := Blk.new w #[.string ⟨#[]⟩, .int .u64 0, .string ⟨#[]⟩, .bool false] 25
    have f0 := hZ.frozen
    have f1 := hZ.lt
    obtain ⟨z0, z1, z2, z3⟩ := cell4 hZ
    go_wp2_with fail
    refine bodyPost_ret (v := .tuple #[cellW Cell.zero, .bool false]) ?_ rfl ⟨rfl, ?_⟩
    · first
        | (have hZ2 := (((hZ.setCell 0 (.string ⟨#[]⟩)).setCell 1 (.int .u64 0)).setCell 2 (.string ⟨#[]⟩)).setCell 3 (.bool false)
           obtain ⟨r0, r1, r2, r3⟩ := cell4 (v0 := .string ⟨#[]⟩) (v1 := .int .u64 0) (v2 := .string ⟨#[]⟩) (v3 := .bool false) hZ2
           simp [results, Try.results45, go_sem, cellW, Cell.zero, r0, r1, r2, r3]; rfl)
        | (simp [results, Try.results45, go_sem, cellW, Cell.zero]; rfl)
    · first | exact Below.set4 bA (Nat.le_refl _) 0 1 2 3 _ _ _ _ | exact bA
/-! ### Cells, Len, Bytes, Restarts -/
theorem blk_cells_nil (w : World) : Calls Try.prog 43 #[.pointer none] w (CellsPost w []) := by
  go_enter Try.func43, Try.ntmps43
  go_wp2_with fail
  go_ret
  exact ⟨_, rfl, World.ownsRow_nil _ _ _ _, Below.refl _ _⟩
theorem blk_cells {w : World} {p : Nat} {s : ByteArray} {l : List Cell} {r : Int} {m : Bool} (h : BlkIs w p s l r m) : Calls Try.prog 43 #[.pointer (some ⟨p, 0, none⟩)] w (CellsPost w l) := by
  obtain ⟨v, B, hb, ho⟩ := h.ex
  have c1 : w.cell? ⟨p, 1, none⟩ = some v := hb.cell 1 _ rfl
  have pl := hb.lt
  have hlen := h.len
  have HC := Lib.hid (clone_cells ho (by omega))
  clear h hb ho
  go_enter Try.func43, Try.ntmps43
  go_wp2_with (go_at_call 102; refine HC.out.mono ?_; rintro e w1 ⟨v', rfl, ho', hb'⟩)
  go_ret
  exact ⟨_, rfl, ho', hb'⟩
theorem blk_len_nil (w : World) : Calls Try.prog 49 #[.pointer none] w fun e w' => e = .returned (.int .i64 0) ∧ w = w' := by
  go_enter Try.func49, Try.ntmps49
  go_wp2_with fail
  go_ret
  exact ⟨rfl, rfl⟩
theorem blk_len {w : World} {p : Nat} {s : ByteArray} {l : List Cell} {r : Int} {m : Bool} (h : BlkIs w p s l r m) : Calls Try.prog 49 #[.pointer (some ⟨p, 0, none⟩)] w fun e w' => e = .returned (.int .i64 l.length) ∧ w = w' := by
  obtain ⟨v, B, hb, ho⟩ := h.ex
  obtain ⟨A, cap, rfl⟩ := (Reads.of_own ho).form
  have c1 : w.cell? ⟨p, 1, none⟩ = some (.slice A l.length cap) := hb.cell 1 _ rfl
  have pl := hb.lt
  clear h hb ho
  go_enter Try.func49, Try.ntmps49
  go_wp2_with fail
  go_ret
  exact ⟨rfl, rfl⟩
theorem blk_bytes_nil (w : World) : Calls Try.prog 50 #[.pointer none] w fun e w' => e = .returned (.string ⟨#[]⟩) ∧ w = w' := by
  go_enter Try.func50, Try.ntmps50
  go_wp2_with fail
  go_ret
  exact ⟨rfl, rfl⟩
theorem blk_bytes {w : World} {p : Nat} {s : ByteArray} {l : List Cell} {r : Int} {m : Bool} (h : BlkIs w p s l r m) : Calls Try.prog 50 #[.pointer (some ⟨p, 0, none⟩)] w fun e w' => e = .returned (.string s) ∧ w = w' := by
  obtain ⟨v, B, hb, ho⟩ := h.ex
  have c1 : w.cell? ⟨p, 0, none⟩ = some (.string s) := hb.cell 0 _ rfl
  have pl := hb.lt
  clear h hb ho
  go_enter Try.func50, Try.ntmps50
  go_wp2_with fail
  go_ret
  exact ⟨rfl, rfl⟩
theorem blk_restarts_nil (w : World) : Calls Try.prog 51 #[.pointer none] w fun e w' => e = .returned (.int .i64 0) ∧ w = w' := by
  go_enter Try.func51, Try.ntmps51
  go_wp2_with fail
  go_ret
  exact ⟨rfl, rfl⟩
theorem blk_restarts_no {w : World} {p : Nat} {s : ByteArray} {l : List Cell} {r : Int} (h : BlkIs w p s l r false) : Calls Try.prog 51 #[.pointer (some ⟨p, 0, none⟩)] w fun e w' => e = .returned (.int .i64 0) ∧ w = w' := by
  obtain ⟨v, B, hb, ho⟩ := h.ex
  have c3 : w.cell? ⟨p, 3, none⟩ = some (.bool false) := hb.cell 3 _ rfl
  have pl := hb.lt
  clear h hb ho
  go_enter Try.func51, Try.ntmps51
  go_wp2_with fail
  go_ret
  exact ⟨rfl, rfl⟩
end Go.Proofs.Ytbcaiegglbdonaa
