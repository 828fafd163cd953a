/-
  Texts of this seat, part 6: BlkLeaf, Blk8, TreeCut, Awake8, Seek8, Same8, BlkSeeks, Keys, TabIdx.
-/
import Derived.Test.YtbcaiegglbdonaaTbE
import Derived.Lib.SliceRun
/-
  The block's Scan; slices.Clone of cells.
-/
namespace Go.Proofs.Ytbcaiegglbdonaa
open Go Go.RowKit

set_option maxRecDepth 100000 in
theorem blk_scan (p : Value) (s t : ByteArray) (w : World) (hp : ∃ q, p = .pointer q) :
    Calls Try.prog 52 #[p, .string s, .string t] w fun e w' => e = .returned (.func (.func 106) #[] #[.pointer (some ⟨w.heap.size, 0, none⟩), .pointer (some ⟨w.heap.size + 1, 0, none⟩), .pointer (some ⟨w.heap.size + 2, 0, none⟩)]) ∧
      Blk w' w.heap.size #[p] 68 ∧ Blk w' (w.heap.size + 1) #[.string s] 9 ∧ Blk w' (w.heap.size + 2) #[.string t] 9 ∧ Below w.heap.size w w' := by
  obtain ⟨q, rfl⟩ := hp
  go_enter Try.func52, Try.ntmps52
  go_wp2
  go_ret
  refine ⟨rfl, ?_, ?_, ?_, (((Below.refl _ _).alloc (Nat.le_refl _) _).alloc (by simp) _).alloc (by simp; omega) _⟩
  · exact ((Blk.new w _ _).alloc _).alloc _
  · have := (Blk.new (w.alloc (.cells #[.pointer q] 68)) #[.string s] 9).alloc (.cells #[.string t] 9)
    simpa using this
  · have := Blk.new ((w.alloc (.cells #[.pointer q] 68)).alloc (.cells #[.string s] 9)) #[.string t] 9
    simpa using this
set_option maxRecDepth 100000 in
set_option maxHeartbeats 1000000 in
theorem clone_cells {w : World} {B : Nat} {v : Value} {l : List Cell} (h : w.ownsRow B 25 4 v l.length (cellVals l)) (hl : l.length ≤ 2932031007402) :
    Calls Try.prog 102 #[v] w (CellsPost w l) := by
  obtain ⟨A, cap, rfl⟩ := (Reads.of_own h).form
  obtain ⟨i0, hi, hz0, hz1, hz2⟩ := info_parts Try.infoCell
  have H := Lib.hid h
  have hnil := fun W => Lib.run_eql_slice_nil (P := Try.prog) W 22 25 A l.length cap 0 0 Try.underlying22
  cases A with
  | none =>
    have h0 : l = [] := by
      rcases h.2 with ⟨_, h1⟩ | ⟨g, cap', cur, h1, _⟩
      · exact List.eq_nil_of_length_eq_zero h1
      · cases h1
    subst h0
    clear h hnil
    have hnil0 := fun W => Lib.run_eql_slice_nil (P := Try.prog) W 22 25 none 0 cap 0 0 Try.underlying22
    go_enter Try.func102, Try.ntmps102
    go_wp2_with fail
    go_ret
    exact ⟨_, rfl, World.ownsRow_nil _ _ _ _, Below.refl _ _⟩
  | some a =>
    have oA := World.ownsRow_made (base := w.heap.size) (e := 25) (size := 4) w #[] 0 (Nat.le_refl _) (by decide) rfl
    have p1 : 0 + l.length ≤ maxLen := by unfold maxLen; omega
    have p2 : (0 + l.length) * 48 ≤ 140737488355328 := by omega
    have p3 : w.heap.size ≤ (w.alloc (.cells #[] 25)).heap.size := by simp
    clear h
    go_enter Try.func102, Try.ntmps102
    go_wp2_with (at_builtin; refine wpList_append_any rfl _ _ 22 rfl w.heap.size 25 i0 cellZ 4 48 Try.underlying22 hi hz0 hz1 hz2 rfl (by decide) w.heap.size 0 0 [] rfl oA l.length (cellVals l) ?hl ?hx ?h1 p1 p2 p3 ?_)
    case hl => first | exact cellVals_length l | simp [cellVals_length]
    case h1 => exact cellVals_one l
    case hx => first | exact src_all (H.out.alloc _) | (go_simp; simpa using src_all (H.out.alloc (.cells #[] 25)))
    intro g1 c1 w2 own1 hgr hg1
    have own1 : w2.ownsRow w.heap.size 25 4 (.slice (some ⟨g1, 0, none⟩) l.length c1) l.length (cellVals l) := by simpa using own1
    have b2 : Below w.heap.size w w2 := ((Below.refl _ _).alloc (Nat.le_refl _) _).grown hgr p3 (fun j hj => by cases hj; exact Nat.le_refl _)
    have HO := Lib.hid own1
    clear own1 hgr hg1 oA
    go_wp2_with fail
    go_ret
    exact ⟨_, rfl, HO.out, b2⟩
end Go.Proofs.Ytbcaiegglbdonaa

/-
  What a block tells: find, Seek, Get, Cells, Len, Bytes, Restarts.
-/
namespace Go.Proofs.Ytbcaiegglbdonaa
open Go Go.RowKit
set_option linter.unusedSimpArgs false

set_option maxRecDepth 100000 in
set_option maxHeartbeats 1000000 in
theorem blk_find {w : World} {p : Nat} {s : ByteArray} {l : List Cell} {r : Int} (h : BlkIs w p s l r true) (hso : adjC l = true) (k : ByteArray) (q : Int) :
    Calls Try.prog 103 #[.pointer (some ⟨p, 0, none⟩), .string k, .int .u64 q] w fun e w' => e = .returned (.int .i64 (posN l k q : Nat)) ∧ Below w.heap.size w w' := by
  obtain ⟨v, B, hb, ho⟩ := h.ex
  obtain ⟨A, cap, rfl⟩ := (Reads.of_own ho).form
  have c1 : w.cell? ⟨p, 1, none⟩ = some (.slice A l.length cap) := hb.cell 1 _ rfl
  have pl := hb.lt
  have HS := Lib.hid (search_cells (Reads.of_own ho) h.len hso k q)
  clear h hb ho
  go_enter Try.func103, Try.ntmps103
  go_wp2_with (go_at_call 139; refine HS.out.mono ?_; rintro e w1 ⟨⟨b, rfl⟩, hb1⟩)
  go_ret
  exact ⟨rfl, hb1⟩
theorem zero_kept {w w1 : World} (h : Below (w.alloc (.cells #[.string ⟨#[]⟩, .int .u64 0, .string ⟨#[]⟩, .bool false] 25)).heap.size (w.alloc (.cells #[.string ⟨#[]⟩, .int .u64 0, .string ⟨#[]⟩, .bool false] 25)) w1) :
    Blk w1 w.heap.size #[.string ⟨#[]⟩, .int .u64 0, .string ⟨#[]⟩, .bool false] 25 := (Blk.new _ _ _).kept h
def seekC (l : List Cell) (k : ByteArray) (q : Int) : Cell × Bool := match l[posN l k q]? with | some c => (c, true) | none => (Cell.zero, false)
def CellPost (w : World) (x : Cell × Bool) (e : Ending) (w' : World) : Prop := e = .returned (.tuple #[cellW x.1, .bool x.2]) ∧ Below w.heap.size w w'
set_option maxRecDepth 100000 in
set_option maxHeartbeats 1000000 in
theorem blk_seek {w : World} {p : Nat} {s : ByteArray} {l : List Cell} {r : Int} (h : BlkIs w p s l r true) (hso : adjC l = true) (k : ByteArray) (q : Int) :
    Calls Try.prog 45 #[.pointer (some ⟨p, 0, none⟩), .string k, .int .u64 q] w (CellPost w (seekC l k q)) := by
  obtain ⟨v, B, hb, ho⟩ := h.ex
  obtain ⟨A, cap, rfl⟩ := (Reads.of_own ho).form
  have c3 : w.cell? ⟨p, 3, none⟩ = some (.bool true) := hb.cell 3 _ rfl
  have c1 : w.cell? ⟨p, 1, none⟩ = some (.slice A l.length cap) := hb.cell 1 _ rfl
  have pl := hb.lt
  have bA : Below w.heap.size w (w.alloc (.cells #[.string ⟨#[]⟩, .int .u64 0, .string ⟨#[]⟩, .bool false] 25)) := (Below.refl _ _).alloc (Nat.le_refl _) _
  have HF := Lib.hid (blk_find (h.kept bA) hso k q)
  have HR := Lib.hid (Reads.of_own ho)
  have hlen := h.len
  have hple := posN_le l k q
  clear h hb ho
  obtain ⟨n, hn⟩ : ∃ n, posN l k q = n := ⟨_, rfl⟩
  have HN := Lib.hid hn
  rw [hn] at HF hple
  clear hn
  by_cases hlt : n < l.length
  · obtain ⟨x, hx⟩ : ∃ x, l[n]? = some x := ⟨_, List.getElem?_eq_getElem hlt⟩
    have HS := Lib.hid (show seekC l k q = (x, true) by unfold seekC; rw [HN.out, hx])
    have HX := Lib.hid hx
    clear hx
    have j0 : (0 : Int) ≤ (n : Int) := by omega
    have j1 : (n : Int) < (l.length : Int) := by omega
    have j2 : ((n : Int) == (l.length : Int)) = false := by simp; omega
    go_enter Try.func45, Try.ntmps45
    go_wp2_with (go_at_call 103; refine HF.out.mono ?_; rintro e w1 ⟨rfl, hb1⟩; have c1' := cell_keep (bA.trans (hb1.mono bA.size)) c1; obtain ⟨b, o, rfl, hbl, d0, d1, d2, d3⟩ := (HR.out.kept (bA.trans (hb1.mono bA.size))).cell_at HX.out; have hZ := zero_kept hb1; have f0 := hZ.frozen; have f1 := hZ.lt; obtain ⟨z0, z1, z2, z3⟩ := cell4 hZ)
    refine bodyPost_ret (v := .tuple #[cellW x, .bool true]) ?_ rfl ⟨by rw [HS.out], ?_⟩
    · have hZ2 := (((hZ.setCell 0 (.string x.key)).setCell 1 (.int .u64 x.seq)).setCell 2 (.string x.val)).setCell 3 (.bool x.gone)
      obtain ⟨r0, r1, r2, r3⟩ := cell4 (v0 := .string x.key) (v1 := .int .u64 x.seq) (v2 := .string x.val) (v3 := .bool x.gone) hZ2
      simp [results, Try.results45, go_sem, cellW, r0, r1, r2, r3]
    · exact Below.set4 (bA.trans (hb1.mono bA.size)) (Nat.le_refl _) 0 1 2 3 _ _ _ _
  · obtain rfl : n = l.length := by omega
    have HS := Lib.hid (show seekC l k q = (Cell.zero, false) by unfold seekC; rw [HN.out, List.getElem?_eq_none (Nat.le_refl _)])
    go_enter Try.func45, Try.ntmps45
    go_wp2_with (go_at_call 103; refine HF.out.mono ?_; rintro e w1 ⟨rfl, hb1⟩; have c1' := cell_keep (bA.trans (hb1.mono bA.size)) c1; have hZ := zero_kept hb1; have f0 := hZ.frozen; have f1 := hZ.lt; obtain ⟨z0, z1, z2, z3⟩ := cell4 hZ)
    refine bodyPost_ret (v := .tuple #[cellW Cell.zero, .bool false]) ?_ rfl ⟨by rw [HS.out], ?_⟩
    · have hZ2 := (((hZ.setCell 0 (.string ⟨#[]⟩)).setCell 1 (.int .u64 0)).setCell 2 (.string ⟨#[]⟩)).setCell 3 (.bool false)
      obtain ⟨r0, r1, r2, r3⟩ := cell4 (v0 := .string ⟨#[]⟩) (v1 := .int .u64 0) (v2 := .string ⟨#[]⟩) (v3 := .bool false) hZ2
      simp [results, Try.results45, go_sem, cellW, Cell.zero, r0, r1, r2, r3]; rfl
    · exact Below.set4 (bA.trans (hb1.mono bA.size)) (Nat.le_refl _) 0 1 2 3 _ _ _ _
def getS (k : ByteArray) (x : Cell × Bool) : Cell × Bool := if x.2 = true ∧ x.1.key = k then x else (Cell.zero, false)
set_option maxRecDepth 100000 in
set_option maxHeartbeats 1000000 in
theorem get_of_seek {w : World} {a : Option Addr} {k : ByteArray} {q : Int} {x : Cell × Bool} (h : ∀ W, Below w.heap.size w W → Calls Try.prog 45 #[.pointer a, .string k, .int .u64 q] W (CellPost W x)) :
    Calls Try.prog 44 #[.pointer a, .string k, .int .u64 q] w (CellPost w (getS k x)) := by
  obtain ⟨⟨xk, xs, xv, xg⟩, xb⟩ := x
  have bA : Below w.heap.size w (w.alloc (.cells #[.string ⟨#[]⟩, .int .u64 0, .string ⟨#[]⟩, .bool false] 25)) := (Below.refl _ _).alloc (Nat.le_refl _) _
  have HF := Lib.hid (h _ bA)
  clear h
  cases xb with
  | false =>
    have HS := Lib.hid (show getS k (⟨xk, xs, xv, xg⟩, false) = (Cell.zero, false) by unfold getS; rw [if_neg (by simp)])
    go_enter Try.func44, Try.ntmps44
    go_wp2_with (go_at_call 45; refine HF.out.mono ?_; rintro e w1 ⟨he, hb1⟩; obtain rfl : e = .returned (.tuple #[.agg #[.string xk, .int .u64 xs, .string xv, .bool xg], .bool false]) := he; have hZ := (zero_kept hb1).alloc (.cells #[.string xk, .int .u64 xs, .string xv, .bool xg] 25); have f0 := hZ.frozen; have f1 := hZ.lt; obtain ⟨z0, z1, z2, z3⟩ := cell4 hZ)
    refine bodyPost_ret (v := .tuple #[cellW Cell.zero, .bool false]) ?_ rfl ⟨by rw [HS.out], ?_⟩
    · have hZ2 := (((hZ.setCell 0 (.string ⟨#[]⟩)).setCell 1 (.int .u64 0)).setCell 2 (.string ⟨#[]⟩)).setCell 3 (.bool false)
      obtain ⟨r0, r1, r2, r3⟩ := cell4 (v0 := .string ⟨#[]⟩) (v1 := .int .u64 0) (v2 := .string ⟨#[]⟩) (v3 := .bool false) hZ2
      simp [results, Try.results44, go_sem, cellW, Cell.zero, r0, r1, r2, r3]; rfl
    · have b1 := bA.trans (hb1.mono bA.size)
      exact Below.set4 (b1.alloc b1.size _) (Nat.le_refl _) 0 1 2 3 _ _ _ _
  | true =>
    by_cases hk : xk = k
    · have HS := Lib.hid (show getS k (⟨xk, xs, xv, xg⟩, true) = (⟨xk, xs, xv, xg⟩, true) by unfold getS; rw [if_pos ⟨rfl, hk⟩])
      have hkq : (xk.toList == k.toList) = true := str_beq.2 hk
      clear hk
      go_enter Try.func44, Try.ntmps44
      go_wp2_with (go_at_call 45; refine HF.out.mono ?_; rintro e w1 ⟨he, hb1⟩; obtain rfl : e = .returned (.tuple #[.agg #[.string xk, .int .u64 xs, .string xv, .bool xg], .bool true]) := he; have hZ := (zero_kept hb1).alloc (.cells #[.string xk, .int .u64 xs, .string xv, .bool xg] 25); have f0 := hZ.frozen; have f1 := hZ.lt; obtain ⟨z0, z1, z2, z3⟩ := cell4 hZ)
      refine bodyPost_ret (v := .tuple #[cellW ⟨xk, xs, xv, xg⟩, .bool true]) ?_ rfl ⟨by rw [HS.out], ?_⟩
      · have hZ2 := (((hZ.setCell 0 (.string xk)).setCell 1 (.int .u64 xs)).setCell 2 (.string xv)).setCell 3 (.bool xg)
        obtain ⟨r0, r1, r2, r3⟩ := cell4 (v0 := .string xk) (v1 := .int .u64 xs) (v2 := .string xv) (v3 := .bool xg) hZ2
        simp [results, Try.results44, go_sem, cellW, r0, r1, r2, r3]
      · have b1 := bA.trans (hb1.mono bA.size)
        exact Below.set4 (b1.alloc b1.size _) (Nat.le_refl _) 0 1 2 3 _ _ _ _
    · have HS := Lib.hid (show getS k (⟨xk, xs, xv, xg⟩, true) = (Cell.zero, false) by unfold getS; rw [if_neg (fun h => hk h.2)])
      have hkq : (xk.toList == k.toList) = false := str_beq_false.2 hk
      clear hk
      go_enter Try.func44, Try.ntmps44
      go_wp2_with (go_at_call 45; refine HF.out.mono ?_; rintro e w1 ⟨he, hb1⟩; obtain rfl : e = .returned (.tuple #[.agg #[.string xk, .int .u64 xs, .string xv, .bool xg], .bool true]) := he; have hZ := (zero_kept hb1).alloc (.cells #[.string xk, .int .u64 xs, .string xv, .bool xg] 25); have f0 := hZ.frozen; have f1 := hZ.lt; obtain ⟨z0, z1, z2, z3⟩ := cell4 hZ)
      refine bodyPost_ret (v := .tuple #[cellW Cell.zero, .bool false]) ?_ rfl ⟨by rw [HS.out], ?_⟩
      · have hZ2 := (((hZ.setCell 0 (.string ⟨#[]⟩)).setCell 1 (.int .u64 0)).setCell 2 (.string ⟨#[]⟩)).setCell 3 (.bool false)
        obtain ⟨r0, r1, r2, r3⟩ := cell4 (v0 := .string ⟨#[]⟩) (v1 := .int .u64 0) (v2 := .string ⟨#[]⟩) (v3 := .bool false) hZ2
        simp [results, Try.results44, go_sem, cellW, Cell.zero, r0, r1, r2, r3]; rfl
      · have b1 := bA.trans (hb1.mono bA.size)
        exact Below.set4 (b1.alloc b1.size _) (Nat.le_refl _) 0 1 2 3 _ _ _ _
theorem blk_get {w : World} {p : Nat} {s : ByteArray} {l : List Cell} {r : Int} (h : BlkIs w p s l r true) (hso : adjC l = true) (k : ByteArray) (q : Int) :
    Calls Try.prog 44 #[.pointer (some ⟨p, 0, none⟩), .string k, .int .u64 q] w (CellPost w (getS k (seekC l k q))) :=
  get_of_seek fun _ hW => blk_seek (h.kept hW) hso k q
/-! ### A block that Open did not give -/
set_option maxRecDepth 100000 in
set_option maxHeartbeats 1000000 in
theorem no_seek (a : Option Addr) (k : ByteArray) (q : Int) (w : World) (h : a = none ∨ ∃ p s l r, a = some ⟨p, 0, none⟩ ∧ BlkIs w p s l r false) :
    Calls Try.prog 45 #[.pointer a, .string k, .int .u64 q] w (CellPost w (Cell.zero, false)) := by
  have bA : Below w.heap.size w (w.alloc (.cells #[.string ⟨#[]⟩, .int .u64 0, .string ⟨#[]⟩, .bool false] 25)) := (Below.refl _ _).alloc (Nat.le_refl _) _
  rcases h with rfl | ⟨p, s, l, r, rfl, h⟩
  · go_enter Try.func45, Try.ntmps45
    have hZ := Blk.new w #[.string ⟨#[]⟩, .int .u64 0, .string ⟨#[]⟩, .bool false] 25
    have f0 := hZ.frozen
    have f1 := hZ.lt
    obtain ⟨z0, z1, z2, z3⟩ := cell4 hZ
    go_wp2_with fail
    refine bodyPost_ret (v := .tuple #[cellW Cell.zero, .bool false]) ?_ rfl ⟨rfl, ?_⟩
    · first
        | (have hZ2 := (((hZ.setCell 0 (.string ⟨#[]⟩)).setCell 1 (.int .u64 0)).setCell 2 (.string ⟨#[]⟩)).setCell 3 (.bool false)
           obtain ⟨r0, r1, r2, r3⟩ := cell4 (v0 := .string ⟨#[]⟩) (v1 := .int .u64 0) (v2 := .string ⟨#[]⟩) (v3 := .bool false) hZ2
           simp [results, Try.results45, go_sem, cellW, Cell.zero, r0, r1, r2, r3]; rfl)
        | (simp [results, Try.results45, go_sem, cellW, Cell.zero]; rfl)
    · first | exact Below.set4 bA (Nat.le_refl _) 0 1 2 3 _ _ _ _ | exact bA
  · obtain ⟨v, B, hb, ho⟩ := h.ex
    have c3 : w.cell? ⟨p, 3, none⟩ = some (.bool false) := hb.cell 3 _ rfl
    have pl := hb.lt
    go_enter Try.func45, Try.ntmps45
    have hZ := Blk.new w #[.string ⟨#[]⟩, .int .u64 0, .string ⟨#[]⟩, .bool false] 25
    have f0 := hZ.frozen
    have f1 := hZ.lt
    obtain ⟨z0, z1, z2, z3⟩ := cell4 hZ
    go_wp2_with fail
    refine bodyPost_ret (v := .tuple #[cellW Cell.zero, .bool false]) ?_ rfl ⟨rfl, ?_⟩
    · first
        | (have hZ2 := (((hZ.setCell 0 (.string ⟨#[]⟩)).setCell 1 (.int .u64 0)).setCell 2 (.string ⟨#[]⟩)).setCell 3 (.bool false)
           obtain ⟨r0, r1, r2, r3⟩ := cell4 (v0 := .string ⟨#[]⟩) (v1 := .int .u64 0) (v2 := .string ⟨#[]⟩) (v3 := .bool false) hZ2
           simp [results, Try.results45, go_sem, cellW, Cell.zero, r0, r1, r2, r3]; rfl)
        | (simp [results, Try.results45, go_sem, cellW, Cell.zero]; rfl)
    · first | exact Below.set4 bA (Nat.le_refl _) 0 1 2 3 _ _ _ _ | exact bA
/-! ### Cells, Len, Bytes, Restarts -/
theorem blk_cells_nil (w : World) : Calls Try.prog 43 #[.pointer none] w (CellsPost w []) := by
  go_enter Try.func43, Try.ntmps43
  go_wp2_with fail
  go_ret
  exact ⟨_, rfl, World.ownsRow_nil _ _ _ _, Below.refl _ _⟩
theorem blk_cells {w : World} {p : Nat} {s : ByteArray} {l : List Cell} {r : Int} {m : Bool} (h : BlkIs w p s l r m) : Calls Try.prog 43 #[.pointer (some ⟨p, 0, none⟩)] w (CellsPost w l) := by
  obtain ⟨v, B, hb, ho⟩ := h.ex
  have c1 : w.cell? ⟨p, 1, none⟩ = some v := hb.cell 1 _ rfl
  have pl := hb.lt
  have hlen := h.len
  have HC := Lib.hid (clone_cells ho (by omega))
  clear h hb ho
  go_enter Try.func43, Try.ntmps43
  go_wp2_with (go_at_call 102; refine HC.out.mono ?_; rintro e w1 ⟨v', rfl, ho', hb'⟩)
  go_ret
  exact ⟨_, rfl, ho', hb'⟩
theorem blk_len_nil (w : World) : Calls Try.prog 49 #[.pointer none] w fun e w' => e = .returned (.int .i64 0) ∧ w = w' := by
  go_enter Try.func49, Try.ntmps49
  go_wp2_with fail
  go_ret
  exact ⟨rfl, rfl⟩
theorem blk_len {w : World} {p : Nat} {s : ByteArray} {l : List Cell} {r : Int} {m : Bool} (h : BlkIs w p s l r m) : Calls Try.prog 49 #[.pointer (some ⟨p, 0, none⟩)] w fun e w' => e = .returned (.int .i64 l.length) ∧ w = w' := by
  obtain ⟨v, B, hb, ho⟩ := h.ex
  obtain ⟨A, cap, rfl⟩ := (Reads.of_own ho).form
  have c1 : w.cell? ⟨p, 1, none⟩ = some (.slice A l.length cap) := hb.cell 1 _ rfl
  have pl := hb.lt
  clear h hb ho
  go_enter Try.func49, Try.ntmps49
  go_wp2_with fail
  go_ret
  exact ⟨rfl, rfl⟩
theorem blk_bytes_nil (w : World) : Calls Try.prog 50 #[.pointer none] w fun e w' => e = .returned (.string ⟨#[]⟩) ∧ w = w' := by
  go_enter Try.func50, Try.ntmps50
  go_wp2_with fail
  go_ret
  exact ⟨rfl, rfl⟩
theorem blk_bytes {w : World} {p : Nat} {s : ByteArray} {l : List Cell} {r : Int} {m : Bool} (h : BlkIs w p s l r m) : Calls Try.prog 50 #[.pointer (some ⟨p, 0, none⟩)] w fun e w' => e = .returned (.string s) ∧ w = w' := by
  obtain ⟨v, B, hb, ho⟩ := h.ex
  have c1 : w.cell? ⟨p, 0, none⟩ = some (.string s) := hb.cell 0 _ rfl
  have pl := hb.lt
  clear h hb ho
  go_enter Try.func50, Try.ntmps50
  go_wp2_with fail
  go_ret
  exact ⟨rfl, rfl⟩
theorem blk_restarts_nil (w : World) : Calls Try.prog 51 #[.pointer none] w fun e w' => e = .returned (.int .i64 0) ∧ w = w' := by
  go_enter Try.func51, Try.ntmps51
  go_wp2_with fail
  go_ret
  exact ⟨rfl, rfl⟩
theorem blk_restarts_no {w : World} {p : Nat} {s : ByteArray} {l : List Cell} {r : Int} (h : BlkIs w p s l r false) : Calls Try.prog 51 #[.pointer (some ⟨p, 0, none⟩)] w fun e w' => e = .returned (.int .i64 0) ∧ w = w' := by
  obtain ⟨v, B, hb, ho⟩ := h.ex
  have c3 : w.cell? ⟨p, 3, none⟩ = some (.bool false) := hb.cell 3 _ rfl
  have pl := hb.lt
  clear h hb ho
  go_enter Try.func51, Try.ntmps51
  go_wp2_with fail
  go_ret
  exact ⟨rfl, rfl⟩
end Go.Proofs.Ytbcaiegglbdonaa

/-
  A region that draws its order and whose last operations store to what it reads: a tree walked with a condition S on the worlds up to the first store, and without one from there on. Over any program.
-/
namespace Go.Proofs.Ytbcaiegglbdonaa
open Go
section
variable {P : Program} {ops : Array Oper} {Q : Exit → Act → World → Prop} {md : Region.Mode} {S : World → Prop} {m : Nat}
def wpAnyM (P : Program) (md : Region.Mode) (ops : Array Oper) (Q : Exit → Act → World → Prop) (S : World → Prop) (m : Nat) : Nat → Array Bool → Act → World → Prop
  | 0, listed, a, w => Region.ready md ops listed = [] ∧ Q .normal a w
  | fuel + 1, listed, a, w =>
    (Region.ready md ops listed = [] → Q .normal a w) ∧
    ∀ i ∈ Region.ready md ops listed, wpOp P ops Q i (fun a' w' => if i = m then wpAnyH P md ops Q (fun _ => True) fuel (listed.setIfInBounds i true) a' w' else S w' ∧ wpAnyM P md ops Q S m fuel (listed.setIfInBounds i true) a' w') a w
theorem wpAny_of_M : ∀ (fuel : Nat) (listed : Array Bool) (a : Act) (w : World), wpAnyM P md ops Q S m fuel listed a w → wpAny P md ops Q fuel listed a w
  | 0, _, _, _, h => h
  | fuel + 1, _, _, _, h => ⟨h.1, fun i hi => wpOp_mono (fun a' w' h' => by
      by_cases he : i = m
      · rw [if_pos he] at h'; exact wpAny_of_held _ _ _ _ h'
      · rw [if_neg he] at h'; exact wpAny_of_M fuel _ a' w' h'.2) (h.2 i hi)⟩
theorem getD_ft {listed : Array Bool} {k : Nat} (h : listed.getD k false = true) : listed.getD k true = true := by
  by_cases hb : k < listed.size
  · simp [Array.getD, hb] at h ⊢; exact h
  · simp [Array.getD, hb]
/-- What is listed has what it waits for listed. -/
def Closed (ops : Array Oper) (listed : Array Bool) : Prop := ∀ j o, ops[j]? = some o → listed.getD j true = true → ∀ e ∈ o.after, Region.binds .any e = true → listed.getD e.on true = true
theorem Closed.step {listed : Array Bool} (h : Closed ops listed) {i : Nat} (hi : i ∈ Region.ready .any ops listed) : Closed ops (listed.setIfInBounds i true) := by
  obtain ⟨hun, oi, hoi, hall⟩ := mem_ready.1 hi
  have hmono : ∀ k, listed.getD k true = true → (listed.setIfInBounds i true).getD k true = true := by
    intro k hk
    by_cases hik : i = k
    · subst hik
      by_cases hb : i < listed.size
      · simp [Array.getD, hb]
      · simp [Array.getD, hb]
    · rw [getD_set_ne true hik]; exact hk
  intro j o ho hj e he hb
  by_cases hij : i = j
  · subst hij
    rw [ho] at hoi
    cases hoi
    exact hmono _ (getD_ft (hall e he hb))
  · rw [getD_set_ne true hij] at hj
    exact hmono _ (h j o ho hj e he hb)
/-- Whether m waits for i, through others; n: how deep. -/
def waitsT (ops : Array Oper) (i : Nat) : Nat → Nat → Bool
  | 0, m => decide (m = i)
  | n + 1, m => decide (m = i) || (match ops[m]? with
    | none => false
    | some o => o.after.toList.any fun e => Region.binds .any e && waitsT ops i n e.on)
theorem waitsT_listed {i : Nat} {listed : Array Bool} (h : Closed ops listed) : ∀ (n m : Nat), waitsT ops i n m = true → listed.getD m true = true → listed.getD i true = true := by
  intro n
  induction n with
  | zero =>
    intro m hw hm
    have : m = i := by simpa [waitsT] using hw
    rw [← this]; exact hm
  | succ n ih =>
    intro m hw hm
    simp only [waitsT, Bool.or_eq_true, decide_eq_true_eq] at hw
    rcases hw with rfl | hw
    · exact hm
    · cases ho : ops[m]? with
      | none => rw [ho] at hw; cases hw
      | some o =>
        rw [ho] at hw
        simp only [List.any_eq_true, Bool.and_eq_true] at hw
        obtain ⟨e, he, hb, hw⟩ := hw
        exact ih e.on hw (h m o ho hm e (by simpa using he) hb)
theorem wpAnyM_first {i : Nat} {oi : Oper} {v : Value} (hi : ops[i]? = some oi) (hsel : ∀ (j : Nat) (o : Oper) cs b, ops[j]? = some o → o.op ≠ .select cs b) (him : i ≠ m) {d : Nat}
    (hw : waitsT ops i d m = true)
    (hQ : ∀ c a w, Q (.panic c) (a.put oi.dst v) w → Q (.panic c) a w) :
    ∀ (fuel : Nat) (listed : Array Bool) (a : Act) (w : World), Closed ops listed →
      (∀ j oj, ops[j]? = some oj → j ≠ i → listed.getD j true = false → (∀ e ∈ oj.after, Region.binds .any e = true → e.on ≠ i) → oi.apart ops oj = true) →
      i ∈ Region.ready .any ops listed → YieldsIf P ops S oi v a → S w →
      wpAnyM P .any ops Q S m fuel (listed.setIfInBounds i true) (a.put oi.dst v) w → wpAnyM P .any ops Q S m (fuel + 1) listed a w := by
  intro fuel
  induction fuel with
  | zero =>
    intro listed a w _ _ hr hy hS H
    refine ⟨fun h => (by rw [h] at hr; cases hr), fun j hj => ?_⟩
    by_cases hji : j = i
    · subst hji; exact hy.wpOp hi hS (by rw [if_neg him]; exact ⟨hS, H⟩)
    · have := ready_mono hj hji
      rw [H.1] at this
      cases this
  | succ fuel ih =>
    intro listed a w hcl hfree hr hy hS H
    refine ⟨fun h => (by rw [h] at hr; cases hr), fun j hj => ?_⟩
    by_cases hji : j = i
    · subst hji; exact hy.wpOp hi hS (by rw [if_neg him]; exact ⟨hS, H⟩)
    · have h1 := H.2 j (ready_mono hj hji)
      obtain ⟨hjun, oj, hoj, hall⟩ := mem_ready.1 hj
      have hiun : listed.getD i true = false := (mem_ready.1 hr).1
      have hnot : ∀ e ∈ oj.after, Region.binds .any e = true → e.on ≠ i := fun e he hb heq => by
        have h1 := hall e he hb
        have h0 := (mem_ready.1 hr).1
        rw [heq] at h1
        rcases Nat.lt_or_ge i listed.size with h' | h'
        · simp [h'] at h0 h1; rw [h0] at h1; cases h1
        · simp [Array.getElem?_eq_none h'] at h1
      have hjm : j ≠ m := by
        rintro rfl
        cases d with
        | zero => exact hji (by simpa [waitsT] using hw)
        | succ d =>
          simp only [waitsT, Bool.or_eq_true, decide_eq_true_eq, hoj] at hw
          rcases hw with h | h
          · exact hji h
          · simp only [List.any_eq_true, Bool.and_eq_true] at h
            obtain ⟨e, he, hb, h⟩ := h
            have h3 := getD_ft (hall e (by simpa using he) hb)
            have := waitsT_listed hcl d e.on h h3
            rw [hiun] at this
            cases this
      simp only [if_neg hjm] at h1 ⊢
      have h2 := wpOp_putIf hoj (hfree j oj hoj hji hjun hnot) (fun cs b => hsel i oi cs b hi) (fun cs b => hsel j oj cs b hoj) hQ hy h1
      have hfree' : ∀ k ok, ops[k]? = some ok → k ≠ i → (listed.setIfInBounds j true).getD k true = false →
          (∀ e ∈ ok.after, Region.binds .any e = true → e.on ≠ i) → oi.apart ops ok = true := fun k ok hk hki hun hno => by
        refine hfree k ok hk hki ?_ hno
        by_cases hjk : j = k
        · subst hjk; exact hjun
        · rw [getD_set_ne true hjk] at hun; exact hun
      refine wpOp_mono (fun a' w' h3 => ⟨h3.2.1, ih (listed.setIfInBounds j true) a' w' (hcl.step hj) hfree' (ready_mono hr (Ne.symm hji)) h3.1 h3.2.1 ?_⟩) h2
      rw [Array.setIfInBounds_comm _ _ hji]
      exact h3.2.2
theorem wpAnyM_any {i : Nat} {oi : Oper} {v : Value} (hi : ops[i]? = some oi) (hsel : ∀ (j : Nat) (o : Oper) cs b, ops[j]? = some o → o.op ≠ .select cs b) (him : i ≠ m)
    (hQ : ∀ c a w, Q (.panic c) (a.put oi.dst v) w → Q (.panic c) a w) :
    ∀ (fuel : Nat) (listed : Array Bool) (a : Act) (w : World),
      (∀ j oj, ops[j]? = some oj → j ≠ i → listed.getD j true = false → (∀ e ∈ oj.after, Region.binds .any e = true → e.on ≠ i) → oi.apart ops oj = true) →
      i ∈ Region.ready .any ops listed → YieldsIf P ops (fun _ => True) oi v a → S w →
      wpAnyM P .any ops Q S m fuel (listed.setIfInBounds i true) (a.put oi.dst v) w → wpAnyM P .any ops Q S m (fuel + 1) listed a w := by
  intro fuel
  induction fuel with
  | zero =>
    intro listed a w _ hr hy hS H
    refine ⟨fun h => (by rw [h] at hr; cases hr), fun j hj => ?_⟩
    by_cases hji : j = i
    · subst hji; exact hy.wpOp hi trivial (by rw [if_neg him]; exact ⟨hS, H⟩)
    · have := ready_mono hj hji
      rw [H.1] at this
      cases this
  | succ fuel ih =>
    intro listed a w hfree hr hy hS H
    refine ⟨fun h => (by rw [h] at hr; cases hr), fun j hj => ?_⟩
    by_cases hji : j = i
    · subst hji; exact hy.wpOp hi trivial (by rw [if_neg him]; exact ⟨hS, H⟩)
    · have h1 := H.2 j (ready_mono hj hji)
      obtain ⟨hjun, oj, hoj, hall⟩ := mem_ready.1 hj
      have hnot : ∀ e ∈ oj.after, Region.binds .any e = true → e.on ≠ i := fun e he hb heq => by
        have h1 := hall e he hb
        have h0 := (mem_ready.1 hr).1
        rw [heq] at h1
        rcases Nat.lt_or_ge i listed.size with h' | h'
        · simp [h'] at h0 h1; rw [h0] at h1; cases h1
        · simp [Array.getElem?_eq_none h'] at h1
      have hfree' : ∀ k ok, ops[k]? = some ok → k ≠ i → (listed.setIfInBounds j true).getD k true = false →
          (∀ e ∈ ok.after, Region.binds .any e = true → e.on ≠ i) → oi.apart ops ok = true := fun k ok hk hki hun hno => by
        refine hfree k ok hk hki ?_ hno
        by_cases hjk : j = k
        · subst hjk; exact hjun
        · rw [getD_set_ne true hjk] at hun; exact hun
      by_cases hjm : j = m
      · simp only [if_pos hjm] at h1 ⊢
        have h2 := wpOp_putIf hoj (hfree j oj hoj hji hjun hnot) (fun cs b => hsel i oi cs b hi) (fun cs b => hsel j oj cs b hoj) hQ hy h1
        refine wpOp_mono (fun a' w' h3 => wpAnyH_first hi hsel hQ fuel (listed.setIfInBounds j true) a' w' hfree' (ready_mono hr (Ne.symm hji)) h3.1 trivial ?_) h2
        rw [Array.setIfInBounds_comm _ _ hji]
        exact h3.2
      · simp only [if_neg hjm] at h1 ⊢
        have h2 := wpOp_putIf hoj (hfree j oj hoj hji hjun hnot) (fun cs b => hsel i oi cs b hi) (fun cs b => hsel j oj cs b hoj) hQ hy h1
        refine wpOp_mono (fun a' w' h3 => ⟨h3.2.1, ih (listed.setIfInBounds j true) a' w' hfree' (ready_mono hr (Ne.symm hji)) h3.1 h3.2.1 ?_⟩) h2
        rw [Array.setIfInBounds_comm _ _ hji]
        exact h3.2.2
/-- A tree up to the operation m, which comes up alone; from there on without S. -/
def wpCut (P : Program) (ops : Array Oper) (Q : Exit → Act → World → Prop) (S : World → Prop) (m : Nat) : Tree → Act → World → Prop
  | .nil, _, _ => False
  | .take i t, a, w => ∃ o v, ops[i]? = some o ∧ YieldsIf P ops (if waitsT ops i ops.size m = true then S else fun _ => True) o v a ∧ wpCut P ops Q S m t (a.put o.dst v) w
  | .one i t, a, w => if i = m then wpOp P ops Q i (fun a' w' => wpTree P ops Q (fun _ => True) t a' w') a w else wpOp P ops Q i (fun a' w' => S w' ∧ (S w' → wpCut P ops Q S m t a' w')) a w
  | .two i t j u, a, w => wpOp P ops Q i (fun a' w' => S w' ∧ (S w' → wpCut P ops Q S m t a' w')) a w ∧ wpOp P ops Q j (fun a' w' => S w' ∧ (S w' → wpCut P ops Q S m u a' w')) a w
def cutOK (ops : Array Oper) (m : Nat) : Nat → Tree → Array Bool → Bool
  | n + 1, .take i t, listed => decide (i ≠ m) && Region.free .any ops listed i && (Region.ready .any ops listed).contains i && cutOK ops m n t (listed.setIfInBounds i true)
  | n + 1, .one i t, listed => Region.ready .any ops listed == [i] && (if i = m then treeOK ops n t (listed.setIfInBounds i true) else cutOK ops m n t (listed.setIfInBounds i true))
  | n + 1, .two i t j u, listed => decide (i ≠ m) && decide (j ≠ m) && Region.ready .any ops listed == [i, j] && cutOK ops m n t (listed.setIfInBounds i true) && cutOK ops m n u (listed.setIfInBounds j true)
  | _, _, _ => false
theorem cut_sound (hs : Region.noSelect ops = true) (hQ : ∀ c a w (dst : Option Tmp) v, Q (.panic c) (a.put dst v) w → Q (.panic c) a w) : ∀ (n : Nat) (t : Tree) (listed : Array Bool) (a : Act) (w : World), cutOK ops m n t listed = true → Closed ops listed → S w → wpCut P ops Q S m t a w →
    wpAnyM P .any ops Q S m n listed a w := by
  intro n
  induction n with
  | zero =>
    intro t listed a w hp _ _ h
    cases t <;> simp [cutOK] at hp
  | succ n ih =>
    intro t listed a w hp hcl hS h
    cases t with
    | nil => simp [cutOK] at hp
    | take i t =>
      simp only [cutOK, Bool.and_eq_true, decide_eq_true_eq] at hp
      obtain ⟨o, v, hi, hy, hr⟩ := h
      have hrd : i ∈ Region.ready .any ops listed := by simpa using hp.1.2
      by_cases hw : waitsT ops i ops.size m = true
      · rw [if_pos hw] at hy
        exact wpAnyM_first hi (Region.noSelect_spec hs) hp.1.1.1 hw (fun c a w hq => hQ c a w _ _ hq) n listed a w hcl (Region.free_spec hi hp.1.1.2) hrd hy hS (ih _ _ _ _ hp.2 (hcl.step hrd) hS hr)
      · rw [if_neg hw] at hy
        exact wpAnyM_any hi (Region.noSelect_spec hs) hp.1.1.1 (fun c a w hq => hQ c a w _ _ hq) n listed a w (Region.free_spec hi hp.1.1.2) hrd hy hS (ih _ _ _ _ hp.2 (hcl.step hrd) hS hr)
    | one i t =>
      simp only [cutOK, Bool.and_eq_true, beq_iff_eq] at hp
      refine ⟨fun h0 => (by rw [hp.1] at h0; cases h0), ?_⟩
      intro j hj
      have hj0 := hj
      rw [hp.1] at hj
      obtain rfl : j = i := by simpa using hj
      by_cases he : j = m
      · have hp2 := hp.2
        rw [if_pos he] at hp2
        simp only [wpCut, if_pos he] at h
        simp only [if_pos he]
        exact wpOp_mono (fun a' w' hk => tree_sound hs hQ n t _ a' w' hp2 trivial hk) h
      · have hp2 := hp.2
        rw [if_neg he] at hp2
        simp only [wpCut, if_neg he] at h
        simp only [if_neg he]
        exact wpOp_mono (fun a' w' hk => ⟨hk.1, ih _ _ _ _ hp2 (hcl.step hj0) hk.1 (hk.2 hk.1)⟩) h
    | two i t k u =>
      simp only [cutOK, Bool.and_eq_true, beq_iff_eq, decide_eq_true_eq] at hp
      refine ⟨fun h0 => (by rw [hp.1.1.2] at h0; cases h0), ?_⟩
      intro j hj
      have hj0 := hj
      rw [hp.1.1.2] at hj
      rcases List.mem_cons.1 hj with rfl | hj
      · simp only [if_neg hp.1.1.1.1]
        exact wpOp_mono (fun a' w' hk => ⟨hk.1, ih _ _ _ _ hp.1.2 (hcl.step hj0) hk.1 (hk.2 hk.1)⟩) h.1
      · obtain rfl : j = k := by simpa using hj
        simp only [if_neg hp.1.1.1.2]
        exact wpOp_mono (fun a' w' hk => ⟨hk.1, ih _ _ _ _ hp.2 (hcl.step hj0) hk.1 (hk.2 hk.1)⟩) h.2
theorem closed_start : Closed ops (Array.replicate ops.size false) := by
  intro j o ho hj e he hb
  have hlt := (Array.getElem?_eq_some_iff.1 ho).1
  simp [Array.getD, hlt] at hj
theorem region_cut {id : Nat} {a : Act} {w : World} (m : Nat) (t : Tree) (hm : P.follows .mixedOrders = true) (hs : Region.noSelect ops = true) (hp : cutOK ops m ops.size t (Array.replicate ops.size false) = true)
    (hQ : ∀ c a w (dst : Option Tmp) v, Q (.panic c) (a.put dst v) w → Q (.panic c) a w) (hS : S w.drew) (h : S w.drew → wpCut P ops Q S m t a w.drew) : (Code.region id ops true).wp P Q a w :=
  wp_region_any hm (wpAny_of_M _ _ _ _ (cut_sound hs hQ _ _ _ _ _ hp closed_start hS (h hS)))
theorem cut_take {i : Nat} {t : Tree} {a : Act} {w : World} {o : Oper} {v : Value} (hb : waitsT ops i ops.size m = true) (ho : ops[i]? = some o) (hw : Region.wanted o (yielded ops a.tmps) = true) (hv : ∀ w', S w' → (execOp a.eval o).run P w' = .ok (.value v) w')
    (h : wpCut P ops Q S m t (a.put o.dst v) w) : wpCut P ops Q S m (.take i t) a w := ⟨o, v, ho, by rw [if_pos hb]; exact .inl ⟨hw, hv⟩, h⟩
theorem cut_free {i : Nat} {t : Tree} {a : Act} {w : World} {o : Oper} {v : Value} (ho : ops[i]? = some o) (hw : Region.wanted o (yielded ops a.tmps) = true) (hv : ∀ w', (execOp a.eval o).run P w' = .ok (.value v) w')
    (h : wpCut P ops Q S m t (a.put o.dst v) w) : wpCut P ops Q S m (.take i t) a w := ⟨o, v, ho, by split <;> exact .inl ⟨hw, fun w' _ => hv w'⟩, h⟩
theorem cut_op {i : Nat} {t : Tree} {a : Act} {w : World} {o : Oper} (ho : ops[i]? = some o) (hw : Region.wanted o (yielded ops a.tmps) = true)
    (h : ∀ K : Act → World → Prop, Shut (∀ a' w', S w' → (S w' → wpCut P ops Q S m t a' w') → K a' w') → Oper.wp P o a w K Q) : wpOp P ops Q i (fun a' w' => S w' ∧ (S w' → wpCut P ops Q S m t a' w')) a w := by
  have h1 := h (fun a' w' => S w' ∧ (S w' → wpCut P ops Q S m t a' w')) (fun a' w' h1 h2 => ⟨h1, h2⟩)
  unfold Go.wpOp
  simp only [ho, hw, if_true]
  exact .inl h1
theorem cut_one {i : Nat} {t : Tree} {a : Act} {w : World} {o : Oper} (hn : ¬ i = m) (ho : ops[i]? = some o) (hw : Region.wanted o (yielded ops a.tmps) = true)
    (h : ∀ K : Act → World → Prop, Shut (∀ a' w', S w' → (S w' → wpCut P ops Q S m t a' w') → K a' w') → Oper.wp P o a w K Q) : wpCut P ops Q S m (.one i t) a w := by
  show if _ then _ else _
  rw [if_neg hn]
  exact cut_op ho hw h
theorem cut_here {t : Tree} {a : Act} {w : World} {o : Oper} (ho : ops[m]? = some o) (hw : Region.wanted o (yielded ops a.tmps) = true)
    (h : ∀ K : Act → World → Prop, Shut (∀ a' w', wpTree P ops Q (fun _ => True) t a' w' → K a' w') → Oper.wp P o a w K Q) : wpCut P ops Q S m (.one m t) a w := by
  show if _ then _ else _
  rw [if_pos rfl]
  have h1 := h (fun a' w' => wpTree P ops Q (fun _ => True) t a' w') (fun a' w' h1 => h1)
  unfold Go.wpOp
  simp only [ho, hw, if_true]
  exact .inl h1
theorem cut_two {i j : Nat} {t u : Tree} {a : Act} {w : World} {o o' : Oper} (ho : ops[i]? = some o) (hw : Region.wanted o (yielded ops a.tmps) = true) (ho' : ops[j]? = some o') (hw' : Region.wanted o' (yielded ops a.tmps) = true)
    (h : ∀ K : Act → World → Prop, Shut (∀ a' w', S w' → (S w' → wpCut P ops Q S m t a' w') → K a' w') → Oper.wp P o a w K Q)
    (h' : ∀ K : Act → World → Prop, Shut (∀ a' w', S w' → (S w' → wpCut P ops Q S m u a' w') → K a' w') → Oper.wp P o' a w K Q) : wpCut P ops Q S m (.two i t j u) a w := ⟨cut_op ho hw h, cut_op ho' hw' h'⟩
end
end Go.Proofs.Ytbcaiegglbdonaa

/-
  The chapter's example: what every law of it calls first.
-/
namespace Go.Proofs.Ytbcaiegglbdonaa
open Go Go.RowKit

def exL : List Cell := [⟨⟨#[97, 98]⟩, 7, ⟨#[120]⟩, false⟩, ⟨⟨#[97, 98, 99]⟩, 5, ⟨#[121]⟩, false⟩]
def exT : List UInt8 := [0, 2, 1, 0, 7, 97, 98, 120, 2, 1, 1, 0, 5, 99, 121, 0, 0, 0, 0, 0, 0, 0, 1, 0, 2]
def exB : List UInt8 := [0, 2, 1, 0, 7, 97, 98, 120, 2, 1, 1, 0, 5, 99, 121, 0, 0, 0, 0, 0, 0, 0, 1, 0, 2, 68, 170, 44, 12]
theorem ex_check : checkL exL = 0 := by
  have h1 : ¬ ∃ c ∈ exL, checkN c = 60 := by
    rintro ⟨c, hc, h⟩
    have h2 : checkN c = 0 := by
      simp only [exL, List.mem_cons, List.not_mem_nil, or_false] at hc
      rcases hc with rfl | rfl
      · unfold checkN; rw [if_pos ⟨by decide, by decide, by decide, (fun h => by cases h), by decide⟩]
      · unfold checkN; rw [if_pos ⟨by decide, by decide, by decide, (fun h => by cases h), by decide⟩]
    rw [h2] at h
    exact absurd h (by decide)
  unfold checkL
  rw [if_neg h1, if_pos (by decide +kernel)]
theorem ex_body0 : bodyN exL 2 0 = [] := rfl
theorem ex_tail : tailN exL 2 = exT := by
  have v0 := varN_lt (n := 0) (by decide)
  have v1 := varN_lt (n := 1) (by decide)
  have v2 := varN_lt (n := 2) (by decide)
  have v7 := varN_lt (n := 7) (by decide)
  have v5 := varN_lt (n := 5) (by decide)
  have e0 : encAt exL 2 0 = [0, 2, 1, 0, 7, 97, 98, 120] := by
    show encC 0 ⟨⟨#[97, 98]⟩, 7, ⟨#[120]⟩, false⟩ = _
    show varN 0 ++ (varN 2 ++ (varN 1 ++ ([UInt8.ofNat 0] ++ (varN 7 ++ ([97, 98] ++ [120]))))) = _
    rw [v0, v1, v2, v7]; rfl
  have e1 : encAt exL 2 1 = [2, 1, 1, 0, 5, 99, 121] := by
    have hs : shAt exL 2 1 = 2 := by decide +kernel
    show encC (shAt exL 2 1) ⟨⟨#[97, 98, 99]⟩, 5, ⟨#[121]⟩, false⟩ = _
    rw [hs]
    show varN 2 ++ (varN 1 ++ (varN 1 ++ ([UInt8.ofNat 0] ++ (varN 5 ++ ([99] ++ [121]))))) = _
    rw [v1, v2, v5]; rfl
  have hb : bodyN exL 2 exL.length = [0, 2, 1, 0, 7, 97, 98, 120, 2, 1, 1, 0, 5, 99, 121] := by
    show bodyN exL 2 2 = _
    rw [bodyN_succ, bodyN_succ, ex_body0, e0, e1]; rfl
  have hst : startsN exL 2 exL.length = [0] := by
    unfold startsN
    have : (List.range exL.length).filter (fun i => decide (i % 2 = 0)) = [0] := by decide +kernel
    rw [this]
    rfl
  unfold tailN
  rw [hb, hst]
  decide +kernel
theorem ex_build : buildN exL 2 = (exB, 0) := by
  have hc : crcN exT = 1152003084 := by decide +kernel
  have hb : blockN exL 2 = exB := by
    unfold blockN
    rw [ex_tail, hc]
    decide +kernel
  unfold buildN
  rw [if_neg (by decide), if_neg (by rw [ex_check]; simp)]
  show (if (blockN exL 2).length ≤ 65536 then (blockN exL 2, (0 : Int)) else ([], 3)) = _
  rw [hb, if_pos (by decide)]
theorem ex_fit : ∀ c ∈ exL, fitC c := by
  intro c hc
  simp only [exL, List.mem_cons, List.not_mem_nil, or_false] at hc
  rcases hc with rfl | rfl
  · exact ⟨by decide, by decide, by decide, by decide⟩
  · exact ⟨by decide, by decide, by decide, by decide⟩
theorem ex_open : openN ⟨exB.toArray⟩ = some (exL, 2) := openN_build ex_fit ex_build
theorem ex_adj : adjC exL = true := by decide +kernel
theorem ex_get : getS ⟨#[97, 98, 99]⟩ (seekC exL ⟨#[97, 98, 99]⟩ 9) = (⟨⟨#[97, 98, 99]⟩, 5, ⟨#[121]⟩, false⟩, true) := by
  have hp : posN exL ⟨#[97, 98, 99]⟩ 9 = 1 := by decide +kernel
  have hs : seekC exL ⟨#[97, 98, 99]⟩ 9 = (⟨⟨#[97, 98, 99]⟩, 5, ⟨#[121]⟩, false⟩, true) := by unfold seekC; rw [hp]; rfl
  rw [hs]
  unfold getS
  rw [if_pos ⟨rfl, rfl⟩]
theorem func_eql6 (x y z : Value) (W : World) : (binOp .eql 38 (.func (.func 106) #[] #[x, y, z]) .nilFunc).run Try.prog W = .ok (.bool false) W := by kernel_rfl
theorem ex_len : (⟨exB.toArray⟩ : ByteArray).size = 29 := rfl
theorem ex_cut : (⟨exB.toArray⟩ : ByteArray).extract 0 15 = ⟨#[0, 2, 1, 0, 7, 97, 98, 120, 2, 1, 1, 0, 5, 99, 121]⟩ := by
  apply ByteArray.ext
  rw [ByteArray.data_extract]
  decide +kernel
theorem ex_reads (w : World) : Reads (w.alloc (.cells #[.string ⟨#[97, 98]⟩, .int .u64 7, .string ⟨#[120]⟩, .bool false, .string ⟨#[97, 98, 99]⟩, .int .u64 5, .string ⟨#[121]⟩, .bool false] 25)) (.slice (some ⟨w.heap.size, 0, none⟩) exL.length 2) exL.length 4 (cellVals exL) := by
  refine ⟨rfl, by decide, _, _, rfl, .inr ⟨w.heap.size, 0, rfl, by simp, fun j u hj => ?_⟩⟩
  rw [Nat.zero_add]
  refine (Blk.new w _ _).cell j u ?_
  rw [← hj, ← Array.getElem?_toList]
  rfl
set_option maxRecDepth 100000 in
set_option maxHeartbeats 2000000 in
theorem awake8 (w : World) : Calls Try.prog 36 #[] w fun e w' => e = .returned (.bool true) ∧ Below w.heap.size w w' := by
  have hB := build_spec (ex_reads w) (by decide) (fun c hc => (ex_fit c hc).2.2.1) 2
  rw [ex_build] at hB
  have HB := Lib.hid hB
  have hO := fun W => open_spec ⟨exB.toArray⟩ (by decide) W
  rw [ex_open] at hO
  have HO := Lib.hid hO
  clear hB hO
  have fq := func_eql6
  obtain ⟨S, hS⟩ : ∃ S : ByteArray, ⟨exB.toArray⟩ = S := ⟨_, rfl⟩
  have hz := ex_len
  have hx := ex_cut
  rw [hS] at HB HO hz hx
  have hzI : (S.size : Int) = 29 := by omega
  clear hS hz
  go_enter Try.func36, Try.ntmps36
  go_wp2_with (first | (go_at_call 37; refine HB.out.mono ?_; rintro e w1 ⟨rfl, b1⟩) | (go_at_call 42; refine (HO.out _).mono ?_; rintro e w2 ⟨b2, p, rfl, B2, hp2⟩))
  refine (blk_scan _ _ _ _ ⟨_, rfl⟩).mono ?_
  rintro e w3 ⟨rfl, -, -, -, b3⟩
  go_wp2_with fail
  refine (blk_scan _ _ _ _ ⟨_, rfl⟩).mono ?_
  rintro e w4 ⟨rfl, -, -, -, b4⟩
  have hG := blk_get ((B2.kept b3).kept b4) ex_adj ⟨#[97, 98, 99]⟩ 9
  rw [ex_get] at hG
  have HG := Lib.hid hG
  clear hG
  go_wp2_with (go_at_call 44; refine HG.out.mono ?_; rintro e w5 ⟨he, b5⟩; obtain rfl : e = .returned (.tuple #[.agg #[.string ⟨#[97, 98, 99]⟩, .int .u64 5, .string ⟨#[121]⟩, .bool false], .bool true]) := he)
  have c1 := ((Below.refl w.heap.size w).alloc (Nat.le_refl _) _).trans (b1.mono (by simp))
  have c2 := c1.trans (b2.mono c1.size)
  have c3 := c2.trans (b3.mono c2.size)
  have c4 := c3.trans (b4.mono c3.size)
  have c5 := c4.trans (b5.mono c4.size)
  go_ret
  exact ⟨rfl, c5.alloc c5.size _⟩
end Go.Proofs.Ytbcaiegglbdonaa

/-
  Cells of a block sought: each by its own place, and the next one from each on. Plain.
-/
namespace Go.Proofs.Ytbcaiegglbdonaa
open Go Go.RowKit

theorem checkL_both {l : List Cell} (h : checkL l = 0) : adjC l = true ∧ ∀ c ∈ l, checkN c = 0 := by
  unfold checkL at h
  split at h
  · exact absurd h (by decide)
  · rename_i h1
    split at h
    · rename_i h2
      refine ⟨h2, fun c hc => ?_⟩
      by_cases h3 : checkN c = 60
      · exact absurd ⟨c, hc, h3⟩ h1
      · unfold checkN at h3 ⊢
        split
        · rfl
        · rename_i h4; rw [if_neg h4] at h3; exact absurd rfl h3
    · exact absurd h (by decide)
theorem checkN_ok {c : Cell} (h : checkN c = 0) : 1 ≤ c.key.size ∧ c.key.size ≤ 128 ∧ c.val.size ≤ 1024 ∧ c.seq ≤ 72057594037927935 := by
  unfold checkN at h
  split at h
  · rename_i h1; exact ⟨h1.1, h1.2.1, h1.2.2.1, h1.2.2.2.2⟩
  · exact absurd h (by decide)
theorem fit_of {l : List Cell} (h : checkL l = 0) (hs : ∀ c ∈ l, 0 ≤ c.seq) : ∀ c ∈ l, fitC c := fun c hc => by
  have h1 := checkN_ok ((checkL_both h).2 c hc)
  exact ⟨by omega, by omega, hs c hc, by omega⟩
theorem fit_of2 {l : List Cell} (h : checkL l = 0) (hs : ∀ c ∈ l, 0 ≤ c.seq) : ∀ c ∈ l, fitC c ∧ c.key.size ≤ 65536 ∧ c.val.size ≤ 65536 := fun c hc => by
  have h1 := checkN_ok ((checkL_both h).2 c hc)
  exact ⟨fit_of h hs c hc, by omega, by omega⟩
/-- What Open tells of what Build made. -/
theorem build_open {l : List Cell} {r : Int} {b : List UInt8} (hs : ∀ c ∈ l, 0 ≤ c.seq) (h : buildN l r = (b, 0)) : openN ⟨b.toArray⟩ = some (l, r) ∧ adjC l = true ∧ (∀ c ∈ l, checkN c = 0) ∧ b.length ≤ 65536 ∧ 10 ≤ b.length := by
  obtain ⟨h1, h2, h3, h4, h5⟩ := buildN_ok h
  have h6 := openN_build (fit_of h3 hs) h
  exact ⟨h6, (checkL_both h3).1, (checkL_both h3).2, h5, (openN_some h6).2.1⟩
theorem build_none {l : List Cell} {r : Int} {b : List UInt8} {e : Int} (h : buildN l r = (b, e)) (he : e ≠ 0) : b = [] := by
  unfold buildN at h
  split at h
  · exact (congrArg Prod.fst h).symm
  · split at h
    · exact (congrArg Prod.fst h).symm
    · split at h
      · exact absurd (congrArg Prod.snd h).symm he
      · exact (congrArg Prod.fst h).symm
theorem open_empty : openN ⟨([] : List UInt8).toArray⟩ = none := by
  unfold openN
  rw [if_pos (.inl (by decide))]
theorem pos_at {l : List Cell} (h : adjC l = true) {i : Nat} {c : Cell} (hc : l[i]? = some c) : posN l c.key c.seq = i := by
  have hlt := (List.getElem?_eq_some_iff.1 hc).1
  refine posN_eq l c.key c.seq i (by omega) (fun j x hj hx => adjC_lt h (i - j - 1) j x c hx (by rw [show j + (i - j - 1) + 1 = i by omega]; exact hc)) (fun x hx => ?_)
  rw [hc] at hx
  cases hx
  exact PLt.irrefl _ _
theorem seek_pos {l : List Cell} {k : ByteArray} {q : Int} {i : Nat} {c : Cell} (hp : posN l k q = i) (hc : l[i]? = some c) : seekC l k q = (c, true) := by unfold seekC; rw [hp, hc]
theorem seek_end {l : List Cell} {k : ByteArray} {q : Int} (hp : posN l k q = l.length) : seekC l k q = (Cell.zero, false) := by unfold seekC; rw [hp, List.getElem?_eq_none (Nat.le_refl _)]
theorem seek_at {l : List Cell} (h : adjC l = true) {i : Nat} {c : Cell} (hc : l[i]? = some c) : seekC l c.key c.seq = (c, true) := seek_pos (pos_at h hc) hc
theorem get_at {l : List Cell} (h : adjC l = true) {i : Nat} {c : Cell} (hc : l[i]? = some c) : getS c.key (seekC l c.key c.seq) = (c, true) := by
  rw [seek_at h hc]
  unfold getS
  rw [if_pos ⟨rfl, rfl⟩]
/-! ### The next one -/
theorem not_lt_empty (k : ByteArray) : ¬ SLt k ⟨#[]⟩ := by
  unfold SLt
  cases h : k.data.toList with
  | nil => simp [Op.bytesLess]
  | cons a t => simp [Op.bytesLess]
theorem pos_first {l : List Cell} (hc : ∀ c ∈ l, checkN c = 0) (q : Int) : posN l ⟨#[]⟩ q = 0 := by
  refine posN_eq l _ _ 0 (Nat.zero_le _) (fun j _ hj => by omega) (fun x hx => ?_)
  have h1 := checkN_ok (hc x (List.mem_of_getElem? hx))
  rintro (h2 | ⟨h2, _⟩)
  · exact not_lt_empty _ h2
  · have h3 := h1.1
    rw [h2] at h3
    exact absurd h3 (by decide)
theorem SLt.asymm' {a b : ByteArray} (h : SLt a b) (k : SLt b a) : False := by
  have h1 : PLt a 0 b 0 := .inl h
  exact PLt.irrefl a 0 (h1.trans (.inl k))
theorem pos_next {l : List Cell} (h : adjC l = true) {i : Nat} {c : Cell} (hc : l[i]? = some c) : posN l c.key (c.seq - 1) = i + 1 := by
  have hlt := (List.getElem?_eq_some_iff.1 hc).1
  have h0 : PLt c.key c.seq c.key (c.seq - 1) := .inr ⟨rfl, by omega⟩
  refine posN_eq l c.key (c.seq - 1) (i + 1) hlt (fun j x hj hx => ?_) (fun x hx => ?_)
  · exact adjC_down h (by omega) hx hc h0
  · have h1 := adjC_lt h 0 i c x hc hx
    rintro (h2 | ⟨h2, h3⟩)
    · rcases h1 with h4 | ⟨h4, _⟩
      · exact h2.asymm' h4
      · rw [h4] at h2; exact SLt.irrefl _ h2
    · rcases h1 with h4 | ⟨_, h5⟩
      · rw [h2] at h4; exact SLt.irrefl _ h4
      · omega
theorem less_zero : ∀ (a : List UInt8), Op.bytesLess a (a ++ [0]) = true
  | [] => rfl
  | x :: a => by simp [Op.bytesLess, less_zero a]
theorem less_gap : ∀ (a b : List UInt8), Op.bytesLess a b = true → Op.bytesLess b (a ++ [0]) = false
  | [], [], h => by simp [Op.bytesLess] at h
  | [], y :: b, _ => by
    show (decide (y < 0) || (y == 0 && Op.bytesLess b [])) = false
    have h1 : ¬ y < 0 := by simp
    have h2 : Op.bytesLess b [] = false := by cases b <;> rfl
    simp [h1, h2]
  | x :: a, [], h => by simp [Op.bytesLess] at h
  | x :: a, y :: b, h => by
    simp only [Op.bytesLess, Bool.or_eq_true, decide_eq_true_eq, Bool.and_eq_true, beq_iff_eq] at h
    show (decide (y < x) || (y == x && Op.bytesLess b (a ++ [0]))) = false
    rcases h with h | ⟨rfl, h⟩
    · have h1 : ¬ y < x := UInt8.lt_asymm h
      have h2 : ¬ y = x := by rintro rfl; exact UInt8.lt_irrefl _ h
      simp [h1, h2]
    · have := less_gap a b h
      simp [this]
def keyZ (k : ByteArray) : ByteArray := ⟨k.data ++ #[0]⟩
theorem keyZ_list (k : ByteArray) : (keyZ k).data.toList = k.data.toList ++ [0] := by simp [keyZ]
theorem pos_nextZ {l : List Cell} (h : adjC l = true) (hk : ∀ c ∈ l, checkN c = 0) (hs : ∀ c ∈ l, 0 ≤ c.seq) {i : Nat} {c : Cell} (hc : l[i]? = some c) (h0 : c.seq = 0) : posN l (keyZ c.key) 72057594037927935 = i + 1 := by
  have hlt := (List.getElem?_eq_some_iff.1 hc).1
  have hz : SLt c.key (keyZ c.key) := by unfold SLt; rw [keyZ_list]; exact less_zero _
  refine posN_eq l _ _ (i + 1) hlt (fun j x hj hx => ?_) (fun x hx => ?_)
  · exact adjC_down h (by omega) hx hc (.inl hz)
  · have hm := List.mem_of_getElem? hx
    have h1 := adjC_lt h 0 i c x hc hx
    have h2 := checkN_ok (hk x hm)
    have h3 := hs x hm
    have h4 : SLt c.key x.key := by
      rcases h1 with h4 | ⟨_, h5⟩
      · exact h4
      · omega
    rintro (h5 | ⟨_, h6⟩)
    · unfold SLt at h4 h5
      rw [keyZ_list, less_gap _ _ h4] at h5
      exact absurd h5 (by simp)
    · omega
end Go.Proofs.Ytbcaiegglbdonaa

/-
  The laws' 'same' of two slices of cells.
-/
namespace Go.Proofs.Ytbcaiegglbdonaa
open Go.RowKit


set_option maxRecDepth 100000 in
set_option maxHeartbeats 1000000 in
theorem same8_spec {w : World} {v1 v2 : Value} {l1 l2 : List Cell} (h1 : Reads w v1 l1.length 4 (cellVals l1)) (h2 : Reads w v2 l2.length 4 (cellVals l2)) :
    Calls Try.prog 41 #[v1, v2] w fun e w' => e = .returned (.bool (decide (l1 = l2))) ∧ Below w.heap.size w w' := by
  obtain ⟨A1, c1, rfl⟩ := h1.form
  obtain ⟨A2, c2, rfl⟩ := h2.form
  have hm1 := h1.2.1
  have hm2 := h2.2.1
  have H1 := Lib.hid h1
  have H2 := Lib.hid h2
  clear h1 h2
  by_cases hl : l1.length = l2.length
  · have hlb : ((l1.length : Int) != (l2.length : Int)) = false := by simp [hl]
    have HL := Lib.hid hl
    clear hl
    go_enter Try.func41, Try.ntmps41
    go_wp2
    go_loopw [13] (SameCRel w l1 l2) (fun i _ => l1.length - (intOf i).toNat)
    case atStart => exact ⟨0, by omega, rfl, rfl, Below.refl _ _⟩
    case round =>
      obtain ⟨k, hk, rfl, heq, hbel⟩ := hrel
      by_cases hlt : k < l1.length
      · obtain ⟨x, hx⟩ : ∃ x, l1[k]? = some x := ⟨_, List.getElem?_eq_getElem hlt⟩
        obtain ⟨y, hy⟩ : ∃ y, l2[k]? = some y := ⟨_, List.getElem?_eq_getElem (by have := HL.out; omega)⟩
        obtain ⟨b1, o1, rfl, g1, p0, p1, p2, p3⟩ := (H1.out.kept hbel).cell_at hx
        obtain ⟨b2, o2, rfl, g2, q0, q1, q2, q3⟩ := (H2.out.kept hbel).cell_at hy
        have i1 : (k : Int) < (l1.length : Int) := by omega
        have i2 : (k : Int) < (l2.length : Int) := by have := HL.out; omega
        have i0 : (0 : Int) ≤ (k : Int) := by omega
        have HX := Lib.hid hx
        have HY := Lib.hid hy
        have HE := Lib.hid heq
        clear hx hy heq
        have hne := cell_neq x y
        by_cases hxy : x = y
        · have hb : decide (x = y) = true := by simp [hxy]
          rw [hb] at hne
          have HXY := Lib.hid hxy
          clear hxy hb
          go_wp2
          go_quiet (fail)
          go_wp2
          go_roundw
          case rel => exact ⟨k + 1, by omega, by go_num, same_step HE.out HX.out HY.out HXY.out, below_drewN hbel nq⟩
          case measure => simp [intOf]; omega
        · have hb : decide (x = y) = false := by simp [hxy]
          rw [hb] at hne
          have hnl : decide (l1 = l2) = false := by
            simp; rintro rfl; exact hxy (Option.some.inj (HX.out.symm.trans HY.out))
          have HN := Lib.hid hnl
          clear hnl hxy hb
          go_wp2
          go_quiet (fail)
          go_wp2
          go_ret
          exact ⟨ret_bool HN.out.symm, below_drewN hbel nq⟩
      · obtain rfl : k = l1.length := by omega
        have heq' : decide (l1 = l2) = true := by
          simp
          have := heq
          rwa [List.take_length, HL.out, List.take_length] at this
        have HN := Lib.hid heq'
        clear heq heq'
        go_wp2
        go_ret
        exact ⟨ret_bool HN.out.symm, hbel⟩
  · have hlb : ((l1.length : Int) != (l2.length : Int)) = true := by simp; omega
    have hne : decide (l1 = l2) = false := by simp; rintro rfl; exact hl rfl
    rw [hne]
    clear hne hl
    go_enter Try.func41, Try.ntmps41
    go_wp2
    go_ret
    exact ⟨rfl, Below.refl _ _⟩

end Go.Proofs.Ytbcaiegglbdonaa

/-
  The walks of the laws BlockSeeks and BlockBack.
-/
namespace Go.Proofs.Ytbcaiegglbdonaa
open Go Go.RowKit

def SkRel (wo : World) (l : List Cell) (ks qs i : Value) (W : World) : Prop :=
  ∃ (n : Nat) (k : ByteArray) (q : Int), i = .int .i64 n ∧ ks = .string k ∧ qs = .int .u64 q ∧ n ≤ l.length ∧ k.size ≤ 200 ∧ posN l k q = n ∧ Below wo.heap.size wo W
set_option maxRecDepth 100000 in
set_option maxHeartbeats 4000000 in
theorem seeks_walk {w : World} {v : Value} {l : List Cell} (h : Reads w v l.length 4 (cellVals l)) (hl : l.length ≤ 2932031007402) (hs : ∀ c ∈ l, 0 ≤ c.seq) (r : Int) :
    Calls Try.prog 12 #[v, .int .i64 r] w fun e w' => e = .returned (.bool true) ∧ Below w.heap.size w w' := by
  obtain ⟨A, cap, rfl⟩ := h.form
  have H := Lib.hid h
  have hB := fun (W : World) (v : Value) (hv : Reads W v l.length 4 (cellVals l)) => build_spec hv hl hs r
  obtain ⟨X, hX⟩ : ∃ X, (buildN l r).1 = X := ⟨_, rfl⟩
  obtain ⟨E, hE⟩ : ∃ E, (buildN l r).2 = E := ⟨_, rfl⟩
  rw [hX, hE] at hB
  have HB := Lib.hid hB
  have hb : buildN l r = (X, E) := by rw [← hX, ← hE]
  have HSQ := Lib.hid hs
  clear h hB hX hE hs
  by_cases hE0 : ¬ E = 0
  · have hn := build_none hb hE0
    have hEq : (E == 0) = false := by simpa using hE0
    subst hn
    have hO := fun W => open_spec ⟨([] : List UInt8).toArray⟩ (by decide) W
    rw [open_empty] at hO
    have HO := Lib.hid hO
    clear hO hb
    go_enter Try.func12, Try.ntmps12
    go_wp2_with (first | (go_at_call 36; refine (awake8 w).mono ?_; rintro e w1 ⟨rfl, b1⟩) | (go_at_call 37; refine (HB.out _ _ (H.out.kept b1)).mono ?_; rintro e w2 ⟨rfl, b2⟩) | (go_at_call 42; refine (HO.out _).mono ?_; rintro e w3 ⟨b3, rfl⟩))
    go_ret
    have c2 := b1.trans (b2.mono b1.size)
    exact ⟨rfl, c2.trans (b3.mono c2.size)⟩
  · have hE0 : E = 0 := by omega
    subst hE0
    obtain ⟨hop, hadj, hck, hxz, -⟩ := build_open HSQ.out hb
    have hO := fun W => open_spec ⟨X.toArray⟩ (by show X.length ≤ _; omega) W
    rw [hop] at hO
    have HO := Lib.hid hO
    have HCK := Lib.hid hck
    have HAD := Lib.hid hadj
    clear hO hb hop hck hadj hxz
    obtain ⟨S, hS⟩ : ∃ S : ByteArray, ⟨X.toArray⟩ = S := ⟨_, rfl⟩
    rw [hS] at HO
    have HB' : RowKit.Hid (∀ (W : World) (v : Value), Reads W v l.length 4 (cellVals l) → Calls Try.prog 37 #[v, .int .i64 r] W fun e w' => e = .returned (.tuple #[.string S, .int .i64 0]) ∧ Below W.heap.size W w') := by rw [← hS]; exact HB
    clear hS HB
    go_enter Try.func12, Try.ntmps12
    go_wp2_with (first | (go_at_call 36; refine (awake8 w).mono ?_; rintro e w1 ⟨rfl, b1⟩) | (go_at_call 37; refine (HB'.out _ _ (H.out.kept b1)).mono ?_; rintro e w2 ⟨rfl, b2⟩) | (go_at_call 42; refine (HO.out _).mono ?_; rintro e w3 ⟨b3, p, rfl, B3, hp3⟩))
    have c2 := b1.trans (b2.mono b1.size)
    have c3 := c2.trans (b3.mono c2.size)
    go_loopw [9, 10, 46] (SkRel w3 l) (fun _ _ i _ => l.length - (intOf i).toNat)
    case atStart => exact ⟨0, ⟨#[]⟩, 72057594037927935, rfl, rfl, rfl, Nat.zero_le _, by decide, pos_first HCK.out _, Below.refl _ _⟩
    case round =>
      obtain ⟨n, k, q, rfl, rfl, rfl, hn, hks, hpos, hb⟩ := hrel
      have cb := c3.trans (hb.mono c3.size)
      have HP := Lib.hid hpos
      clear hpos
      by_cases hlt : n < l.length
      · obtain ⟨x, hx⟩ : ∃ x, l[n]? = some x := ⟨_, List.getElem?_eq_getElem hlt⟩
        obtain ⟨b, o, rfl, hbl, p0, p1, p2, p3⟩ := (H.out.kept cb).cell_at hx
        have j0 : (0 : Int) ≤ (n : Int) := by omega
        have j1 : (n : Int) < (l.length : Int) := by omega
        have hbA : Below wr.heap.size wr (wr.alloc (.cells #[.string x.key, .int .u64 x.seq, .string x.val, .bool x.gone] 25)) := (Below.refl _ _).alloc (Nat.le_refl _) _
        have hSK := blk_seek ((B3.kept hb).kept hbA) HAD.out k q
        rw [seek_pos HP.out hx] at hSK
        have HSK := Lib.hid hSK
        have HX := Lib.hid hx
        have hbox := Blk.new wr #[.string x.key, .int .u64 x.seq, .string x.val, .bool x.gone] 25
        have hne := cell_neq x x
        rw [decide_eq_true rfl] at hne
        have hm := List.mem_of_getElem? hx
        have hx0 := HSQ.out x hm
        have hx1 := checkN_ok (HCK.out x hm)
        have hkl : x.key.size ≤ 128 := hx1.2.1
        have hsl : x.seq ≤ 72057594037927935 := hx1.2.2.2
        clear hx hSK hm hx1
        by_cases h0 : x.seq = 0
        · have h0q : (x.seq == 0) = true := by simpa using h0
          have HZ := Lib.hid h0
          have hcat : ∀ W, (Op.stringOp .add x.key ⟨#[0]⟩).run Try.prog W = .ok (.string (keyZ x.key)) W := fun W => by
            have h3 : keyZ x.key = x.key ++ ⟨#[0]⟩ := by apply ByteArray.ext; simp [keyZ, ByteArray.data_append]
            rw [h3]
            exact run_string_add W _ _ (by omega) (by decide)
          clear h0
          go_wp2_with (go_at_call 45; refine HSK.out.mono ?_; rintro e w5 ⟨he, hb5⟩; obtain rfl : e = .returned (.tuple #[.agg #[.string x.key, .int .u64 x.seq, .string x.val, .bool x.gone], .bool true]) := he; obtain ⟨y0, y1, y2, y3⟩ := cell4 (hbox.kept hb5); have yl := (hbox.kept hb5).lt)
          go_quiet (fail)
          go_wp2_with fail
          go_roundw
          case rel =>
            have e1 := hb.trans ((hbA.trans (hb5.mono hbA.size)).mono hb.size)
            exact ⟨n + 1, keyZ x.key, 72057594037927935, by go_num, rfl, rfl, by omega, by show (x.key.data ++ #[0]).size ≤ 200; rw [Array.size_append]; show x.key.size + 1 ≤ 200; omega, pos_nextZ HAD.out HCK.out HSQ.out HX.out HZ.out, below_drewN (e1.alloc e1.size _) nq⟩
          case measure => simp [intOf]; omega
        · have h0q : (x.seq == 0) = false := by simpa using h0
          have hw1 : IntKind.u64.wrap (x.seq - 1) = x.seq - 1 := by rw [IntKind.wrap_u64]; omega
          go_wp2_with (go_at_call 45; refine HSK.out.mono ?_; rintro e w5 ⟨he, hb5⟩; obtain rfl : e = .returned (.tuple #[.agg #[.string x.key, .int .u64 x.seq, .string x.val, .bool x.gone], .bool true]) := he; obtain ⟨y0, y1, y2, y3⟩ := cell4 (hbox.kept hb5); have yl := (hbox.kept hb5).lt)
          go_quiet (fail)
          go_wp2_with fail
          go_roundw
          case rel =>
            have e1 := hb.trans ((hbA.trans (hb5.mono hbA.size)).mono hb.size)
            exact ⟨n + 1, x.key, x.seq - 1, by go_num, rfl, rfl, by omega, by omega, pos_next HAD.out HX.out, below_drewN (e1.alloc e1.size _) nq⟩
          case measure => simp [intOf]; omega
      · obtain rfl : n = l.length := by omega
        have hSK := blk_seek (B3.kept hb) HAD.out k q
        rw [seek_end HP.out] at hSK
        have HSK := Lib.hid hSK
        clear hSK
        go_wp2_with (go_at_call 45; refine HSK.out.mono ?_; rintro e w5 ⟨he, hb5⟩; obtain rfl : e = .returned (.tuple #[.agg #[.string Cell.zero.key, .int .u64 0, .string Cell.zero.val, .bool false], .bool false]) := he)
        go_ret
        have e1 := cb.trans (hb5.mono cb.size)
        exact ⟨rfl, e1.alloc e1.size _⟩
end Go.Proofs.Ytbcaiegglbdonaa

/-
  The unlike keys of cells: the program's keys.
-/
namespace Go.Proofs.Ytbcaiegglbdonaa
open Go Go.RowKit
set_option linter.unusedSimpArgs false

def keyB (l : List Cell) (i : Nat) : ByteArray := ((l[i]?).map (·.key)).getD ⟨#[]⟩
def keysS (l : List Cell) : Nat → List ByteArray
  | 0 => []
  | i + 1 => if i = 0 ∨ keyB l (i - 1) ≠ keyB l i then keysS l i ++ [keyB l i] else keysS l i
def keysN (l : List Cell) : List ByteArray := keysS l l.length
theorem keysS_yes {l : List Cell} {i : Nat} (h : i = 0 ∨ keyB l (i - 1) ≠ keyB l i) : keysS l (i + 1) = keysS l i ++ [keyB l i] := by
  show (if _ then _ else _) = _
  rw [if_pos h]
theorem keysS_no {l : List Cell} {i : Nat} (h : ¬ (i = 0 ∨ keyB l (i - 1) ≠ keyB l i)) : keysS l (i + 1) = keysS l i := by
  show (if _ then _ else _) = _
  rw [if_neg h]
theorem keysS_len (l : List Cell) (i : Nat) : (keysS l i).length ≤ i := by
  induction i with
  | zero => exact Nat.le_refl _
  | succ i ih =>
    by_cases h : i = 0 ∨ keyB l (i - 1) ≠ keyB l i
    · rw [keysS_yes h, List.length_append]; simp only [List.length_cons, List.length_nil]; omega
    · rw [keysS_no h]; omega
theorem keyB_eq {l : List Cell} {i : Nat} {x : Cell} (h : l[i]? = some x) : keyB l i = x.key := by unfold keyB; rw [h]; rfl
theorem Try.infoStr : (Try.prog.info? 9).map (fun i => (i.zero, i.size, i.bytes)) = some (some (.string ⟨#[]⟩), 1, 16) := by kernel_rfl
def KyRel (w : World) (l : List Cell) (out i : Value) (W : World) : Prop :=
  ∃ k : Nat, k ≤ l.length ∧ i = .int .i64 k ∧ Below w.heap.size w W ∧ W.ownsRow w.heap.size 9 1 out (keysS l k).length ((keysS l k).map Value.string)
def KeysPost (w : World) (ks : List ByteArray) (e : Ending) (w' : World) : Prop :=
  ∃ v, e = .returned v ∧ Below w.heap.size w w' ∧ w'.ownsRow w.heap.size 9 1 v ks.length (ks.map Value.string)
set_option maxRecDepth 100000 in
set_option maxHeartbeats 2000000 in
theorem keys_spec {w : World} {l : List Cell} {A : Option Addr} {cap : Nat} (h : Reads w (.slice A l.length cap) l.length 4 (cellVals l)) (hl : l.length ≤ 65536) :
    Calls Try.prog 111 #[.slice A l.length cap] w (KeysPost w (keysN l)) := by
  obtain ⟨i0, hi, hz0, hz1, hz2⟩ := info_parts Try.infoStr
  have H := Lib.hid h
  clear h
  go_enter Try.func111, Try.ntmps111
  go_wp2_with fail
  go_loopw [3, 8] (KyRel w l) (fun _ i _ => l.length - (intOf i).toNat)
  case atStart => exact ⟨0, by omega, rfl, Below.refl _ _, World.ownsRow_nil _ _ _ _⟩
  case round =>
    obtain ⟨k, hk, rfl, hb, hrow⟩ := hrel
    by_cases hlt : k < l.length
    · obtain ⟨x, hx⟩ : ∃ x, l[k]? = some x := ⟨_, List.getElem?_eq_getElem hlt⟩
      obtain ⟨b, o, rfl, hbl, c0, c1, c2, c3⟩ := (H.out.kept hb).cell_at hx
      have hcl := keysS_len l k
      have hkx := keyB_eq hx
      have HX := Lib.hid hx
      have HKX := Lib.hid hkx
      have j0 : (0 : Int) ≤ (k : Int) := by omega
      have j1 : (k : Int) < (l.length : Int) := by omega
      have p1 : (keysS l k).length + 1 ≤ maxLen := by unfold maxLen; omega
      have p2 : ((keysS l k).length + 1) * 16 ≤ 140737488355328 := by omega
      have hba : Below wr.heap.size wr (wr.alloc (.cells #[.string x.key, .int .u64 x.seq, .string x.val, .bool x.gone] 25)) := (Below.refl _ _).alloc (Nat.le_refl _) _
      obtain ⟨y0, y1, y2, y3⟩ := cell4 (Blk.new wr #[.string x.key, .int .u64 x.seq, .string x.val, .bool x.gone] 25)
      have yl := (Blk.new wr #[.string x.key, .int .u64 x.seq, .string x.val, .bool x.gone] 25).lt
      have HY := Lib.hid (@keysS_yes l k)
      have HN := Lib.hid (@keysS_no l k)
      rw [hkx] at HY HN
      have HR := Lib.hid hrow
      have HB := Lib.hid hb
      clear hx hrow hkx hb
      by_cases hk0 : k = 0
      · have hkq : ((k : Int) == 0) = true := by simpa using hk0
        have HA := Lib.hid (HY.out (.inl hk0))
        clear hk0
        go_wp2_with fail
        go_quiet (fail)
        have hbq := below_drewN ((Below.refl wr.heap.size wr).alloc (Nat.le_refl _) (.cells #[.string x.key, .int .u64 x.seq, .string x.val, .bool x.gone] 25)) nq
        have HRQ := own_kept HR.out hbq
        have p3 : w.heap.size ≤ (((wr.alloc (.cells #[.string x.key, .int .u64 x.seq, .string x.val, .bool x.gone] 25)).drewN nq).alloc (.cells #[.string x.key] 9)).heap.size := by have := HB.out.size; have := hbq.size; simp only [World.size_alloc] at *; omega
        go_wp2_with (at_builtin; refine wpList_append_row rfl _ _ 142 rfl w.heap.size 9 i0 (.string ⟨#[]⟩) 1 16 (by kernel_rfl) hi hz0 hz1 hz2 rfl (by decide) u3 _ _ rfl (HRQ.alloc _) ⟨wr.heap.size + 1, 0, none⟩ 1 1 [.string x.key] rfl rfl (by have := cell_one_new ((wr.alloc (.cells #[.string x.key, .int .u64 x.seq, .string x.val, .bool x.gone] 25)).drewN nq) (.string x.key) 9; rw [show ((wr.alloc (.cells #[.string x.key, .int .u64 x.seq, .string x.val, .bool x.gone] 25)).drewN nq).heap.size = wr.heap.size + 1 from World.size_alloc _ _] at this; exact this) (by simp [Value.oneCell']) p1 p2 p3 ?_; intro rs' w4 own4 hgr hfr)
        go_roundw
        case rel =>
          refine ⟨k + 1, by omega, by go_num, ?_, ?_⟩
          · have e1 := hbq.alloc hbq.size (.cells #[.string x.key] 9)
            exact (HB.out.trans (e1.mono HB.out.size)).grown hgr p3 (fun z hz => (HR.out.lt z hz).1)
          · rw [HA.out]
            simpa using own4
        case measure => simp [intOf]; omega
      · have hkq : ((k : Int) == 0) = false := by simpa using hk0
        obtain ⟨z, hz⟩ : ∃ z, l[k - 1]? = some z := ⟨_, List.getElem?_eq_getElem (by omega)⟩
        obtain ⟨b', o', e', _, d0, _, _, _⟩ := (H.out.kept HB.out).cell_at hz
        cases e'
        have hkz := keyB_eq hz
        rw [hkz] at HY HN
        have q0 : (0 : Int) ≤ (k : Int) - 1 := by omega
        have q1 : (k : Int) - 1 < (l.length : Int) := by omega
        have hw1 : IntKind.i64.wrap ((k : Int) - 1) = (k : Int) - 1 := IntWalk.i64_in _ (by omega)
        have ht1 : ((k : Int) - 1).toNat = k - 1 := by omega
        clear hz hkz
        by_cases hne : z.key = x.key
        · have HA := Lib.hid (HN.out (by rintro (h | h); exact hk0 h; exact h hne))
          go_wp2_with fail
          go_quiet (fail)
          have hbq := below_drewN ((Below.refl wr.heap.size wr).alloc (Nat.le_refl _) (.cells #[.string x.key, .int .u64 x.seq, .string x.val, .bool x.gone] 25)) nq
          have HRQ := own_kept HR.out hbq
          go_wp2_with fail
          go_roundw
          case rel =>
            exact ⟨k + 1, by omega, by go_num, HB.out.trans (hbq.mono HB.out.size), by rw [HA.out]; exact HRQ⟩
          case measure => simp [intOf]; omega
        · have HA := Lib.hid (HY.out (.inr hne))
          have hq : (z.key.toList == x.key.toList) = false := str_beq_false.2 hne
          go_wp2_with fail
          go_quiet (fail)
          have hbq := below_drewN ((Below.refl wr.heap.size wr).alloc (Nat.le_refl _) (.cells #[.string x.key, .int .u64 x.seq, .string x.val, .bool x.gone] 25)) nq
          have HRQ := own_kept HR.out hbq
          have p3 : w.heap.size ≤ (((wr.alloc (.cells #[.string x.key, .int .u64 x.seq, .string x.val, .bool x.gone] 25)).drewN nq).alloc (.cells #[.string x.key] 9)).heap.size := by have := HB.out.size; have := hbq.size; simp only [World.size_alloc] at *; omega
          go_wp2_with (at_builtin; refine wpList_append_row rfl _ _ 142 rfl w.heap.size 9 i0 (.string ⟨#[]⟩) 1 16 (by kernel_rfl) hi hz0 hz1 hz2 rfl (by decide) u3 _ _ rfl (HRQ.alloc _) ⟨wr.heap.size + 1, 0, none⟩ 1 1 [.string x.key] rfl rfl (by have := cell_one_new ((wr.alloc (.cells #[.string x.key, .int .u64 x.seq, .string x.val, .bool x.gone] 25)).drewN nq) (.string x.key) 9; rw [show ((wr.alloc (.cells #[.string x.key, .int .u64 x.seq, .string x.val, .bool x.gone] 25)).drewN nq).heap.size = wr.heap.size + 1 from World.size_alloc _ _] at this; exact this) (by simp [Value.oneCell']) p1 p2 p3 ?_; intro rs' w4 own4 hgr hfr)
          go_roundw
          case rel =>
            refine ⟨k + 1, by omega, by go_num, ?_, ?_⟩
            · have e1 := hbq.alloc hbq.size (.cells #[.string x.key] 9)
              exact (HB.out.trans (e1.mono HB.out.size)).grown hgr p3 (fun z hz => (HR.out.lt z hz).1)
            · rw [HA.out]
              simpa using own4
          case measure => simp [intOf]; omega
    · obtain rfl : k = l.length := by omega
      go_wp2_with fail
      go_ret
      exact ⟨_, rfl, hb, hrow⟩
end Go.Proofs.Ytbcaiegglbdonaa

/-
  A table's index read: the program's Table.open.
-/
namespace Go.Proofs.Ytbcaiegglbdonaa
open Go Go.RowKit
set_option linter.unusedSimpArgs false

/-! ### Plain -/
structure Ent where
  key : ByteArray
  str : ByteArray
  cells : List Cell
  r : Int
def entR (s : ByteArray) : Option (ByteArray × Nat × Nat × ByteArray) :=
  let t := textR s 0
  let a := varR t.2.1 t.2.2
  let z := varR a.2.1 a.2.2
  if z.2.2 ≠ 0 then none else some (t.1, a.1, z.1, z.2.1)
def idxN (b : ByteArray) (fa : Nat) : Nat → ByteArray → Option (List Ent)
  | 0, s => if s.size = 0 then some [] else none
  | n + 1, s => if s.size = 0 then some [] else match entR s with
    | none => none
    | some (k, p, z, rest) => if fa < p ∨ fa - p < z then none else match openN (b.extract p (p + z)) with
      | none => none
      | some (l, r) => if l = [] then none else (idxN b fa n rest).map (⟨k, b.extract p (p + z), l, r⟩ :: ·)
theorem varR_shrinks {s t : ByteArray} {n : Nat} (h : varR s 0 = (n, t, 0)) : t.size < s.size := by
  unfold varR at h
  rw [if_neg (by simp)] at h
  split at h
  · rename_i h1
    injection h with _ h2
    injection h2 with _ h3
    exact absurd h3 h1
  · rename_i h1
    have h1 : (shapeN s.data.toList).2.2 = 0 := Decidable.byContradiction h1
    injection h with _ h2
    injection h2 with h2 _
    have hp : ∀ (l : List UInt8) (i n : Nat), (shp i n l).2.2 = 0 → 1 ≤ (shp i n l).2.1 ∧ 1 ≤ l.length := by
      intro l
      induction l with
      | nil => intro i n h; simp [shp] at h
      | cons c l ih =>
        intro i n h
        rw [shp] at h ⊢
        split at h
        · simp at h
        · rename_i h9
          rw [if_neg h9]
          split at h
          · rename_i hc
            rw [if_pos hc]
            split at h
            · simp at h
            · rename_i hz
              rw [if_neg hz]
              exact ⟨by simp, by simp⟩
          · rename_i hc
            rw [if_neg hc]
            exact ⟨(ih _ _ h).1, by simp⟩
    obtain ⟨h4, h5⟩ := hp s.data.toList 0 0 h1
    have h5 : 1 ≤ s.size := h5
    have h4 : 1 ≤ (shapeN s.data.toList).2.1 := h4
    rw [← h2, ByteArray.size_extract]
    omega
theorem textR_err {s : ByteArray} {e : Int} (h : e ≠ 0) : (textR s e).2.2 = e := by
  have h1 : varR s e = (0, s, e) := by unfold varR; rw [if_pos h]
  unfold textR
  rw [h1]
  dsimp only
  rw [if_pos h]
theorem varR_keeps {s : ByteArray} {e : Int} (h : e ≠ 0) : (varR s e).2.2 = e := by unfold varR; rw [if_pos h]
theorem varR_ok {s : ByteArray} (h : (varR s 0).2.2 = 0) : varR s 0 = ((varR s 0).1, (varR s 0).2.1, 0) := by
  obtain ⟨V, hV⟩ : ∃ V, varR s 0 = V := ⟨_, rfl⟩
  rw [hV] at h ⊢
  obtain ⟨a, b, c⟩ := V
  dsimp only at h ⊢
  rw [h]
theorem entR_shrinks {s rest k : ByteArray} {p z : Nat} (h : entR s = some (k, p, z, rest)) : rest.size < s.size := by
  unfold entR at h
  dsimp only at h
  split at h
  · cases h
  · rename_i h0
    have h0 := Decidable.byContradiction h0
    have e1 : (textR s 0).2.2 = 0 := Decidable.byContradiction fun hn => by
      have h1 := varR_keeps (s := (textR s 0).2.1) hn
      have h2 := varR_keeps (s := (varR (textR s 0).2.1 (textR s 0).2.2).2.1) (e := (varR (textR s 0).2.1 (textR s 0).2.2).2.2) (by rw [h1]; exact hn)
      rw [h0, h1] at h2
      exact hn h2.symm
    rw [e1] at h0 h
    have e2 : (varR (textR s 0).2.1 0).2.2 = 0 := Decidable.byContradiction fun hn => by
      have h2 := varR_keeps (s := (varR (textR s 0).2.1 0).2.1) hn
      rw [h0] at h2
      exact hn h2.symm
    rw [e2] at h0 h
    have h3 := varR_shrinks (varR_ok h0)
    have h4 := varR_shrinks (varR_ok e2)
    have h5 := textR_size s 0
    injection h with h
    injection h with _ h
    injection h with _ h
    injection h with _ h
    rw [← h]
    omega
theorem idxN_end (b : ByteArray) (fa n : Nat) {s : ByteArray} (h : s.size = 0) : idxN b fa n s = some [] := by
  cases n <;> (rw [idxN, if_pos h])
theorem idxN_step (b : ByteArray) (fa n : Nat) {s : ByteArray} (h : ¬ s.size = 0) : idxN b fa (n + 1) s = match entR s with
    | none => none
    | some (k, p, z, rest) => if fa < p ∨ fa - p < z then none else match openN (b.extract p (p + z)) with
      | none => none
      | some (l, r) => if l = [] then none else (idxN b fa n rest).map (⟨k, b.extract p (p + z), l, r⟩ :: ·) := by
  rw [idxN, if_neg h]
theorem idxN_fuel (b : ByteArray) (fa : Nat) : ∀ (n m : Nat) (s : ByteArray), s.size ≤ n → s.size ≤ m → idxN b fa n s = idxN b fa m s := by
  intro n
  induction n with
  | zero =>
    intro m s h1 _
    rw [idxN_end b fa 0 (by omega), idxN_end b fa m (by omega)]
  | succ n ih =>
    intro m s h1 h2
    by_cases h0 : s.size = 0
    · rw [idxN_end b fa _ h0, idxN_end b fa _ h0]
    · obtain ⟨m, rfl⟩ : ∃ m', m = m' + 1 := ⟨m - 1, by omega⟩
      rw [idxN_step b fa n h0, idxN_step b fa m h0]
      cases he : entR s with
      | none => rfl
      | some x =>
        obtain ⟨k, p, z, rest⟩ := x
        have := entR_shrinks he
        dsimp only
        rw [ih m rest (by omega) (by omega)]

/-! ### Blocks of other types stay -/
def Stay (T : TypeId → Prop) (W W' : World) : Prop := W.heap.size ≤ W'.heap.size ∧ ∀ b arr t, T t → Blk W b arr t → Blk W' b arr t
theorem Stay.refl (T : TypeId → Prop) (W : World) : Stay T W W := ⟨Nat.le_refl _, fun _ _ _ _ h => h⟩
theorem Stay.trans {T : TypeId → Prop} {A B C : World} (h : Stay T A B) (k : Stay T B C) : Stay T A C := ⟨Nat.le_trans h.1 k.1, fun b arr t ht hb => k.2 b arr t ht (h.2 b arr t ht hb)⟩
theorem Stay.of_below {T : TypeId → Prop} {W W' : World} (h : Below W.heap.size W W') : Stay T W W' := ⟨h.size, fun _ _ _ _ hb => hb.kept h⟩
theorem Stay.setCell {T : TypeId → Prop} {W : World} {p : Nat} {arr : Array Value} {t : TypeId} (h : Blk W p arr t) (hn : ¬ T t) (i : Nat) (v : Value) : Stay T W (W.setCell ⟨p, i, none⟩ v) := by
  refine ⟨by simp, fun b arr' t' ht hb => hb.setCell_ne ?_ i v⟩
  rintro rfl
  have := hb.symm.trans h
  injection this with this
  injection this with _ h3 _
  exact hn (h3 ▸ ht)
theorem Stay.only {T : TypeId → Prop} {S : Nat → Prop} {W W' : World} (ho : Only S W W') (h : ∀ k, S k → ∃ arr t, Blk W k arr t ∧ ¬ T t) : Stay T W W' := by
  refine ⟨ho.size, fun b arr' t' ht hb => hb.only ho (fun hS => ?_)⟩
  obtain ⟨arr, t, h1, h2⟩ := h b hS
  have := hb.symm.trans h1
  injection this with this
  injection this with _ h3 _
  exact h2 (h3 ▸ ht)
theorem Stay.grown {T : TypeId → Prop} {W W' : World} {base size n : Nat} {e : TypeId} {v : Value} {xs : List Value} (h : W.ownsRow base e size v n xs) (hg : W.grownBy W' v.ownBlock) (hn : ¬ T e) : Stay T W W' := by
  obtain ⟨_, _, _, hs, hk⟩ := hg
  refine ⟨hs, fun b arr' t' ht hb => (hk b hb.lt (fun he => ?_)).trans hb⟩
  rcases h.2 with ⟨rfl, _⟩ | ⟨g, cap, cur, rfl, _, hgc, _⟩
  · cases he
  · cases he
    have := hb.symm.trans hgc
    injection this with this
    injection this with _ h3 _
    exact hn (h3 ▸ ht)
theorem own_stay {T : TypeId → Prop} {W W' : World} {base size n : Nat} {e : TypeId} {v : Value} {xs : List Value} (h : W.ownsRow base e size v n xs) (hs : Stay T W W') (ht : T e) : W'.ownsRow base e size v n xs := by
  refine ⟨h.1, ?_⟩
  rcases h.2 with h2 | ⟨g, cap', cur, h1, hb, hg, hr2⟩
  · exact .inl h2
  · exact .inr ⟨g, cap', cur, h1, hb, hs.2 g cur e ht hg, hr2⟩
theorem BlkIs.stay {T : TypeId → Prop} {W W' : World} {p : Nat} {s : ByteArray} {l : List Cell} {r : Int} {m : Bool} (h : BlkIs W p s l r m) (hs : Stay T W W') (h1 : T 85) (h2 : T 25) : BlkIs W' p s l r m := by
  obtain ⟨v, B, h3, h4⟩ := h.ex
  exact ⟨⟨v, B, hs.2 _ _ _ h1 h3, own_stay h4 hs h2⟩, h.len⟩
/-! ### The table in memory -/
def tabArr (vb : Value) (x : FootN) (vB vF vl : Value) (n : Int) (last : ByteArray) : Array Value :=
  #[vb, .int .i64 (x.b : Nat), .int .i64 (x.r : Nat), .int .i64 (x.t : Nat), vB, vF, vl, .int .i64 n, .string last]
def ptrs (ps : List Nat) : List Value := ps.map fun p => .pointer (some ⟨p, 0, none⟩)
def BlksIs (W : World) (es : List Ent) (ps : List Nat) : Prop := ps.length = es.length ∧ ∀ (i : Nat) e p, es[i]? = some e → ps[i]? = some p → BlkIs W p e.str e.cells e.r true
theorem BlksIs.stay {T : TypeId → Prop} {W W' : World} {es : List Ent} {ps : List Nat} (h : BlksIs W es ps) (hs : Stay T W W') (h1 : T 85) (h2 : T 25) : BlksIs W' es ps := ⟨h.1, fun i e p he hp => (h.2 i e p he hp).stay hs h1 h2⟩
theorem BlksIs.snoc {W : World} {es : List Ent} {ps : List Nat} (h : BlksIs W es ps) {e : Ent} {p : Nat} (hb : BlkIs W p e.str e.cells e.r true) : BlksIs W (es ++ [e]) (ps ++ [p]) := by
  refine ⟨by simp [h.1], fun i e' p' he hp => ?_⟩
  by_cases hi : i < es.length
  · rw [List.getElem?_append_left hi] at he
    rw [List.getElem?_append_left (by rw [h.1]; exact hi)] at hp
    exact h.2 i e' p' he hp
  · rw [List.getElem?_append_right (by omega)] at he
    rw [List.getElem?_append_right (by rw [h.1]; omega), h.1] at hp
    have hi0 : i - es.length = 0 := by
      have := (List.getElem?_eq_some_iff.1 he).1
      simp at this; omega
    rw [hi0] at he hp
    cases he
    cases hp
    exact hb
/-- What a call may change: blocks of a table, of a reader, of rows of pointers and of strings. -/
def TT (t : TypeId) : Prop := t ≠ 152 ∧ t ≠ 167 ∧ t ≠ 68 ∧ t ≠ 9
structure IdxSt (w : World) (tp pr xb : Nat) (vb vl : Value) (x : FootN) (b : ByteArray) (F0 : Nat) (s0 : ByteArray) (es : List Ent) (ps : List Nat) (vB vF : Value) (s : ByteArray) (W : World) : Prop where
  rd : RdIs W pr s 0
  eq : ∃ fuel, s.size ≤ fuel ∧ idxN b x.fa F0 s0 = (idxN b x.fa fuel s).map (es ++ ·)
  tab : Blk W tp (tabArr vb x vB vF vl 0 ⟨#[]⟩) 152
  rowB : W.ownsRow w.heap.size 68 1 vB es.length (ptrs ps)
  rowF : W.ownsRow w.heap.size 9 1 vF es.length (es.map fun e => .string e.key)
  blks : BlksIs W es ps
  box : Blk W xb #[.int .i64 (x.fa : Nat), .int .i64 (x.fs : Nat), .int .i64 (x.ia : Nat), .int .i64 (x.isz : Nat), .int .i64 (x.n : Nat), .int .i64 (x.b : Nat), .int .i64 (x.r : Nat), .int .i64 (x.t : Nat)] 147
  only : Only (fun k => k = tp) w W
  small : es.length + s.size ≤ s0.size
/-- A part of a slice of bytes between two places, as a string. -/
theorem cut_mid {w : World} {A : Option Addr} {n cap : Nat} {s : ByteArray} (h : Reads w (.slice A n cap) n 1 (bv s.data.toList)) (kl kh : IntKind) {lo hi : Nat} (h1 : lo ≤ hi) (h2 : hi ≤ n) (hc : n ≤ cap) :
    ∃ a c, (∀ W, (Instr.sliceAt 74 (.slice A n cap) (some (.int kl (lo : Nat))) (some (.int kh (hi : Nat))) none).run Try.prog W = .ok (.slice a (hi - lo) c) W) ∧ ∀ W, Below w.heap.size w W → (convert 74 9 (.slice a (hi - lo) c)).run Try.prog W = .ok (.string (s.extract lo hi)) W := by
  obtain ⟨a, c, h4, h3⟩ := cut_string h h1 h2 (m := cap) (by omega)
  refine ⟨a, c, fun W => ?_, h3⟩
  rw [run_sliceAt_slice (P := Try.prog) W 74 _ _ _ _ (by kernel_rfl), run_slice_lh W 74 A n cap (by kernel_rfl) kl kh lo hi (by omega) (by omega) (by omega), ← h4]
  have : (sizeOf (Try.prog.elem 74)).run Try.prog W = .ok 1 W := by go_simp
  rw [this]
  rfl
theorem oper_append_row {P : Program} {w : World} {o : Oper} {a : Act} {K : Act → World → Prop} {Q : Exit → Act → World → Prop} (s x : Operand) (t : TypeId)
    (ho : o.op = .call { callee := .builtin .append, args := #[s, x], argTypes := #[t, t] })
    (base : Nat) (e : TypeId) (i : TypeInfo) (z : Value) (size bytes : Nat) (ht : P.underlying t = some (.slice e)) (hi : P.info? e = some i) (hz : i.zero = some z)
    (hsize : i.size = size) (hby : i.bytes = bytes) (hzs : z.cells.size = size) (hsz : 0 < size)
    (v : Value) (n : Nat) (xs : List Value) (hs : a.eval s = v) (hown : w.ownsRow base e size v n xs)
    (ad : Addr) (m c : Nat) (news : List Value) (hx : a.eval x = .slice (some ad) m c) (hl : news.length = m * size) (hnews : ∀ j u, news[j]? = some u → w.cell? (ad.add j) = some u) (h1 : ∀ u ∈ news, u.oneCell' = true)
    (h63 : n + m ≤ maxLen) (hbytes : (n + m) * bytes ≤ 140737488355328) (hbase : base ≤ w.heap.size)
    (h : ∀ v' w', w'.ownsRow base e size v' (n + m) (xs ++ news) → w.grownBy w' v.ownBlock → K (a.put o.dst v') w') : Oper.wp P o a w K Q := by
  obtain ⟨v', w', hrun, r1, r2, r3⟩ := run_append_own (P := P) w base t o.type e i z size bytes ht hi hz hsize hby hzs hsz v n xs hown ad m c news hl hnews h1 h63 hbytes hbase
  unfold Oper.wp execOp
  simp only [ho, resolve, invoke, builtin, Sem.run_bind, Sem.run_pure, Result.andThen_ok, List.map_toArray, List.map_cons, List.map_nil, hs, hx, hrun]
  exact h v' w' r1 r2
theorem only_below {S : Nat → Prop} {w W W' : World} (h : Only S w W) (hb : Below w.heap.size W W') : Only S w W' :=
  ⟨hb.os.trans h.os, hb.tape.trans h.tape, hb.output.trans h.output, Nat.le_trans h.size hb.size, fun k hk hn => (hb.block k hk).trans (h.block k hk hn)⟩
theorem only_rowgrown {S : Nat → Prop} {w W W' : World} {size n : Nat} {e : TypeId} {v : Value} {xs : List Value} (h : Only S w W) (ho : W.ownsRow w.heap.size e size v n xs) (hg : W.grownBy W' v.ownBlock) : Only S w W' := by
  obtain ⟨g1, g2, g3, g4, g5⟩ := hg
  refine ⟨g1.trans h.os, g2.trans h.tape, g3.trans h.output, Nat.le_trans h.size g4, fun k hk hn => (g5 k (Nat.lt_of_lt_of_le hk h.size) (fun he => ?_)).trans (h.block k hk hn)⟩
  have := (ho.lt k he.symm).1
  omega
def T9 (t : TypeId) : Prop := t ≠ 152 ∧ t ≠ 68 ∧ t ≠ 9
structure RgSt (w W5 : World) (tp : Nat) (vb vl : Value) (x : FootN) (tB tF vB vF : Value) (nB nF : Nat) (xsB xsF : List Value) (W : World) : Prop where
  tab : Blk W tp (tabArr vb x tB tF vl 0 ⟨#[]⟩) 152
  rowB : W.ownsRow w.heap.size 68 1 vB nB xsB
  rowF : W.ownsRow w.heap.size 9 1 vF nF xsF
  stay : Stay T9 W5 W
  only : Only (fun k => k = tp) w W
theorem RgSt.alloc {w W5 W : World} {tp : Nat} {vb vl : Value} {x : FootN} {tB tF vB vF : Value} {nB nF : Nat} {xsB xsF : List Value} (h : RgSt w W5 tp vb vl x tB tF vB vF nB nF xsB xsF W) (o : Obj) : RgSt w W5 tp vb vl x tB tF vB vF nB nF xsB xsF (W.alloc o) :=
  ⟨h.tab.alloc o, h.rowB.alloc o, h.rowF.alloc o, h.stay.trans (.of_below ((Below.refl _ _).alloc (Nat.le_refl _) o)), h.only.alloc o⟩
theorem RgSt.newB {w W5 W : World} {tp : Nat} {vb vl : Value} {x : FootN} {tB tF vB vF : Value} {nB nF : Nat} {xsB xsF : List Value} (_ : RgSt w W5 tp vb vl x tB tF vB vF nB nF xsB xsF W) (q : Nat) : Blk (W.alloc (.cells #[.pointer (some ⟨q, 0, none⟩)] 68)) W.heap.size #[.pointer (some ⟨q, 0, none⟩)] 68 := Blk.new _ _ _
theorem RgSt.newF {w W5 W : World} {tp : Nat} {vb vl : Value} {x : FootN} {tB tF vB vF : Value} {nB nF : Nat} {xsB xsF : List Value} (_ : RgSt w W5 tp vb vl x tB tF vB vF nB nF xsB xsF W) (k : ByteArray) : Blk (W.alloc (.cells #[.string k] 9)) W.heap.size #[.string k] 9 := Blk.new _ _ _
theorem RgSt.appB {w W5 W W' : World} {tp : Nat} {vb vl : Value} {x : FootN} {tB tF vB vF v' : Value} {nB nF n' : Nat} {xsB xsF xs' : List Value} (h : RgSt w W5 tp vb vl x tB tF vB vF nB nF xsB xsF W) (ho : W'.ownsRow w.heap.size 68 1 v' n' xs') (hg : W.grownBy W' vB.ownBlock) : RgSt w W5 tp vb vl x tB tF v' vF n' nF xs' xsF W' := by
  have s1 : Stay (fun t => t ≠ 68) W W' := .grown h.rowB hg (by simp)
  exact ⟨s1.2 _ _ _ (by decide) h.tab, ho, own_stay h.rowF s1 (by decide), h.stay.trans ⟨s1.1, fun b arr t ht => s1.2 b arr t ht.2.1⟩, only_rowgrown h.only h.rowB hg⟩
theorem RgSt.appF {w W5 W W' : World} {tp : Nat} {vb vl : Value} {x : FootN} {tB tF vB vF v' : Value} {nB nF n' : Nat} {xsB xsF xs' : List Value} (h : RgSt w W5 tp vb vl x tB tF vB vF nB nF xsB xsF W) (ho : W'.ownsRow w.heap.size 9 1 v' n' xs') (hg : W.grownBy W' vF.ownBlock) : RgSt w W5 tp vb vl x tB tF vB v' nB n' xsB xs' W' := by
  have s1 : Stay (fun t => t ≠ 9) W W' := .grown h.rowF hg (by simp)
  exact ⟨s1.2 _ _ _ (by decide) h.tab, own_stay h.rowB s1 (by decide), ho, h.stay.trans ⟨s1.1, fun b arr t ht => s1.2 b arr t ht.2.2⟩, only_rowgrown h.only h.rowF hg⟩
theorem RgSt.setB {w W5 W : World} {tp : Nat} {vb vl : Value} {x : FootN} {tB tF vB vF : Value} {nB nF : Nat} {xsB xsF : List Value} (h : RgSt w W5 tp vb vl x tB tF vB vF nB nF xsB xsF W) (v : Value) : RgSt w W5 tp vb vl x v tF vB vF nB nF xsB xsF (W.setCell ⟨tp, 4, none⟩ v) := by
  have s1 : Stay (fun t => t ≠ 152) W (W.setCell ⟨tp, 4, none⟩ v) := .setCell h.tab (by simp) 4 v
  exact ⟨h.tab.setCell 4 v, own_stay h.rowB s1 (by decide), own_stay h.rowF s1 (by decide), h.stay.trans ⟨s1.1, fun b arr t ht => s1.2 b arr t ht.1⟩, h.only.setCell (.inl rfl) 4 v⟩
theorem RgSt.setF {w W5 W : World} {tp : Nat} {vb vl : Value} {x : FootN} {tB tF vB vF : Value} {nB nF : Nat} {xsB xsF : List Value} (h : RgSt w W5 tp vb vl x tB tF vB vF nB nF xsB xsF W) (v : Value) : RgSt w W5 tp vb vl x tB v vB vF nB nF xsB xsF (W.setCell ⟨tp, 5, none⟩ v) := by
  have s1 : Stay (fun t => t ≠ 152) W (W.setCell ⟨tp, 5, none⟩ v) := .setCell h.tab (by simp) 5 v
  exact ⟨h.tab.setCell 5 v, own_stay h.rowB s1 (by decide), own_stay h.rowF s1 (by decide), h.stay.trans ⟨s1.1, fun b arr t ht => s1.2 b arr t ht.1⟩, h.only.setCell (.inl rfl) 5 v⟩
theorem RgSt.S {w W5 W : World} {tp : Nat} {vb vl : Value} {x : FootN} {tB tF vB vF : Value} {nB nF : Nat} {xsB xsF : List Value} (h : RgSt w W5 tp vb vl x tB tF vB vF nB nF xsB xsF W) : W.cell? ⟨tp, 4, none⟩ = some tB ∧ W.cell? ⟨tp, 5, none⟩ = some tF ∧ tp < W.heap.size := ⟨h.tab.cell 4 _ rfl, h.tab.cell 5 _ rfl, h.tab.lt⟩
theorem cell_one {W : World} {b : Nat} {v : Value} {t : TypeId} (h : Blk W b #[v] t) : ∀ (j : Nat) u, [v][j]? = some u → W.cell? ((⟨b, 0, none⟩ : Addr).add j) = some u := by
  intro j u hj
  have : j = 0 := by have := (List.getElem?_eq_some_iff.1 hj).1; simp at this; exact this
  subst this
  cases hj
  exact h.cell 0 _ rfl
theorem idx_next {w W5 W : World} {tp pr xb : Nat} {vb vl : Value} {x : FootN} {b : ByteArray} {F0 fl : Nat} {s0 : ByteArray} {es : List Ent} {ps : List Nat} {vB vF : Value} {s3 k bs : ByteArray} {l : List Cell} {r : Int} {q : Nat}
    (hk : RdIs W5 pr s3 0) (hq : idxN b x.fa F0 s0 = ((idxN b x.fa fl s3).map (⟨k, bs, l, r⟩ :: ·)).map (es ++ ·)) (hfl : s3.size ≤ fl) (hsm : es.length + 1 + s3.size ≤ s0.size)
    (hbox : Blk W5 xb #[.int .i64 (x.fa : Nat), .int .i64 (x.fs : Nat), .int .i64 (x.ia : Nat), .int .i64 (x.isz : Nat), .int .i64 (x.n : Nat), .int .i64 (x.b : Nat), .int .i64 (x.r : Nat), .int .i64 (x.t : Nat)] 147)
    (hbs : BlksIs W5 es ps) (hb : BlkIs W5 q bs l r true)
    (h : RgSt w W5 tp vb vl x vB vF vB vF (es.length + 1) (es.length + 1) (ptrs ps ++ [.pointer (some ⟨q, 0, none⟩)]) ((es.map fun e => Value.string e.key) ++ [.string k]) W) :
    IdxSt w tp pr xb vb vl x b F0 s0 (es ++ [⟨k, bs, l, r⟩]) (ps ++ [q]) vB vF s3 W := by
  have d1 : T9 167 := by unfold T9; decide
  have d2 : T9 147 := by unfold T9; decide
  have d3 : T9 85 := by unfold T9; decide
  have d4 : T9 25 := by unfold T9; decide
  refine ⟨h.stay.2 _ _ _ d1 hk, ⟨fl, hfl, ?_⟩, h.tab, ?_, ?_, (hbs.stay h.stay d3 d4).snoc (hb.stay h.stay d3 d4), h.stay.2 _ _ _ d2 hbox, h.only, ?_⟩
  · rw [hq]
    cases idxN b x.fa fl s3 with
    | none => rfl
    | some L => simp
  · have := h.rowB
    rw [List.length_append]
    simpa [ptrs] using this
  · have := h.rowF
    rw [List.length_append]
    simpa using this
  · rw [List.length_append]
    simpa using hsm
def IdxRel (w : World) (tp pr xb : Nat) (vb vl : Value) (x : FootN) (b : ByteArray) (F0 : Nat) (s0 : ByteArray) (v : Value) (W : World) : Prop :=
 v = v ∧ ∃ es ps vB vF s, IdxSt w tp pr xb vb vl x b F0 s0 es ps vB vF s W
def restLen (pr : Nat) (W : World) : Nat := match W.cell? ⟨pr, 0, none⟩ with | some (.string s) => s.size | _ => 0
theorem restLen_eq {pr : Nat} {W : World} {s : ByteArray} {e : Int} (h : RdIs W pr s e) : restLen pr W = s.size := by
  have c0 : W.cell? ⟨pr, 0, none⟩ = some (.string s) := Blk.cell h 0 _ rfl
  unfold restLen
  rw [c0]
/-- What Table.open leaves. -/
def IdxPost (w : World) (tp : Nat) (vb vl : Value) (x : FootN) (o : Option (List Ent)) (e : Ending) (w' : World) : Prop :=
  Only (fun k => k = tp) w w' ∧ (∃ arr, Blk w' tp arr 152) ∧ match o with
    | none => e = .returned (.bool false)
    | some es => if es = [] then e = .returned (.bool false) else e = .returned (.bool true) ∧ ∃ ps vB vF, Blk w' tp (tabArr vb x vB vF vl 0 ⟨#[]⟩) 152 ∧
      w'.ownsRow w.heap.size 68 1 vB es.length (ptrs ps) ∧ w'.ownsRow w.heap.size 9 1 vF es.length (es.map fun e => .string e.key) ∧ BlksIs w' es ps
theorem Try.infoPtr : (Try.prog.info? 68).map (fun i => (i.zero, i.size, i.bytes)) = some (some (.pointer none), 1, 8) := by kernel_rfl
set_option maxRecDepth 100000 in
set_option maxHeartbeats 4000000 in
theorem tidx_spec {w : World} {tp : Nat} {A : Option Addr} {cap B : Nat} {vl : Value} {x : FootN} {b : ByteArray} (ht : Blk w tp (tabArr (.slice A b.size cap) x (.slice none 0 0) (.slice none 0 0) vl 0 ⟨#[]⟩) 152)
    (hb : w.ownsRow B 5 1 (.slice A b.size cap) b.size (bv b.data.toList)) (hs : b.size ≤ 1048576) (hcap : b.size ≤ cap) (h1 : x.fa ≤ x.ia) (h2 : x.ia + x.isz ≤ b.size) :
    Calls Try.prog 119 #[.pointer (some ⟨tp, 0, none⟩), x.val] w (IdxPost w tp (.slice A b.size cap) vl x (idxN b x.fa x.isz (b.extract x.ia (x.ia + x.isz)))) := by
  have hR := Reads.of_own hb
  obtain ⟨fa, fs, ia, isz, n, xb, xr, xt⟩ := x
  dsimp only at h1 h2
  obtain ⟨s0, hs0⟩ : ∃ s0, b.extract ia (ia + isz) = s0 := ⟨_, rfl⟩
  have hs0z : s0.size = isz := by rw [← hs0, ByteArray.size_extract]; omega
  have hbx : Below w.heap.size w (w.alloc (.cells #[.int .i64 (fa : Nat), .int .i64 (fs : Nat), .int .i64 (ia : Nat), .int .i64 (isz : Nat), .int .i64 (n : Nat), .int .i64 (xb : Nat), .int .i64 (xr : Nat), .int .i64 (xt : Nat)] 147)) := (Below.refl _ _).alloc (Nat.le_refl _) _
  have hbox := Blk.new w #[.int .i64 (fa : Nat), .int .i64 (fs : Nat), .int .i64 (ia : Nat), .int .i64 (isz : Nat), .int .i64 (n : Nat), .int .i64 (xb : Nat), .int .i64 (xr : Nat), .int .i64 (xt : Nat)] 147
  have htab := ht.alloc (.cells #[.int .i64 (fa : Nat), .int .i64 (fs : Nat), .int .i64 (ia : Nat), .int .i64 (isz : Nat), .int .i64 (n : Nat), .int .i64 (xb : Nat), .int .i64 (xr : Nat), .int .i64 (xt : Nat)] 147)
  obtain ⟨a1, c1, hcut, hconv⟩ := cut_mid hR .i64 .i64 (lo := ia) (hi := ia + isz) (by omega) h2 hcap
  rw [hs0] at hconv ⊢
  rw [show ia + isz - ia = isz by omega] at hcut hconv
  have w1 : IntKind.i64.wrap ((ia : Int) + (isz : Int)) = (ia : Int) + (isz : Int) := IntWalk.i64_in _ (by omega)
  have hconvD := hconv _ hbx.drew
  have hcut2 : ∀ W, (Instr.sliceAt 74 (.slice A b.size cap) (some (.int .i64 (ia : Nat))) (some (.int .i64 ((ia : Int) + (isz : Int)))) none).run Try.prog W = .ok (.slice a1 isz c1) W := hcut
  have HB := Lib.hid hb
  have HT := Lib.hid htab
  have t0 : w.cell? ⟨tp, 0, none⟩ = some (.slice A b.size cap) := ht.cell 0 _ rfl
  have tl := ht.lt
  have HTW := ht
  clear hb hs0 hcut hR ht
  unfold FootN.val
  dsimp only
  go_enter Try.func119, Try.ntmps119
  go_wp2_with fail
  obtain ⟨W0, hW0⟩ : ∃ W0, (w.alloc (.cells #[.int .i64 (fa : Nat), .int .i64 (fs : Nat), .int .i64 (ia : Nat), .int .i64 (isz : Nat), .int .i64 (n : Nat), .int .i64 (xb : Nat), .int .i64 (xr : Nat), .int .i64 (xt : Nat)] 147)) = W0 := ⟨_, rfl⟩
  rw [hW0] at hbx hbox HT hconvD ⊢
  obtain ⟨bx, hbxq⟩ : ∃ bx, w.heap.size = bx := ⟨_, rfl⟩
  rw [hbxq] at hbox
  rw [hbxq]
  have g2 : W0.drew.cell? ⟨bx, 2, none⟩ = some (.int .i64 (ia : Nat)) := hbox.cell 2 _ rfl
  have g3 : W0.drew.cell? ⟨bx, 3, none⟩ = some (.int .i64 (isz : Nat)) := hbox.cell 3 _ rfl
  have gl : bx < W0.drew.heap.size := hbox.lt
  have t0 : W0.drew.cell? ⟨tp, 0, none⟩ = some (.slice A b.size cap) := HT.out.cell 0 _ rfl
  have tl0 : tp < W0.drew.heap.size := HT.out.lt
  refine region_plan (S := fun w' => w'.cell? ⟨tp, 0, none⟩ = some (.slice A b.size cap) ∧ w'.cell? ⟨bx, 2, none⟩ = some (.int .i64 (ia : Nat)) ∧ w'.cell? ⟨bx, 3, none⟩ = some (.int .i64 (isz : Nat)) ∧ bx < w'.heap.size ∧ tp < w'.heap.size ∧ (convert 74 9 (.slice a1 isz c1)).run Try.prog w' = .ok (.string s0) w')
    ((0, true) :: (1, true) :: (2, true) :: (3, true) :: (4, true) :: (5, true) :: (6, true) :: (7, true) :: (8, true) :: (9, true) :: (10, true) :: (11, true) :: (12, true) :: (13, false) :: (14, true) :: [])
    (by kernel_rfl) (by kernel_rfl) (by kernel_rfl) (by kernel_rfl) (fun _ _ _ dst _ h => by cases dst <;> exact h) ⟨t0, g2, g3, gl, tl0, hconvD⟩ (fun hH => ?_)
  (repeat (first | (refine plan_take (v := ?_) (by (simp only [List.getElem?_toArray, List.getElem?_cons_succ, List.getElem?_cons_zero]; exact rfl)) (by rfl) ?_ ?_; rotate_left; (focus (intro wS hS; (try dsimp only at hS); go_split_ands; go_simp; (try with_reducible rfl))); simp only [Act.put, List.setIfInBounds_toArray, List.set_cons_zero, List.set_cons_succ]) | (refine plan_skip (by (simp only [List.getElem?_toArray, List.getElem?_cons_succ, List.getElem?_cons_zero]; exact rfl)) (by rfl) ?_; simp only [Act.put, List.setIfInBounds_toArray, List.set_cons_zero, List.set_cons_succ])))
  (refine plan_solo (by (simp only [List.getElem?_toArray, List.getElem?_cons_succ, List.getElem?_cons_zero]; exact rfl)) (by rfl) ?_; intro K hK; go_simp)
  refine (reader_new s0 _).mono ?_
  rintro e w1 ⟨rfl, hr1, hb1, hs1⟩
  have hconv1 : (convert 74 9 (.slice a1 isz c1)).run Try.prog w1 = .ok (.string s0) w1 := hconv _ (hbx.drew.trans (hb1.mono hbx.drew.size))
  refine hK.out _ _ ⟨cell_keep hb1 t0, cell_keep hb1 g2, cell_keep hb1 g3, Nat.lt_of_lt_of_le gl hb1.size, Nat.lt_of_lt_of_le tl0 hb1.size, hconv1⟩ (fun hH => ?_)
  clear hK K
  (try simp only [Act.put, List.setIfInBounds_toArray, List.set_cons_zero, List.set_cons_succ])
  (repeat (first | (refine plan_take (v := ?_) (by (simp only [List.getElem?_toArray, List.getElem?_cons_succ, List.getElem?_cons_zero]; exact rfl)) (by rfl) ?_ ?_; rotate_left; (focus (intro wS hS; (try dsimp only at hS); go_split_ands; go_simp; (try with_reducible rfl))); simp only [Act.put, List.setIfInBounds_toArray, List.set_cons_zero, List.set_cons_succ]) | (refine plan_skip (by (simp only [List.getElem?_toArray, List.getElem?_cons_succ, List.getElem?_cons_zero]; exact rfl)) (by rfl) ?_; simp only [Act.put, List.setIfInBounds_toArray, List.set_cons_zero, List.set_cons_succ])))
  refine plan_nil ?_
  obtain ⟨pr, hpr⟩ : ∃ pr, W0.drew.heap.size = pr := ⟨_, rfl⟩
  have hpr2 : W0.heap.size = pr := hpr
  have hpr0 : w.heap.size ≤ pr := by rw [← hpr]; exact hbx.size
  rw [hpr] at hr1
  simp only [hpr, hpr2]
  obtain ⟨i0, hi, hz0, hz1, hz2⟩ := info_parts Try.infoPtr
  obtain ⟨j0, hj, hy0, hy1, hy2⟩ := info_parts Try.infoStr
  have hbw1 : Below w.heap.size w w1 := hbx.drew.trans (hb1.mono hbx.drew.size)
  have ST1 : IdxSt w tp pr bx (.slice A b.size cap) vl ⟨fa, fs, ia, isz, n, xb, xr, xt⟩ b isz s0 [] [] (.slice none 0 0) (.slice none 0 0) s0 w1 := by
    refine ⟨hr1, ⟨isz, by omega, ?_⟩, Blk.kept HT.out.drew hb1, World.ownsRow_nil _ _ _ _, World.ownsRow_nil _ _ _ _, ⟨rfl, fun i e p he => by cases he⟩, Blk.kept hbox.drew hb1, Only.of_below hbw1, by simp⟩
    cases idxN b fa isz s0 <;> rfl
  have HB := Lib.hid (fun (W : World) (hW : Only (fun k => k = tp) w W) => (show W.ownsRow B 5 1 (.slice A b.size cap) b.size (bv b.data.toList) from own_stay HB.out (T := fun t => t ≠ 152) (Stay.only hW (fun k hk => by obtain rfl : k = tp := hk; exact ⟨_, _, HTW, by simp⟩)) (by decide)))
  clear hconv1 hH hb1 hr1 hbw1 g2 g3 gl t0 tl0 hconvD hconv hcut2 HT hbox hbx hW0 htab hs1 hpr hpr2
  go_wp2_with fail
  go_loopw [6] (IdxRel w tp pr bx (.slice A b.size cap) vl ⟨fa, fs, ia, isz, n, xb, xr, xt⟩ b isz s0) (fun _ W => restLen pr W)
  case atStart => exact ⟨rfl, [], [], _, _, _, ST1⟩
  case round =>
    obtain ⟨_, es, ps, vB, vF, s, st⟩ := hrel
    have hsm := st.small
    have HM := Lib.hid (restLen_eq st.rd)
    by_cases hz : s.size = 0
    · have hzq : ¬ ((0 : Int) < (s.size : Int)) := by omega
      go_wp2_with fail
      refine (reader_left st.rd).mono ?_
      rintro e w2 ⟨rfl, rfl⟩
      rw [if_pos rfl]
      have t4 : wr.cell? ⟨tp, 4, none⟩ = some vB := st.tab.cell 4 _ rfl
      have t4l := st.tab.lt
      obtain ⟨vBA, vBc, rfl⟩ := (Reads.of_own st.rowB).form
      have HIE := Lib.hid (show idxN b fa isz s0 = some es by
        obtain ⟨fuel, _, h⟩ := st.eq
        rw [idxN_end b _ fuel hz] at h
        simpa using h)
      have HST := Lib.hid st
      clear st ST1
      by_cases he : es.length = 0
      · have heq : ¬ ((0 : Int) < (es.length : Int)) := by omega
        go_wp2_with fail
        go_ret
        refine ⟨HST.out.only, ⟨_, HST.out.tab⟩, ?_⟩
        rw [HIE.out]
        dsimp only
        rw [if_pos (List.eq_nil_of_length_eq_zero he)]
        rfl
      · have heq : (0 : Int) < (es.length : Int) := by omega
        go_wp2_with fail
        go_ret
        refine ⟨HST.out.only, ⟨_, HST.out.tab⟩, ?_⟩
        rw [HIE.out]
        dsimp only
        rw [if_neg (fun h => he (by rw [h]; rfl))]
        exact ⟨by show Ending.returned (Value.bool (decide (0 < es.length))) = _; rw [decide_eq_true (by omega)], ps, _, _, HST.out.tab, HST.out.rowB, HST.out.rowF, HST.out.blks⟩
    · have hzq : (0 : Int) < (s.size : Int) := by omega
      have hss : s.size ≤ 1048576 := by omega
      obtain ⟨fuel, hfu, heq⟩ := st.eq
      obtain ⟨fl, rfl⟩ : ∃ fl, fuel = fl + 1 := ⟨fuel - 1, by omega⟩
      rw [idxN_step b _ fl hz] at heq
      have hE : entR s = (if (varR (varR (textR s 0).2.1 (textR s 0).2.2).2.1 (varR (textR s 0).2.1 (textR s 0).2.2).2.2).2.2 ≠ 0 then none else some ((textR s 0).1, (varR (textR s 0).2.1 (textR s 0).2.2).1, (varR (varR (textR s 0).2.1 (textR s 0).2.2).2.1 (varR (textR s 0).2.1 (textR s 0).2.2).2.2).1, (varR (varR (textR s 0).2.1 (textR s 0).2.2).2.1 (varR (textR s 0).2.1 (textR s 0).2.2).2.2).2.1)) := rfl
      have hTX := reader_text st.rd (by omega)
      have z1 := textR_size s 0
      obtain ⟨T, hT⟩ : ∃ T, textR s 0 = T := ⟨_, rfl⟩
      rw [hT] at hE hTX z1
      obtain ⟨k, s1, e1⟩ := T
      dsimp only at hE hTX z1
      have hVA := fun (W : World) (hW : RdIs W pr s1 e1) => reader_varint hW (by omega)
      have z2 := varR_size s1 e1
      have y2 := varR_lt s1 e1
      obtain ⟨T, hT2⟩ : ∃ T, varR s1 e1 = T := ⟨_, rfl⟩
      rw [hT2] at hE hVA z2 y2
      obtain ⟨p, s2, e2⟩ := T
      dsimp only at hE hVA z2 y2
      have hVB := fun (W : World) (hW : RdIs W pr s2 e2) => reader_varint hW (by omega)
      have z3 := varR_size s2 e2
      have y3 := varR_lt s2 e2
      obtain ⟨T, hT3⟩ : ∃ T, varR s2 e2 = T := ⟨_, rfl⟩
      rw [hT3] at hE hVB z3 y3
      obtain ⟨z, s3, e3⟩ := T
      dsimp only at hE hVB z3 y3
      have HVA := Lib.hid hVA
      have HVB := Lib.hid hVB
      have HTX := Lib.hid hTX
      have HST := Lib.hid st
      clear hT hT2 hT3 hVA hVB hTX
      go_wp2_with fail
      refine (reader_left HST.out.rd).mono ?_
      rintro e w2 ⟨rfl, rfl⟩
      rw [if_pos rfl]
      go_wp2_with fail
      refine HTX.out.mono ?_
      rintro e w2 ⟨rfl, r2, o2⟩
      go_wp2_with fail
      refine (HVA.out _ r2).mono ?_
      rintro e w3 ⟨rfl, r3, o3⟩
      go_wp2_with fail
      refine (HVB.out _ r3).mono ?_
      rintro e w4 ⟨rfl, r4, o4⟩
      have o24 := (o2.trans o3).trans o4
      have sy : Stay (fun t => t ≠ 167) wr w4 := Stay.only o24 (fun j hj => by obtain rfl : j = pr := hj; exact ⟨_, _, HST.out.rd, by simp⟩)
      have only4 : Only (fun k => k = tp) w w4 := only_below HST.out.only (o24.below HST.out.only.size (fun j hj => by omega))
      have tab4 := sy.2 _ _ _ (by decide) HST.out.tab
      have rowB4 := own_stay HST.out.rowB sy (by decide)
      have rowF4 := own_stay HST.out.rowF sy (by decide)
      have blks4 := HST.out.blks.stay sy (by decide) (by decide)
      have box4 := sy.2 _ _ _ (by decide) HST.out.box
      clear o2 o3 o4 o24 r2 r3 sy st
      go_wp2_with fail
      refine (reader_err r4).mono ?_
      rintro e w5 ⟨rfl, rfl⟩
      have x0 : w4.cell? ⟨bx, 0, none⟩ = some (.int .i64 (fa : Nat)) := box4.cell 0 _ rfl
      have xl := box4.lt
      have t0 : w4.cell? ⟨tp, 0, none⟩ = some (.slice A b.size cap) := tab4.cell 0 _ rfl
      have tl := tab4.lt
      have u1 : IntKind.u64.wrap (fa : Int) = (fa : Int) := by rw [IntKind.wrap_u64]; omega
      by_cases he3 : e3 = 0
      · subst he3
        rw [if_neg (by simp)] at hE
        have hshr := entR_shrinks hE
        rw [hE] at heq
        dsimp only at heq
        by_cases hpf : fa < p
        · rw [if_pos (.inl hpf)] at heq
          have j1 : (fa : Int) < (p : Int) := by omega
          have HQ := Lib.hid heq
          clear heq hE
          go_wp2_with fail
          go_ret
          exact ⟨only4, ⟨_, tab4⟩, by rw [HQ.out]; rfl⟩
        have u2 : IntKind.u64.wrap ((fa : Int) - (p : Int)) = (fa : Int) - (p : Int) := by rw [IntKind.wrap_u64]; omega
        have j1 : (p : Int) ≤ (fa : Int) := by omega
        by_cases hzf : fa - p < z
        · rw [if_pos (.inr hzf)] at heq
          have j2 : (fa : Int) - (p : Int) < (z : Int) := by omega
          have HQ := Lib.hid heq
          clear heq hE
          go_wp2_with fail
          go_ret
          exact ⟨only4, ⟨_, tab4⟩, by rw [HQ.out]; rfl⟩
        rw [if_neg (by omega)] at heq
        have j2 : (z : Int) ≤ (fa : Int) - (p : Int) := by omega
        have u3 : IntKind.u64.wrap ((p : Int) + (z : Int)) = (p : Int) + (z : Int) := by rw [IntKind.wrap_u64]; omega
        have own5 := HB.out _ only4
        obtain ⟨a2, c2, hcut, hconv⟩ := cut_mid (Reads.of_own own5) .u64 .u64 (lo := p) (hi := p + z) (by omega) (by omega) hcap
        rw [show p + z - p = z by omega] at hcut hconv
        have hconv := hconv _ (Below.refl _ _)
        have hcut : ∀ W, (Instr.sliceAt 74 (.slice A b.size cap) (some (.int .u64 (p : Nat))) (some (.int .u64 ((p : Int) + (z : Int)))) none).run Try.prog W = .ok (.slice a2 z c2) W := hcut
        obtain ⟨bs, hbs⟩ : ∃ bs, b.extract p (p + z) = bs := ⟨_, rfl⟩
        have hbsz : bs.size ≤ 4611686018427387904 := by rw [← hbs, ByteArray.size_extract]; omega
        rw [hbs] at hconv heq
        have hop := open_spec bs hbsz w4
        cases hon : openN bs with
        | none =>
          rw [hon] at hop heq
          have HOP := Lib.hid hop
          have HQ := Lib.hid heq
          clear heq hop hE hon
          go_wp2_with fail
          refine HOP.out.mono ?_
          rintro e w5 ⟨hb5, rfl⟩
          go_wp2_with fail
          go_ret
          exact ⟨only_below only4 (hb5.mono only4.size), ⟨_, tab4.kept hb5⟩, by rw [HQ.out]; rfl⟩
        | some lr =>
          obtain ⟨l, r⟩ := lr
          rw [hon] at hop heq
          dsimp only at heq
          have HOP := Lib.hid hop
          clear hop hE hon
          go_wp2_with fail
          refine HOP.out.mono ?_
          rintro e w5 ⟨hb5, q, rfl, hbk, hqn⟩
          have only5 := only_below only4 (hb5.mono only4.size)
          have tab5 := tab4.kept hb5
          have rowB5 := own_kept rowB4 hb5
          have rowF5 := own_kept rowF4 hb5
          have blks5 := blks4.stay (T := fun _ => True) (.of_below hb5) trivial trivial
          have box5 := box4.kept hb5
          have r5 := Blk.kept r4 hb5
          have hk5 : RdIs w5 pr s3 0 := r5
          clear hb5 only4 tab4 rowB4 rowF4 blks4 box4 r4 own5 hcut hconv HOP r5
          by_cases hl0 : l.length = 0
          · have hlq : ((l.length : Int) == 0) = true := by simp; exact List.eq_nil_of_length_eq_zero hl0
            rw [if_pos (List.eq_nil_of_length_eq_zero hl0)] at heq
            have HQ := Lib.hid heq
            clear heq
            go_wp2_with fail
            refine (blk_len hbk).mono ?_
            rintro e w6 ⟨rfl, rfl⟩
            go_wp2_with fail
            go_ret
            exact ⟨only5, ⟨_, tab5⟩, by rw [HQ.out]; rfl⟩
          · have hlq : ((l.length : Int) == 0) = false := by simp; intro h; exact hl0 (by rw [h]; rfl)
            rw [if_neg (fun h => hl0 (by rw [h]; rfl))] at heq
            have HQ := Lib.hid heq
            clear heq
            go_wp2_with fail
            refine (blk_len hbk).mono ?_
            rintro e w6 ⟨rfl, rfl⟩
            have RG0 : RgSt w w5.drew tp (.slice A b.size cap) vl ⟨fa, fs, ia, isz, n, xb, xr, xt⟩ vB vF vB vF es.length es.length (ptrs ps) (es.map fun e => Value.string e.key) w5.drew := ⟨tab5.drew, rowB5.drew, rowF5.drew, .refl _ _, only5.drew⟩
            have p1 : es.length + 1 ≤ maxLen := by unfold maxLen; omega
            have p2 : (es.length + 1) * 8 ≤ 140737488355328 := by omega
            have p3 : (es.length + 1) * 16 ≤ 140737488355328 := by omega
            have p5 : es.length + 1 + s3.size ≤ s0.size := by omega
            have hz5 := only5.size
            have NX := Lib.hid (fun (W : World) (vB' vF' : Value) => idx_next (W := W) (w := w) (W5 := w5.drew) (tp := tp) (pr := pr) (xb := bx) (vb := .slice A b.size cap) (vl := vl) (x := ⟨fa, fs, ia, isz, n, xb, xr, xt⟩) (b := b) (F0 := isz) (fl := fl) (s0 := s0) (es := es) (ps := ps) (vB := vB') (vF := vF') (s3 := s3) (k := k) (bs := bs) (l := l) (r := r) (q := q) (Blk.drew hk5) HQ.out (by omega) p5 (Blk.drew box5) (blks5.stay (T := fun _ => True) (.of_below (Below.refl _ _).drew) trivial trivial) (hbk.stay (T := fun _ => True) (.of_below (Below.refl _ _).drew) trivial trivial))
            have hmeas : s3.size < restLen pr wr := by rw [HM.out]; exact hshr
            have HMS := Lib.hid hmeas
            clear tab5 rowB5 rowF5 only5 ST1 hk5 HQ box5 blks5 hbk hmeas HM x0 xl t0 tl hcut hconv hbs hbsz HTX HVA HVB HST hqn hlq
            go_wp2_with fail
            refine region_cut (S := fun w' => w'.cell? ⟨tp, 4, none⟩ = some vB ∧ w'.cell? ⟨tp, 5, none⟩ = some vF ∧ tp < w'.heap.size) 18
              (.take 0 (.take 1 (.take 2 (.take 3 (.take 4 (.take 5 (.take 6 (.take 9 (.take 10 (.take 11 (.take 12 (.take 13 (.two 7 (.two 8 (.one 14 (.one 15 (.take 16 (.take 17 (.one 18 (.take 19 (.take 20 (.one 21 .nil)))))))) 14 (.one 8 (.one 15 (.take 16 (.take 17 (.one 18 (.take 19 (.take 20 (.one 21 .nil))))))))) 14 (.one 7 (.one 8 (.one 15 (.take 16 (.take 17 (.one 18 (.take 19 (.take 20 (.one 21 .nil))))))))))))))))))))))
              (by kernel_rfl) (by kernel_rfl) (by kernel_rfl) (fun _ _ _ dst _ h => by cases dst <;> exact h) RG0.S (fun hH => ?_)
            clear hH
            (repeat (first | (refine cut_free (v := ?_) (by (simp only [List.getElem?_toArray, List.getElem?_cons_succ, List.getElem?_cons_zero]; exact rfl)) (by rfl) ?_ ?_; rotate_left; (focus (intro wS; go_simp; (try with_reducible rfl); done)); simp only [Act.put, List.setIfInBounds_toArray, List.set_cons_zero, List.set_cons_succ]) | (refine cut_take (v := ?_) (by kernel_rfl) (by (simp only [List.getElem?_toArray, List.getElem?_cons_succ, List.getElem?_cons_zero]; exact rfl)) (by rfl) ?_ ?_; rotate_left; (focus (intro wS hS; (try dsimp only at hS); go_split_ands; go_simp; (try with_reducible rfl); done)); simp only [Act.put, List.setIfInBounds_toArray, List.set_cons_zero, List.set_cons_succ])))
            refine cut_two (by (simp only [List.getElem?_toArray, List.getElem?_cons_succ, List.getElem?_cons_zero]; exact rfl)) (by rfl) (by (simp only [List.getElem?_toArray, List.getElem?_cons_succ, List.getElem?_cons_zero]; exact rfl)) (by rfl) ?_ ?_
            · intro K hK
              go_simp
              have RG1 := RG0.alloc (.cells #[.pointer (some ⟨q, 0, none⟩)] 68)
              have hbB := RG0.newB q
              try rw [World.size_alloc] at hbB
              refine hK.out _ _ RG1.S (fun hH => ?_)
              clear hK K hH
              (try simp only [Act.put, List.setIfInBounds_toArray, List.set_cons_zero, List.set_cons_succ])
              refine cut_two (by (simp only [List.getElem?_toArray, List.getElem?_cons_succ, List.getElem?_cons_zero]; exact rfl)) (by rfl) (by (simp only [List.getElem?_toArray, List.getElem?_cons_succ, List.getElem?_cons_zero]; exact rfl)) (by rfl) ?_ ?_
              · intro K hK
                refine oper_append_row _ _ 86 rfl w.heap.size 68 i0 (.pointer none) 1 8 (by kernel_rfl) hi hz0 hz1 hz2 rfl (by decide) vB es.length (ptrs ps) rfl RG1.rowB ⟨_, 0, none⟩ 1 1 [.pointer (some ⟨q, 0, none⟩)] rfl rfl (cell_one hbB) (by simp [Value.oneCell']) p1 p2 RG1.only.size ?_
                intro vB2 WB ownB2 hgB
                obtain ⟨bA, bc, rfl⟩ := (Reads.of_own ownB2).form
                have RG2 := RG1.appB ownB2 hgB
                have hyB : Stay (fun t => t ≠ 68) _ WB := .grown RG1.rowB hgB (by simp)
                refine hK.out _ _ RG2.S (fun hH => ?_)
                clear hK K hH
                (try simp only [Act.put, List.setIfInBounds_toArray, List.set_cons_zero, List.set_cons_succ])
                (refine cut_one (by decide) (by (simp only [List.getElem?_toArray, List.getElem?_cons_succ, List.getElem?_cons_zero]; exact rfl)) (by rfl) ?_; intro K hK; go_simp)
                have RG3 := RG2.alloc (.cells #[.string k] 9)
                have hbF := RG2.newF k
                try rw [World.size_alloc] at hbF
                refine hK.out _ _ RG3.S (fun hH => ?_)
                clear hK K hH
                (try simp only [Act.put, List.setIfInBounds_toArray, List.set_cons_zero, List.set_cons_succ])
                (refine cut_one (by decide) (by (simp only [List.getElem?_toArray, List.getElem?_cons_succ, List.getElem?_cons_zero]; exact rfl)) (by rfl) ?_; intro K hK)
                refine oper_append_row _ _ 142 rfl w.heap.size 9 j0 (.string ⟨#[]⟩) 1 16 (by kernel_rfl) hj hy0 hy1 hy2 rfl (by decide) vF es.length (es.map fun e => Value.string e.key) rfl RG3.rowF ⟨_, 0, none⟩ 1 1 [.string k] rfl rfl (cell_one hbF) (by simp [Value.oneCell']) p1 p3 RG3.only.size ?_
                intro vF2 WF ownF2 hgF
                obtain ⟨fA, fc, rfl⟩ := (Reads.of_own ownF2).form
                have RG4 := RG3.appF ownF2 hgF
                refine hK.out _ _ RG4.S (fun hH => ?_)
                clear hK K hH
                (try simp only [Act.put, List.setIfInBounds_toArray, List.set_cons_zero, List.set_cons_succ])
                (repeat (first | (refine cut_free (v := ?_) (by (simp only [List.getElem?_toArray, List.getElem?_cons_succ, List.getElem?_cons_zero]; exact rfl)) (by rfl) ?_ ?_; rotate_left; (focus (intro wS; go_simp; (try with_reducible rfl); done)); simp only [Act.put, List.setIfInBounds_toArray, List.set_cons_zero, List.set_cons_succ]) | (refine cut_take (v := ?_) (by kernel_rfl) (by (simp only [List.getElem?_toArray, List.getElem?_cons_succ, List.getElem?_cons_zero]; exact rfl)) (by rfl) ?_ ?_; rotate_left; (focus (intro wS hS; (try dsimp only at hS); go_split_ands; go_simp; (try with_reducible rfl); done)); simp only [Act.put, List.setIfInBounds_toArray, List.set_cons_zero, List.set_cons_succ])))
                have t4 := RG4.S.1
                have t5 := RG4.S.2.1
                have tl := RG4.S.2.2
                have tf := RG4.tab.frozen
                have RG5 := RG4.setB (.slice bA (es.length + 1) bc)
                have RG6 := RG5.setF (.slice fA (es.length + 1) fc)
                have t4' := RG5.S.1
                have t5' := RG5.S.2.1
                have tl' := RG5.S.2.2
                have tf' := RG5.tab.frozen
                (refine cut_here (by (simp only [List.getElem?_toArray, List.getElem?_cons_succ, List.getElem?_cons_zero]; exact rfl)) (by rfl) ?_; intro K hK; go_simp)
                refine hK.out _ _ ?_
                clear hK K
                (try simp only [Act.put, List.setIfInBounds_toArray, List.set_cons_zero, List.set_cons_succ])
                (repeat (refine tree_take (v := ?_) (by (simp only [List.getElem?_toArray, List.getElem?_cons_succ, List.getElem?_cons_zero]; exact rfl)) (by rfl) ?_ ?_; rotate_left; (focus (intro wS hS; (try dsimp only at hS); go_split_ands; go_simp; (try with_reducible rfl))); simp only [Act.put, List.setIfInBounds_toArray, List.set_cons_zero, List.set_cons_succ]))
                (refine tree_one (by (simp only [List.getElem?_toArray, List.getElem?_cons_succ, List.getElem?_cons_zero]; exact rfl)) (by rfl) ?_; intro K hK; go_simp)
                refine hK.out _ _ trivial (fun hH => ?_)
                clear hK K hH
                (try simp only [Act.put, List.setIfInBounds_toArray, List.set_cons_zero, List.set_cons_succ])
                refine tree_nil ?_
                go_wp2_with fail
                have IX := NX.out _ _ _ RG6
                refine ⟨⟨rfl, _, _, _, _, _, IX⟩, ?_⟩
                rw [restLen_eq IX.rd]
                exact HMS.out
              · intro K hK
                go_simp
                have RG2 := RG1.alloc (.cells #[.string k] 9)
                have hbF := RG1.newF k
                try rw [World.size_alloc] at hbF
                have hbB := hbB.alloc (.cells #[.string k] 9)
                refine hK.out _ _ RG2.S (fun hH => ?_)
                clear hK K hH
                (try simp only [Act.put, List.setIfInBounds_toArray, List.set_cons_zero, List.set_cons_succ])
                (refine cut_one (by decide) (by (simp only [List.getElem?_toArray, List.getElem?_cons_succ, List.getElem?_cons_zero]; exact rfl)) (by rfl) ?_; intro K hK)
                refine oper_append_row _ _ 86 rfl w.heap.size 68 i0 (.pointer none) 1 8 (by kernel_rfl) hi hz0 hz1 hz2 rfl (by decide) vB es.length (ptrs ps) rfl RG2.rowB ⟨_, 0, none⟩ 1 1 [.pointer (some ⟨q, 0, none⟩)] rfl rfl (cell_one hbB) (by simp [Value.oneCell']) p1 p2 RG2.only.size ?_
                intro vB2 WB ownB2 hgB
                obtain ⟨bA, bc, rfl⟩ := (Reads.of_own ownB2).form
                have RG3 := RG2.appB ownB2 hgB
                have hyB : Stay (fun t => t ≠ 68) _ WB := .grown RG2.rowB hgB (by simp)
                have hbF := hyB.2 _ _ _ (by decide) hbF
                refine hK.out _ _ RG3.S (fun hH => ?_)
                clear hK K hH
                (try simp only [Act.put, List.setIfInBounds_toArray, List.set_cons_zero, List.set_cons_succ])
                (refine cut_one (by decide) (by (simp only [List.getElem?_toArray, List.getElem?_cons_succ, List.getElem?_cons_zero]; exact rfl)) (by rfl) ?_; intro K hK)
                refine oper_append_row _ _ 142 rfl w.heap.size 9 j0 (.string ⟨#[]⟩) 1 16 (by kernel_rfl) hj hy0 hy1 hy2 rfl (by decide) vF es.length (es.map fun e => Value.string e.key) rfl RG3.rowF ⟨_, 0, none⟩ 1 1 [.string k] rfl rfl (cell_one hbF) (by simp [Value.oneCell']) p1 p3 RG3.only.size ?_
                intro vF2 WF ownF2 hgF
                obtain ⟨fA, fc, rfl⟩ := (Reads.of_own ownF2).form
                have RG4 := RG3.appF ownF2 hgF
                refine hK.out _ _ RG4.S (fun hH => ?_)
                clear hK K hH
                (try simp only [Act.put, List.setIfInBounds_toArray, List.set_cons_zero, List.set_cons_succ])
                (repeat (first | (refine cut_free (v := ?_) (by (simp only [List.getElem?_toArray, List.getElem?_cons_succ, List.getElem?_cons_zero]; exact rfl)) (by rfl) ?_ ?_; rotate_left; (focus (intro wS; go_simp; (try with_reducible rfl); done)); simp only [Act.put, List.setIfInBounds_toArray, List.set_cons_zero, List.set_cons_succ]) | (refine cut_take (v := ?_) (by kernel_rfl) (by (simp only [List.getElem?_toArray, List.getElem?_cons_succ, List.getElem?_cons_zero]; exact rfl)) (by rfl) ?_ ?_; rotate_left; (focus (intro wS hS; (try dsimp only at hS); go_split_ands; go_simp; (try with_reducible rfl); done)); simp only [Act.put, List.setIfInBounds_toArray, List.set_cons_zero, List.set_cons_succ])))
                have t4 := RG4.S.1
                have t5 := RG4.S.2.1
                have tl := RG4.S.2.2
                have tf := RG4.tab.frozen
                have RG5 := RG4.setB (.slice bA (es.length + 1) bc)
                have RG6 := RG5.setF (.slice fA (es.length + 1) fc)
                have t4' := RG5.S.1
                have t5' := RG5.S.2.1
                have tl' := RG5.S.2.2
                have tf' := RG5.tab.frozen
                (refine cut_here (by (simp only [List.getElem?_toArray, List.getElem?_cons_succ, List.getElem?_cons_zero]; exact rfl)) (by rfl) ?_; intro K hK; go_simp)
                refine hK.out _ _ ?_
                clear hK K
                (try simp only [Act.put, List.setIfInBounds_toArray, List.set_cons_zero, List.set_cons_succ])
                (repeat (refine tree_take (v := ?_) (by (simp only [List.getElem?_toArray, List.getElem?_cons_succ, List.getElem?_cons_zero]; exact rfl)) (by rfl) ?_ ?_; rotate_left; (focus (intro wS hS; (try dsimp only at hS); go_split_ands; go_simp; (try with_reducible rfl))); simp only [Act.put, List.setIfInBounds_toArray, List.set_cons_zero, List.set_cons_succ]))
                (refine tree_one (by (simp only [List.getElem?_toArray, List.getElem?_cons_succ, List.getElem?_cons_zero]; exact rfl)) (by rfl) ?_; intro K hK; go_simp)
                refine hK.out _ _ trivial (fun hH => ?_)
                clear hK K hH
                (try simp only [Act.put, List.setIfInBounds_toArray, List.set_cons_zero, List.set_cons_succ])
                refine tree_nil ?_
                go_wp2_with fail
                have IX := NX.out _ _ _ RG6
                refine ⟨⟨rfl, _, _, _, _, _, IX⟩, ?_⟩
                rw [restLen_eq IX.rd]
                exact HMS.out
            · intro K hK
              go_simp
              have RG1 := RG0.alloc (.cells #[.string k] 9)
              have hbF := RG0.newF k
              try rw [World.size_alloc] at hbF
              refine hK.out _ _ RG1.S (fun hH => ?_)
              clear hK K hH
              (try simp only [Act.put, List.setIfInBounds_toArray, List.set_cons_zero, List.set_cons_succ])
              (refine cut_one (by decide) (by (simp only [List.getElem?_toArray, List.getElem?_cons_succ, List.getElem?_cons_zero]; exact rfl)) (by rfl) ?_; intro K hK; go_simp)
              have RG2 := RG1.alloc (.cells #[.pointer (some ⟨q, 0, none⟩)] 68)
              have hbB := RG1.newB q
              try rw [World.size_alloc] at hbB
              have hbF := hbF.alloc (.cells #[.pointer (some ⟨q, 0, none⟩)] 68)
              refine hK.out _ _ RG2.S (fun hH => ?_)
              clear hK K hH
              (try simp only [Act.put, List.setIfInBounds_toArray, List.set_cons_zero, List.set_cons_succ])
              (refine cut_one (by decide) (by (simp only [List.getElem?_toArray, List.getElem?_cons_succ, List.getElem?_cons_zero]; exact rfl)) (by rfl) ?_; intro K hK)
              refine oper_append_row _ _ 86 rfl w.heap.size 68 i0 (.pointer none) 1 8 (by kernel_rfl) hi hz0 hz1 hz2 rfl (by decide) vB es.length (ptrs ps) rfl RG2.rowB ⟨_, 0, none⟩ 1 1 [.pointer (some ⟨q, 0, none⟩)] rfl rfl (cell_one hbB) (by simp [Value.oneCell']) p1 p2 RG2.only.size ?_
              intro vB2 WB ownB2 hgB
              obtain ⟨bA, bc, rfl⟩ := (Reads.of_own ownB2).form
              have RG3 := RG2.appB ownB2 hgB
              have hyB : Stay (fun t => t ≠ 68) _ WB := .grown RG2.rowB hgB (by simp)
              have hbF := hyB.2 _ _ _ (by decide) hbF
              refine hK.out _ _ RG3.S (fun hH => ?_)
              clear hK K hH
              (try simp only [Act.put, List.setIfInBounds_toArray, List.set_cons_zero, List.set_cons_succ])
              (refine cut_one (by decide) (by (simp only [List.getElem?_toArray, List.getElem?_cons_succ, List.getElem?_cons_zero]; exact rfl)) (by rfl) ?_; intro K hK)
              refine oper_append_row _ _ 142 rfl w.heap.size 9 j0 (.string ⟨#[]⟩) 1 16 (by kernel_rfl) hj hy0 hy1 hy2 rfl (by decide) vF es.length (es.map fun e => Value.string e.key) rfl RG3.rowF ⟨_, 0, none⟩ 1 1 [.string k] rfl rfl (cell_one hbF) (by simp [Value.oneCell']) p1 p3 RG3.only.size ?_
              intro vF2 WF ownF2 hgF
              obtain ⟨fA, fc, rfl⟩ := (Reads.of_own ownF2).form
              have RG4 := RG3.appF ownF2 hgF
              refine hK.out _ _ RG4.S (fun hH => ?_)
              clear hK K hH
              (try simp only [Act.put, List.setIfInBounds_toArray, List.set_cons_zero, List.set_cons_succ])
              (repeat (first | (refine cut_free (v := ?_) (by (simp only [List.getElem?_toArray, List.getElem?_cons_succ, List.getElem?_cons_zero]; exact rfl)) (by rfl) ?_ ?_; rotate_left; (focus (intro wS; go_simp; (try with_reducible rfl); done)); simp only [Act.put, List.setIfInBounds_toArray, List.set_cons_zero, List.set_cons_succ]) | (refine cut_take (v := ?_) (by kernel_rfl) (by (simp only [List.getElem?_toArray, List.getElem?_cons_succ, List.getElem?_cons_zero]; exact rfl)) (by rfl) ?_ ?_; rotate_left; (focus (intro wS hS; (try dsimp only at hS); go_split_ands; go_simp; (try with_reducible rfl); done)); simp only [Act.put, List.setIfInBounds_toArray, List.set_cons_zero, List.set_cons_succ])))
              have t4 := RG4.S.1
              have t5 := RG4.S.2.1
              have tl := RG4.S.2.2
              have tf := RG4.tab.frozen
              have RG5 := RG4.setB (.slice bA (es.length + 1) bc)
              have RG6 := RG5.setF (.slice fA (es.length + 1) fc)
              have t4' := RG5.S.1
              have t5' := RG5.S.2.1
              have tl' := RG5.S.2.2
              have tf' := RG5.tab.frozen
              (refine cut_here (by (simp only [List.getElem?_toArray, List.getElem?_cons_succ, List.getElem?_cons_zero]; exact rfl)) (by rfl) ?_; intro K hK; go_simp)
              refine hK.out _ _ ?_
              clear hK K
              (try simp only [Act.put, List.setIfInBounds_toArray, List.set_cons_zero, List.set_cons_succ])
              (repeat (refine tree_take (v := ?_) (by (simp only [List.getElem?_toArray, List.getElem?_cons_succ, List.getElem?_cons_zero]; exact rfl)) (by rfl) ?_ ?_; rotate_left; (focus (intro wS hS; (try dsimp only at hS); go_split_ands; go_simp; (try with_reducible rfl))); simp only [Act.put, List.setIfInBounds_toArray, List.set_cons_zero, List.set_cons_succ]))
              (refine tree_one (by (simp only [List.getElem?_toArray, List.getElem?_cons_succ, List.getElem?_cons_zero]; exact rfl)) (by rfl) ?_; intro K hK; go_simp)
              refine hK.out _ _ trivial (fun hH => ?_)
              clear hK K hH
              (try simp only [Act.put, List.setIfInBounds_toArray, List.set_cons_zero, List.set_cons_succ])
              refine tree_nil ?_
              go_wp2_with fail
              have IX := NX.out _ _ _ RG6
              refine ⟨⟨rfl, _, _, _, _, _, IX⟩, ?_⟩
              rw [restLen_eq IX.rd]
              exact HMS.out
      · have heq3 : (e3 == 0) = false := by simpa using he3
        rw [if_pos he3] at hE
        rw [hE] at heq
        have HQ := Lib.hid heq
        clear heq hE
        go_wp2_with fail
        go_ret
        exact ⟨only4, ⟨_, tab4⟩, by rw [HQ.out]; rfl⟩
end Go.Proofs.Ytbcaiegglbdonaa
