/-
  The walk of the law BlockNobody.
-/
import Derived.Test.YtbcaiegglbdonaaAwake8
import Derived.Test.YtbcaiegglbdonaaBGoes
namespace Go.Proofs.Ytbcaiegglbdonaa
open Go Go.RowKit
set_option linter.unusedSimpArgs false

/-- Of a block that stays as it lies Cells tells the same. -/
theorem BlkIs.tab {w : World} {p : Nat} {s : ByteArray} {l : List Cell} {r : Int} {m : Bool} (h : BlkIs w p s l r m) : ∃ F, BTab (.pointer (some ⟨p, 0, none⟩)) F l w := by
  obtain ⟨v, B, hb, ho⟩ := h.ex
  refine ⟨fun k => k = p ∨ v.ownBlock = some k, ⟨fun W' hW => ?_, by have := h.len; omega, ⟨_, rfl⟩⟩⟩
  refine blk_cells (s := s) (r := r) (m := m) ⟨⟨v, B, hb.only hW (by simp), own_only ho hW (fun g hg => .inr hg)⟩, h.len⟩
/-- A pointer to no block that Open made. -/
def NB (a : Option Addr) (W : World) : Prop := a = none ∨ ∃ p, a = some ⟨p, 0, none⟩ ∧ BlkIs W p ⟨#[]⟩ [] 0 false
theorem NB.kept {a : Option Addr} {W W' : World} (h : NB a W) (hb : Below W.heap.size W W') : NB a W' := h.imp id fun ⟨p, e, h⟩ => ⟨p, e, h.kept hb⟩
theorem nb_seek {a : Option Addr} {w : World} (h : NB a w) (k : ByteArray) (q : Int) : Calls Try.prog 45 #[.pointer a, .string k, .int .u64 q] w (CellPost w (Cell.zero, false)) :=
  no_seek a k q w (h.imp id fun ⟨p, e, h⟩ => ⟨p, _, _, _, e, h⟩)
theorem nb_get {a : Option Addr} {w : World} (h : NB a w) (k : ByteArray) (q : Int) : Calls Try.prog 44 #[.pointer a, .string k, .int .u64 q] w (CellPost w (Cell.zero, false)) := by
  have := get_of_seek (w := w) (a := a) (k := k) (q := q) (x := (Cell.zero, false)) fun W hW => nb_seek (h.kept hW) k q
  unfold getS at this
  rwa [if_neg (by simp)] at this
theorem nb_cells {a : Option Addr} {w : World} (h : NB a w) : Calls Try.prog 43 #[.pointer a] w (CellsPost w []) := by
  rcases h with rfl | ⟨p, rfl, h⟩
  · exact blk_cells_nil w
  · exact blk_cells h
theorem nb_len {a : Option Addr} {w : World} (h : NB a w) : Calls Try.prog 49 #[.pointer a] w fun e w' => e = .returned (.int .i64 0) ∧ w = w' := by
  rcases h with rfl | ⟨p, rfl, h⟩
  · exact blk_len_nil w
  · exact blk_len h
theorem nb_bytes {a : Option Addr} {w : World} (h : NB a w) : Calls Try.prog 50 #[.pointer a] w fun e w' => e = .returned (.string ⟨#[]⟩) ∧ w = w' := by
  rcases h with rfl | ⟨p, rfl, h⟩
  · exact blk_bytes_nil w
  · exact blk_bytes h
theorem nb_restarts {a : Option Addr} {w : World} (h : NB a w) : Calls Try.prog 51 #[.pointer a] w fun e w' => e = .returned (.int .i64 0) ∧ w = w' := by
  rcases h with rfl | ⟨p, rfl, h⟩
  · exact blk_restarts_nil w
  · exact blk_restarts_no h
theorem nb_tab {a : Option Addr} {w : World} (h : NB a w) : ∃ F, BTab (.pointer a) F [] w := by
  rcases h with rfl | ⟨p, rfl, h⟩
  · exact ⟨fun _ => False, ⟨fun W' _ => blk_cells_nil W', by simp, ⟨_, rfl⟩⟩⟩
  · exact h.tab
def NoRel (wo : World) (i : Value) (W : World) : Prop := ∃ n : Nat, i = .int .i64 n ∧ n ≤ 2 ∧ Below wo.heap.size wo W
theorem nb_goes {a : Option Addr} {w : World} (h : NB a w) {b0 b1 b2 : Nat} (h0 : Blk w b0 #[.pointer a] 68) (h1 : Blk w b1 #[.string ⟨#[]⟩] 9) (h2 : Blk w b2 #[.string ⟨#[]⟩] 9) :
    Calls Try.prog 35 #[.func (.func 106) #[] #[.pointer (some ⟨b0, 0, none⟩), .pointer (some ⟨b1, 0, none⟩), .pointer (some ⟨b2, 0, none⟩)], .slice none 0 0, .int .i64 1] w fun e w' => e = .returned (.bool true) ∧ Below w.heap.size w w' := by
  obtain ⟨F, hT⟩ := nb_tab h
  exact bgoes_spec (cs := []) (Z := []) 1 h0 h1 h2 hT rfl ⟨rfl, by simp, _, _, rfl, .inl rfl⟩
set_option maxRecDepth 100000 in
set_option maxHeartbeats 4000000 in
theorem nobody8_walk (key : ByteArray) (seq : Int) (w : World) : Calls Try.prog 14 #[.string key, .int .u64 seq] w fun e w' => e = .returned (.bool true) ∧ Below w.heap.size w w' := by
  have hne := cell_neq Cell.zero Cell.zero
  rw [decide_eq_true rfl] at hne
  have hne : ∀ W, (binOp .neq 25 (.agg #[.string ⟨#[]⟩, .int .u64 0, .string ⟨#[]⟩, .bool false]) (.agg #[.string ⟨#[]⟩, .int .u64 0, .string ⟨#[]⟩, .bool false])).run Try.prog W = .ok (.bool false) W := hne
  go_enter Try.func14, Try.ntmps14
  go_wp2_with (go_at_call 36; refine (awake8 _).mono ?_; rintro e w1 ⟨rfl, b1⟩)
  obtain ⟨w3, hw3⟩ : ∃ w3, w3 = ((w1.alloc (.cells #[.string ⟨#[]⟩, .slice none 0 0, .int .i64 0, .bool false] 85)).alloc (.cells #[.pointer none, .pointer (some ⟨w1.heap.size, 0, none⟩)] 68)) := ⟨_, rfl⟩
  have b3 : Below w1.heap.size w1 w3 := by rw [hw3]; exact ((Below.refl _ _).alloc (Nat.le_refl _) _).alloc (by simp) _
  have B3 : BlkIs w3 w1.heap.size ⟨#[]⟩ [] 0 false := by rw [hw3]; exact ⟨⟨_, 0, (Blk.new w1 _ _).alloc _, World.ownsRow_nil _ _ _ _⟩, by simp⟩
  have R3 : Blk w3 (w1.heap.size + 1) #[.pointer none, .pointer (some ⟨w1.heap.size, 0, none⟩)] 68 := by rw [hw3]; exact Blk.new' _ _ _ (by simp)
  rw [← hw3]
  clear hw3
  have c3 := b1.trans (b3.mono b1.size)
  go_loopw [17] (NoRel w3) (fun i _ => 2 - (intOf i).toNat)
  case atStart => exact ⟨0, rfl, by omega, Below.refl _ _⟩
  case round =>
    obtain ⟨n, rfl, hn, hb⟩ := hrel
    have cb := c3.trans (hb.mono c3.size)
    by_cases hlt : n < 2
    · obtain ⟨a, ha, hNB⟩ : ∃ a, wr.cell? ⟨w1.heap.size + 1, n, none⟩ = some (.pointer a) ∧ NB a w3 := by
        have h1 := R3.kept hb
        rcases (by omega : n = 0 ∨ n = 1) with rfl | rfl
        · exact ⟨none, h1.cell 0 _ rfl, .inl rfl⟩
        · exact ⟨_, h1.cell 1 _ rfl, .inr ⟨_, rfl, B3⟩⟩
      have al := (R3.kept hb).lt
      have j0 : (0 : Int) ≤ (n : Int) := by omega
      have j1 : (n : Int) < 2 := by omega
      have HNB := Lib.hid (fun (W : World) (hW : Below w3.heap.size w3 W) => hNB.kept hW)
      clear hNB
      have z25 : True := trivial
      go_wp2_with (first
        | (go_at_call 44; refine (nb_get (HNB.out _ hb) _ _).mono ?_; rintro e w4 ⟨he, hb4⟩; obtain rfl : e = .returned (.tuple #[.agg #[.string ⟨#[]⟩, .int .u64 0, .string ⟨#[]⟩, .bool false], .bool false]) := he
           have e4 := hb.trans (hb4.mono hb.size)
           have f4 := e4.alloc e4.size (.cells #[.string ⟨#[]⟩, .int .u64 0, .string ⟨#[]⟩, .bool false] 25))
        | (go_at_call 45; refine (nb_seek (HNB.out _ f4) _ _).mono ?_; rintro e w5 ⟨he, hb5⟩; obtain rfl : e = .returned (.tuple #[.agg #[.string ⟨#[]⟩, .int .u64 0, .string ⟨#[]⟩, .bool false], .bool false]) := he
           have e5 := f4.trans (hb5.mono f4.size)
           have hbx := (Blk.new w4 #[.string ⟨#[]⟩, .int .u64 0, .string ⟨#[]⟩, .bool false] 25).kept hb5
           obtain ⟨y0, y1, y2, y3⟩ := cell4 hbx
           have yl := hbx.lt
           have f5 := e5.alloc e5.size (.cells #[.string ⟨#[]⟩, .int .u64 0, .string ⟨#[]⟩, .bool false] 25))
        | (go_at_call 43; refine (nb_cells (HNB.out _ f5)).mono ?_; rintro e w6 ⟨v6, rfl, own6, hb6⟩; obtain ⟨A6, k6, rfl⟩ := (Reads.of_own own6).form; have e6 := f5.trans (hb6.mono f5.size); clear own6)
        | (go_at_call 49; refine (nb_len (HNB.out _ e6)).mono ?_; rintro e w7 ⟨rfl, rfl⟩)
        | (go_at_call 51; refine (nb_restarts (HNB.out _ e6)).mono ?_; rintro e w7 ⟨rfl, rfl⟩)
        | (go_at_call 50; refine (nb_bytes (HNB.out _ e6)).mono ?_; rintro e w7 ⟨rfl, rfl⟩)
        | (go_at_call 52; refine (blk_scan _ _ _ _ ⟨_, rfl⟩).mono ?_; rintro e w8 ⟨rfl, s0, s1, s2, hb8⟩; have e8 := e6.trans (hb8.mono e6.size))
        | (go_at_call 35; refine (nb_goes (HNB.out _ e8) s0 s1 s2).mono ?_; rintro e w9 ⟨rfl, hb9⟩; have e9 := e8.trans (hb9.mono e8.size)))
      go_roundw
      case rel => exact ⟨n + 1, by go_num, by omega, e9⟩
      case measure => simp [intOf]; omega
    · obtain rfl : n = 2 := by omega
      go_wp2_with fail
      go_ret
      exact ⟨rfl, cb⟩
end Go.Proofs.Ytbcaiegglbdonaa
