/-
  mem.Levels, Scan; the law's sameInts.
-/
import Derived.Test.YtbcaiegglbdonaaMemModel
import Derived.Deep.DeepMust
namespace Go.Proofs.Ytbcaiegglbdonaa
open Go.RowKit

theorem Try.infoInt : (Try.prog.info? 3).map (fun i => (i.zero, i.size, i.bytes)) = some (some (.int .i64 0), 1, 8) := by kernel_rfl
def cellZ : Value := .agg #[.string ⟨#[]⟩, .int .u64 0, .string ⟨#[]⟩, .bool false]
theorem Try.infoCell : (Try.prog.info? 25).map (fun i => (i.zero, i.size, i.bytes)) = some (some cellZ, 4, 48) := by kernel_rfl

def ints (l : List Int) : List Value := l.map (Value.int .i64)
/-- A slice that reads as values, k cells an element. -/
def Reads (w : World) (v : Value) (n k : Nat) (xs : List Value) : Prop :=
  xs.length = n * k ∧ n ≤ 9223372036854775807 ∧ ∃ A cap, v = .slice A n cap ∧ (n = 0 ∨ ∃ b o, A = some ⟨b, o, none⟩ ∧ b < w.heap.size ∧ ∀ j u, xs[j]? = some u → w.cell? ⟨b, o + j, none⟩ = some u)
theorem Reads.kept {w w' : World} {v : Value} {n k : Nat} {xs : List Value} (h : Reads w v n k xs) (hb : Below w.heap.size w w') : Reads w' v n k xs := by
  obtain ⟨h1, h2, A, cap, rfl, h3⟩ := h
  refine ⟨h1, h2, A, cap, rfl, ?_⟩
  rcases h3 with h3 | ⟨b, o, rfl, h4, h5⟩
  · exact .inl h3
  · exact .inr ⟨b, o, rfl, Nat.lt_of_lt_of_le h4 hb.size, fun j u hj => (hb.cell (p := ⟨b, o + j, none⟩) h4).trans (h5 j u hj)⟩
theorem Reads.below {w w' : World} {v : Value} {n k B : Nat} {xs : List Value} (h : Reads w v n k xs) (hB : w.heap.size ≤ B) (hb : Below B w w') : Reads w' v n k xs := h.kept (hb.mono hB)
theorem Reads.of_own {w : World} {B e k n : Nat} {v : Value} {xs : List Value} (h : w.ownsRow B e k v n xs) : Reads w v n k xs := by
  obtain ⟨h1, h2⟩ := h
  rcases h2 with ⟨rfl, rfl⟩ | ⟨g, cap, cur, rfl, _, hg, hc, hm, hs, ht⟩
  · exact ⟨h1, by omega, none, 0, rfl, .inl rfl⟩
  · refine ⟨h1, by simp only [maxLen] at hm; omega, _, cap, rfl, .inr ⟨g, 0, rfl, lt_of_block hg, fun j u hj => ?_⟩⟩
    have hj' : j < n * k := by rw [← h1]; exact (List.getElem?_eq_some_iff.1 hj).1
    rw [← ht, List.getElem?_take_of_lt hj'] at hj
    simp only [World.cell?, hg, Nat.zero_add, Option.isSome_none, Bool.false_eq_true, if_false]
    simpa using hj

def levUpto (f : Nat → Int) (k : Nat) : List Int := ((List.range k).map f).filter (fun x => decide (0 < x))
theorem levUpto_succ (f : Nat → Int) (k : Nat) : levUpto f (k + 1) = if 0 < f k then levUpto f k ++ [f k] else levUpto f k := by
  unfold levUpto
  rw [List.range_succ, List.map_append, List.filter_append]
  by_cases h : 0 < f k <;> simp [h]
theorem levUpto_len (f : Nat → Int) (k : Nat) : (levUpto f k).length ≤ k := by
  unfold levUpto
  exact Nat.le_trans (List.length_filter_le _ _) (by simp)
theorem ints_len (l : List Int) : (ints l).length = l.length := by simp [ints]
def LevPost (w : World) (l : List Int) (e : Ending) (w' : World) : Prop := ∃ v, e = .returned v ∧ w'.ownsRow w.heap.size 3 1 v l.length (ints l) ∧ Below w.heap.size w w'
def LevRel (w : World) (f : Nat → Int) (out i : Value) (wr : World) : Prop :=
  ∃ k : Nat, k ≤ 12 ∧ i = .int .i64 k ∧ wr.ownsRow w.heap.size 3 1 out (levUpto f k).length (ints (levUpto f k)) ∧ Below w.heap.size w wr

theorem index58 (f : Nat → Int) (W : World) : ∀ i : Nat, i < 12 → (Instr.index 58 (.agg #[.int .i64 (f 0), .int .i64 (f 1), .int .i64 (f 2), .int .i64 (f 3), .int .i64 (f 4), .int .i64 (f 5), .int .i64 (f 6), .int .i64 (f 7), .int .i64 (f 8), .int .i64 (f 9), .int .i64 (f 10), .int .i64 (f 11)]) (.int .i64 (i : Int))).run Try.prog W = .ok (.int .i64 (f i)) W := by
  intro i hi
  rcases lt12 hi with rfl | rfl | rfl | rfl | rfl | rfl | rfl | rfl | rfl | rfl | rfl | rfl <;> kernel_rfl

theorem own_append {w wr : World} {f : Nat → Int} {k : Nat} {v : Value} (hf : 0 < f k) (h : wr.ownsRow w.heap.size 3 1 v ((levUpto f k).length + 1) (ints (levUpto f k) ++ [.int .i64 (f k)])) :
    wr.ownsRow w.heap.size 3 1 v (levUpto f (k + 1)).length (ints (levUpto f (k + 1))) := by
  rw [levUpto_succ, if_pos hf]
  simpa [ints] using h

set_option maxRecDepth 100000 in
set_option maxHeartbeats 1000000 in
theorem levels_spec {w : World} {a hb : Nat} {L : List Node} {sz : Int} (hs : Skip w a hb L sz) :
    Calls Try.prog 28 #[.pointer (some ⟨a, 0, none⟩)] w (LevPost w (levUpto (fun l => tall l L) 12)) := by
  obtain ⟨f, hf⟩ : ∃ f, f = fun l => tall l L := ⟨_, rfl⟩
  have hmem := hs.mem
  rw [← hf] at hmem ⊢
  clear hf
  have hm0 : w.cell? ⟨a, 0, none⟩ = some (.pointer (some ⟨hb, 0, none⟩)) := hmem.cell 0 _ rfl
  have m0 : w.cell? ⟨a, 1, none⟩ = some (.int .i64 (f 0)) := hmem.cell 1 _ rfl
  have m1 : w.cell? ⟨a, 2, none⟩ = some (.int .i64 (f 1)) := hmem.cell 2 _ rfl
  have m2 : w.cell? ⟨a, 3, none⟩ = some (.int .i64 (f 2)) := hmem.cell 3 _ rfl
  have m3 : w.cell? ⟨a, 4, none⟩ = some (.int .i64 (f 3)) := hmem.cell 4 _ rfl
  have m4 : w.cell? ⟨a, 5, none⟩ = some (.int .i64 (f 4)) := hmem.cell 5 _ rfl
  have m5 : w.cell? ⟨a, 6, none⟩ = some (.int .i64 (f 5)) := hmem.cell 6 _ rfl
  have m6 : w.cell? ⟨a, 7, none⟩ = some (.int .i64 (f 6)) := hmem.cell 7 _ rfl
  have m7 : w.cell? ⟨a, 8, none⟩ = some (.int .i64 (f 7)) := hmem.cell 8 _ rfl
  have m8 : w.cell? ⟨a, 9, none⟩ = some (.int .i64 (f 8)) := hmem.cell 9 _ rfl
  have m9 : w.cell? ⟨a, 10, none⟩ = some (.int .i64 (f 9)) := hmem.cell 10 _ rfl
  have m10 : w.cell? ⟨a, 11, none⟩ = some (.int .i64 (f 10)) := hmem.cell 11 _ rfl
  have m11 : w.cell? ⟨a, 12, none⟩ = some (.int .i64 (f 11)) := hmem.cell 12 _ rfl
  clear hmem hs
  obtain ⟨i0, hi, hz0, hz1, hz2⟩ := info_parts Try.infoInt
  go_enter Try.func28, Try.ntmps28
  go_wp2_with (first | (go_at_call 73; refine (made_yes hm0).mono ?_; rintro e w' ⟨rfl, rfl⟩))
  clear hm0 m0 m1 m2 m3 m4 m5 m6 m7 m8 m9 m10 m11
  go_loopw [3, 13] (LevRel w f) (fun _ i _ => 12 - (intOf i).toNat)
  case atStart => exact ⟨0, by omega, rfl, ⟨rfl, .inl ⟨rfl, rfl⟩⟩, Below.refl _ _⟩
  case round =>
    obtain ⟨k, hk, rfl, hown, hbel⟩ := hrel
    by_cases hlt : k < 12
    · have hix := index58 f
      have hix' := fun W => hix W k hlt
      clear hix
      have hlt' : (k : Int) < 12 := by omega
      have hln := levUpto_len f k
      by_cases hpos : 0 < f k
      · go_wp2_with (first | (at_builtin; refine wpList_append_own _ rfl _ _ 42 rfl w.heap.size 3 i0 (.int .i64 0) 1 8 Try.underlying42 hi hz0 hz1 hz2 rfl (by decide) _ _ _ rfl (hown.alloc _) ⟨wr.heap.size, 0, none⟩ 1 1 [.int .i64 (f k)] rfl rfl ?c1 ?c2 ?c3 ?c4 ?c5 ?_))
        case c1 => exact (cell_one_new _ _ _)
        case c2 => simp [Value.oneCell']
        case c3 => unfold maxLen; omega
        case c4 => omega
        case c5 => simp; have := hbel.size; omega
        intro v' w1 hown1 hgr _
        go_wp2
        go_roundw
        case rel => exact ⟨k + 1, by omega, by go_num, own_append hpos hown1, (hbel.alloc hbel.size _).grown hgr (by simp; have := hbel.size; omega) (fun j hj => (hown.lt j hj).1)⟩
        case measure => simp [intOf]; omega
      · go_wp2
        go_roundw
        case rel => exact ⟨k + 1, by omega, by go_num, by rw [levUpto_succ, if_neg hpos]; exact hown, hbel⟩
        case measure => simp [intOf]; omega
    · obtain rfl : k = 12 := by omega
      go_wp2
      go_ret
      exact ⟨_, rfl, hown, hbel⟩

theorem ret_bool {a b : Bool} (h : a = b) : Ending.returned (Value.bool a) = .returned (.bool b) := by rw [h]
def SameRel (w : World) (l1 l2 : List Int) (i : Value) (wr : World) : Prop := ∃ k : Nat, k ≤ l1.length ∧ i = .int .i64 k ∧ l1.take k = l2.take k ∧ Below w.heap.size w wr
theorem same_step {α : Type} {l1 l2 : List α} {k : Nat} {x y : α} (h : l1.take k = l2.take k) (hx : l1[k]? = some x) (hy : l2[k]? = some y) (e : x = y) : l1.take (k + 1) = l2.take (k + 1) := by
  rw [List.take_add_one, List.take_add_one, h, hx, hy, e]
set_option maxRecDepth 100000 in
set_option maxHeartbeats 1000000 in
theorem sameInts_spec {w : World} {v1 v2 : Value} {l1 l2 : List Int} (h1 : Reads w v1 l1.length 1 (ints l1)) (h2 : Reads w v2 l2.length 1 (ints l2)) :
    Calls Try.prog 72 #[v1, v2] w fun e w' => e = .returned (.bool (decide (l1 = l2))) ∧ Below w.heap.size w w' := by
  obtain ⟨_, hm1, A1, c1, rfl, hr1⟩ := h1
  obtain ⟨_, hm2, A2, c2, rfl, hr2⟩ := h2
  by_cases hl : l1.length = l2.length
  · have hlb : ((l1.length : Int) != (l2.length : Int)) = false := by simp [hl]
    have hl2 : (l2.length : Int) = (l1.length : Int) := by omega
    go_enter Try.func72, Try.ntmps72
    go_wp2
    go_loopw [13] (SameRel w l1 l2) (fun i _ => l1.length - (intOf i).toNat)
    case atStart => exact ⟨0, by omega, rfl, rfl, Below.refl _ _⟩
    case round =>
      obtain ⟨k, hk, rfl, heq, hbel⟩ := hrel
      by_cases hlt : k < l1.length
      · obtain ⟨b1, o1, rfl, g1, f1⟩ := hr1.resolve_left (by omega)
        obtain ⟨b2, o2, rfl, g2, f2⟩ := hr2.resolve_left (by omega)
        obtain ⟨x, hx⟩ : ∃ x, l1[k]? = some x := ⟨_, List.getElem?_eq_getElem hlt⟩
        obtain ⟨y, hy⟩ : ∃ y, l2[k]? = some y := ⟨_, List.getElem?_eq_getElem (by omega)⟩
        have e1 : wr.cell? ⟨b1, o1 + k, none⟩ = some (.int .i64 x) := (hbel.cell (p := ⟨b1, o1 + k, none⟩) g1).trans (f1 k _ (by simp [ints, hx]))
        have e2 : wr.cell? ⟨b2, o2 + k, none⟩ = some (.int .i64 y) := (hbel.cell (p := ⟨b2, o2 + k, none⟩) g2).trans (f2 k _ (by simp [ints, hy]))
        have i1 : (k : Int) < (l1.length : Int) := by omega
        have i2 : (k : Int) < (l2.length : Int) := by omega
        have i0 : (0 : Int) ≤ (k : Int) := by omega
        have HX := Lib.hid hx
        have HY := Lib.hid hy
        have HE := Lib.hid heq
        clear hx hy heq f1 f2 hl2 hl
        by_cases hxy : x = y
        · have hb : (x != y) = false := by simp [hxy]
          have HXY := Lib.hid hxy
          clear hxy
          go_wp2
          go_quiet (fail)
          go_wp2
          go_roundw
          case rel => exact ⟨k + 1, by omega, by go_num, same_step HE.out HX.out HY.out HXY.out, below_drewN hbel nq⟩
          case measure => simp [intOf]; omega
        · have hb : (x != y) = true := by simp [hxy]
          have hne : decide (l1 = l2) = false := by
            simp; rintro rfl; exact hxy (Option.some.inj (HX.out.symm.trans HY.out))
          have HN := Lib.hid hne
          clear hne hxy
          go_wp2
          go_quiet (fail)
          go_wp2
          go_ret
          exact ⟨ret_bool HN.out.symm, below_drewN hbel nq⟩
      · obtain rfl : k = l1.length := by omega
        have heq' : decide (l1 = l2) = true := by
          simp
          have := heq
          rwa [List.take_length, hl, List.take_length] at this
        have HN := Lib.hid heq'
        clear heq heq' hl hl2
        go_wp2
        go_ret
        exact ⟨ret_bool HN.out.symm, hbel⟩
  · have hlb : ((l1.length : Int) != (l2.length : Int)) = true := by simp; omega
    have hne : decide (l1 = l2) = false := by simp; rintro rfl; exact hl rfl
    rw [hne]
    clear hne hl
    go_enter Try.func72, Try.ntmps72
    go_wp2
    go_ret
    exact ⟨rfl, Below.refl _ _⟩

theorem scan_some (p : Value) (s t : ByteArray) (w : World) (hp : ∃ q, p = .pointer q) :
    Calls Try.prog 26 #[p, .string s, .string t] w fun e w' => e = .returned (.func (.func 77) #[] #[.pointer (some ⟨w.heap.size, 0, none⟩), .pointer (some ⟨w.heap.size + 1, 0, none⟩), .pointer (some ⟨w.heap.size + 2, 0, none⟩)]) ∧
      Blk w' w.heap.size #[p] 26 ∧ Blk w' (w.heap.size + 1) #[.string s] 9 ∧ Blk w' (w.heap.size + 2) #[.string t] 9 ∧ Below w.heap.size w w' := by
  obtain ⟨q, rfl⟩ := hp
  go_enter Try.func26, Try.ntmps26
  go_wp2
  go_ret
  refine ⟨rfl, ((Blk.new w _ _).alloc _).alloc _, (Blk.new' _ _ _ (by simp)).alloc _, Blk.new' _ _ _ (by simp), (((Below.refl _ _).alloc (Nat.le_refl _) _).alloc (by simp) _).alloc (by simp; omega) _⟩

end Go.Proofs.Ytbcaiegglbdonaa
