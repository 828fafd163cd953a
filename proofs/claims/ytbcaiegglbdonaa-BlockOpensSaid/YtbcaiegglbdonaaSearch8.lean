/-
  slices.BinarySearchFunc over a block's cells: how many cells stand ahead of a place.
-/
import Derived.Test.YtbcaiegglbdonaaCheck8
import Derived.Test.YtbcaiegglbdonaaPlan
namespace Go.Proofs.Ytbcaiegglbdonaa
open Go Go.RowKit
set_option linter.unusedSimpArgs false

def posN (l : List Cell) (k : ByteArray) (s : Int) : Nat := (l.takeWhile fun c => decide (PLt c.key c.seq k s)).length
theorem posN_le (l : List Cell) (k : ByteArray) (s : Int) : posN l k s ≤ l.length := (List.takeWhile_sublist _).length_le
theorem posN_eq : ∀ (l : List Cell) (k : ByteArray) (s : Int) (i : Nat), i ≤ l.length → (∀ j x, j < i → l[j]? = some x → PLt x.key x.seq k s) → (∀ x, l[i]? = some x → ¬ PLt x.key x.seq k s) → posN l k s = i
  | [], k, s, i, hi, _, _ => by simp at hi; subst hi; rfl
  | c :: l, k, s, 0, hi, h1, h2 => by
    unfold posN
    rw [List.takeWhile_cons, if_neg (by simpa using h2 c rfl)]
    rfl
  | c :: l, k, s, i + 1, hi, h1, h2 => by
    unfold posN
    rw [List.takeWhile_cons, if_pos (by simpa using h1 0 c (by omega) rfl)]
    have := posN_eq l k s i (by simpa using hi) (fun j x hj hx => h1 (j + 1) x (by omega) (by simpa using hx)) (fun x hx => h2 x (by simpa using hx))
    unfold posN at this
    rw [List.length_cons, this]
theorem adjC_lt {l : List Cell} (h : adjC l = true) : ∀ (d i : Nat) (x y : Cell), l[i]? = some x → l[i + d + 1]? = some y → PLt x.key x.seq y.key y.seq
  | 0, i, x, y, hx, hy => (adjC_iff l).1 h i x y hx hy
  | d + 1, i, x, y, hx, hy => by
    have hlt := (List.getElem?_eq_some_iff.1 hy).1
    obtain ⟨z, hz⟩ : ∃ z, l[i + d + 1]? = some z := ⟨_, List.getElem?_eq_getElem (by omega)⟩
    exact (adjC_lt h d i x z hx hz).trans ((adjC_iff l).1 h (i + d + 1) z y hz (by rw [show i + d + 1 + 1 = i + (d + 1) + 1 by omega]; exact hy))
theorem adjC_down {l : List Cell} (h : adjC l = true) {i j : Nat} {x y : Cell} {k : ByteArray} {s : Int} (hij : i ≤ j) (hx : l[i]? = some x) (hy : l[j]? = some y) (hp : PLt y.key y.seq k s) : PLt x.key x.seq k s := by
  by_cases he : i = j
  · subst he; rw [hx] at hy; cases hy; exact hp
  · exact (adjC_lt h (j - i - 1) i x y hx (by rw [show i + (j - i - 1) + 1 = j by omega]; exact hy)).trans hp
def SrRel (w : World) (l : List Cell) (k : ByteArray) (s : Int) (a b : Value) (W : World) : Prop :=
  ∃ lo hi : Nat, a = .int .i64 lo ∧ b = .int .i64 hi ∧ lo ≤ hi ∧ hi ≤ l.length ∧ (∀ j x, j < lo → l[j]? = some x → PLt x.key x.seq k s) ∧ (∀ j x, hi ≤ j → l[j]? = some x → ¬ PLt x.key x.seq k s) ∧ Below w.heap.size w W ∧ Blk W w.heap.size #[.string k, .int .u64 s, .string ⟨#[]⟩, .bool false] 25
set_option maxRecDepth 100000 in
set_option maxHeartbeats 4000000 in
theorem search_cells {w : World} {v : Value} {l : List Cell} (h : Reads w v l.length 4 (cellVals l)) (hl : l.length ≤ 65536) (hso : adjC l = true) (k : ByteArray) (s : Int) :
    Calls Try.prog 139 #[v, .agg #[.string k, .int .u64 s, .string ⟨#[]⟩, .bool false], .func (.func 97) #[] #[]] w fun e w' => (∃ b, e = .returned (.tuple #[.int .i64 (posN l k s : Nat), .bool b])) ∧ Below w.heap.size w w' := by
  obtain ⟨A, cap, rfl⟩ := h.form
  have H := Lib.hid h
  have HS := Lib.hid hso
  clear h hso
  go_enter Try.func139, Try.ntmps139
  go_wp2_with fail
  go_loopw [9, 10] (SrRel w l k s) (fun a b _ => (intOf b).toNat - (intOf a).toNat)
  case atStart => exact ⟨0, l.length, rfl, rfl, Nat.zero_le _, Nat.le_refl _, fun j _ hj => by omega, fun j x hj hx => by have := (List.getElem?_eq_some_iff.1 hx).1; omega, (Below.refl _ _).alloc (Nat.le_refl _) _, Blk.new _ _ _⟩
  case round =>
    obtain ⟨lo, hi, rfl, rfl, h3, h4, h5, h6, hb, hZ⟩ := hrel
    obtain ⟨z0, z1, z2, z3⟩ := cell4 hZ
    have HK := Lib.hid (And.intro h5 h6)
    clear h5 h6
    by_cases hlt : lo < hi
    · obtain ⟨m, hm⟩ : ∃ m, (lo + hi) / 2 = m := ⟨_, rfl⟩
      have hmI : ((lo : Int) + (hi : Int)) / 2 = (m : Int) := by omega
      have hm1 : lo ≤ m := by omega
      have hm2 : m < hi := by omega
      clear hm
      obtain ⟨x, hx⟩ : ∃ x, l[m]? = some x := ⟨_, List.getElem?_eq_getElem (by omega)⟩
      obtain ⟨b, o, rfl, hbl, c0, c1, c2, c3⟩ := (H.out.kept hb).cell_at hx
      have HX := Lib.hid hx
      clear hx
      have j0 : (0 : Int) ≤ (m : Int) := by omega
      have j1 : (m : Int) < (l.length : Int) := by omega
      have j2 : (lo : Int) < (hi : Int) := by omega
      by_cases hP : PLt x.key x.seq k s
      · --LT
        have HP := Lib.hid hP
        have hq : (cellCmp x.key x.seq k s < 0) = True := by rw [cellCmp_lt hP]; simp
        clear hP
        go_wp2_with fail
        refine region_plan (S := fun w' => w'.cell? ⟨w.heap.size, 0, none⟩ = some (.string k) ∧ w'.cell? ⟨w.heap.size, 1, none⟩ = some (.int .u64 s) ∧ w'.cell? ⟨w.heap.size, 2, none⟩ = some (.string ⟨#[]⟩) ∧ w'.cell? ⟨w.heap.size, 3, none⟩ = some (.bool false) ∧ w'.cell? ⟨b, o + m * 4, none⟩ = some (.string x.key) ∧ w'.cell? ⟨b, o + m * 4 + 1, none⟩ = some (.int .u64 x.seq) ∧ w'.cell? ⟨b, o + m * 4 + 2, none⟩ = some (.string x.val) ∧ w'.cell? ⟨b, o + m * 4 + 3, none⟩ = some (.bool x.gone))
          ((0, true) :: (1, true) :: (2, true) :: (3, true) :: (4, true) :: (5, true) :: (6, false) :: (7, true) :: [])
          (by kernel_rfl) (by kernel_rfl) (by kernel_rfl) (by kernel_rfl) (fun _ _ _ dst _ h => by cases dst <;> exact h) ⟨z0, z1, z2, z3, c0, c1, c2, c3⟩ (fun hH => ?_)
        (repeat (first | (refine plan_take (v := ?_) (by (simp only [List.getElem?_toArray, List.getElem?_cons_succ, List.getElem?_cons_zero]; exact rfl)) (by rfl) ?_ ?_; rotate_left; (focus (intro wS hS; (try dsimp only at hS); go_split_ands; go_simp; (try with_reducible rfl))); simp only [Act.put, List.setIfInBounds_toArray, List.set_cons_zero, List.set_cons_succ]) | (refine plan_skip (by (simp only [List.getElem?_toArray, List.getElem?_cons_succ, List.getElem?_cons_zero]; exact rfl)) (by rfl) ?_; simp only [Act.put, List.setIfInBounds_toArray, List.set_cons_zero, List.set_cons_succ])))
        (refine plan_solo (by (simp only [List.getElem?_toArray, List.getElem?_cons_succ, List.getElem?_cons_zero]; exact rfl)) (by rfl) ?_; intro K hK; go_simp)
        refine (block_compare x ⟨k, s, ⟨#[]⟩, false⟩ _).mono ?_
        rintro e w5 ⟨rfl, hb5⟩
        refine hK.out _ _ ⟨cell_keep hb5 z0, cell_keep hb5 z1, cell_keep hb5 z2, cell_keep hb5 z3, cell_keep hb5 c0, cell_keep hb5 c1, cell_keep hb5 c2, cell_keep hb5 c3⟩ (fun hH => ?_)
        clear hK K
        try simp only [Act.put, List.setIfInBounds_toArray, List.set_cons_zero, List.set_cons_succ]
        (repeat (first | (refine plan_take (v := ?_) (by (simp only [List.getElem?_toArray, List.getElem?_cons_succ, List.getElem?_cons_zero]; exact rfl)) (by rfl) ?_ ?_; rotate_left; (focus (intro wS hS; (try dsimp only at hS); go_split_ands; go_simp; (try with_reducible rfl))); simp only [Act.put, List.setIfInBounds_toArray, List.set_cons_zero, List.set_cons_succ]) | (refine plan_skip (by (simp only [List.getElem?_toArray, List.getElem?_cons_succ, List.getElem?_cons_zero]; exact rfl)) (by rfl) ?_; simp only [Act.put, List.setIfInBounds_toArray, List.set_cons_zero, List.set_cons_succ])))
        refine plan_nil ?_
        have b6 := hb.drew.trans (hb5.mono (by exact hb.size))
        have hZ2 := hZ.drew.kept hb5
        go_wp2_with fail
        go_roundw
        case rel => exact ⟨m + 1, hi, by go_num, rfl, by omega, h4, fun j y hj hy => adjC_down HS.out (by omega) hy HX.out HP.out, HK.out.2, b6, hZ2⟩
        case measure => simp [intOf]; omega
      · --GE
        have HP := Lib.hid hP
        have hq : (cellCmp x.key x.seq k s < 0) = False := by have := ge_of_not hP; simp; omega
        clear hP
        go_wp2_with fail
        refine region_plan (S := fun w' => w'.cell? ⟨w.heap.size, 0, none⟩ = some (.string k) ∧ w'.cell? ⟨w.heap.size, 1, none⟩ = some (.int .u64 s) ∧ w'.cell? ⟨w.heap.size, 2, none⟩ = some (.string ⟨#[]⟩) ∧ w'.cell? ⟨w.heap.size, 3, none⟩ = some (.bool false) ∧ w'.cell? ⟨b, o + m * 4, none⟩ = some (.string x.key) ∧ w'.cell? ⟨b, o + m * 4 + 1, none⟩ = some (.int .u64 x.seq) ∧ w'.cell? ⟨b, o + m * 4 + 2, none⟩ = some (.string x.val) ∧ w'.cell? ⟨b, o + m * 4 + 3, none⟩ = some (.bool x.gone))
          ((0, true) :: (1, true) :: (2, true) :: (3, true) :: (4, true) :: (5, true) :: (6, false) :: (7, true) :: [])
          (by kernel_rfl) (by kernel_rfl) (by kernel_rfl) (by kernel_rfl) (fun _ _ _ dst _ h => by cases dst <;> exact h) ⟨z0, z1, z2, z3, c0, c1, c2, c3⟩ (fun hH => ?_)
        (repeat (first | (refine plan_take (v := ?_) (by (simp only [List.getElem?_toArray, List.getElem?_cons_succ, List.getElem?_cons_zero]; exact rfl)) (by rfl) ?_ ?_; rotate_left; (focus (intro wS hS; (try dsimp only at hS); go_split_ands; go_simp; (try with_reducible rfl))); simp only [Act.put, List.setIfInBounds_toArray, List.set_cons_zero, List.set_cons_succ]) | (refine plan_skip (by (simp only [List.getElem?_toArray, List.getElem?_cons_succ, List.getElem?_cons_zero]; exact rfl)) (by rfl) ?_; simp only [Act.put, List.setIfInBounds_toArray, List.set_cons_zero, List.set_cons_succ])))
        (refine plan_solo (by (simp only [List.getElem?_toArray, List.getElem?_cons_succ, List.getElem?_cons_zero]; exact rfl)) (by rfl) ?_; intro K hK; go_simp)
        refine (block_compare x ⟨k, s, ⟨#[]⟩, false⟩ _).mono ?_
        rintro e w5 ⟨rfl, hb5⟩
        refine hK.out _ _ ⟨cell_keep hb5 z0, cell_keep hb5 z1, cell_keep hb5 z2, cell_keep hb5 z3, cell_keep hb5 c0, cell_keep hb5 c1, cell_keep hb5 c2, cell_keep hb5 c3⟩ (fun hH => ?_)
        clear hK K
        try simp only [Act.put, List.setIfInBounds_toArray, List.set_cons_zero, List.set_cons_succ]
        (repeat (first | (refine plan_take (v := ?_) (by (simp only [List.getElem?_toArray, List.getElem?_cons_succ, List.getElem?_cons_zero]; exact rfl)) (by rfl) ?_ ?_; rotate_left; (focus (intro wS hS; (try dsimp only at hS); go_split_ands; go_simp; (try with_reducible rfl))); simp only [Act.put, List.setIfInBounds_toArray, List.set_cons_zero, List.set_cons_succ]) | (refine plan_skip (by (simp only [List.getElem?_toArray, List.getElem?_cons_succ, List.getElem?_cons_zero]; exact rfl)) (by rfl) ?_; simp only [Act.put, List.setIfInBounds_toArray, List.set_cons_zero, List.set_cons_succ])))
        refine plan_nil ?_
        have b6 := hb.drew.trans (hb5.mono (by exact hb.size))
        have hZ2 := hZ.drew.kept hb5
        go_wp2_with fail
        go_roundw
        case rel => exact ⟨lo, m, rfl, by go_num, by omega, by omega, HK.out.1, fun j y hj hy hp => HP.out (adjC_down HS.out hj HX.out hy hp), b6, hZ2⟩
        case measure => simp [intOf]; omega
    · obtain rfl : hi = lo := by omega
      have hpos : posN l k s = hi := posN_eq l k s hi h4 HK.out.1 (fun x hx => HK.out.2 hi x (Nat.le_refl _) hx)
      have HP := Lib.hid hpos
      clear hpos
      by_cases he : hi < l.length
      · obtain ⟨m, hm⟩ : ∃ m, m = hi := ⟨_, rfl⟩
        subst hm
        obtain ⟨x, hx⟩ : ∃ x, l[m]? = some x := ⟨_, List.getElem?_eq_getElem he⟩
        obtain ⟨b, o, rfl, hbl, c0, c1, c2, c3⟩ := (H.out.kept hb).cell_at hx
        have j0 : (0 : Int) ≤ (m : Int) := by omega
        have j1 : (m : Int) < (l.length : Int) := by omega
        clear hx
        go_wp2_with fail
        refine region_plan (S := fun w' => w'.cell? ⟨w.heap.size, 0, none⟩ = some (.string k) ∧ w'.cell? ⟨w.heap.size, 1, none⟩ = some (.int .u64 s) ∧ w'.cell? ⟨w.heap.size, 2, none⟩ = some (.string ⟨#[]⟩) ∧ w'.cell? ⟨w.heap.size, 3, none⟩ = some (.bool false) ∧ w'.cell? ⟨b, o + m * 4, none⟩ = some (.string x.key) ∧ w'.cell? ⟨b, o + m * 4 + 1, none⟩ = some (.int .u64 x.seq) ∧ w'.cell? ⟨b, o + m * 4 + 2, none⟩ = some (.string x.val) ∧ w'.cell? ⟨b, o + m * 4 + 3, none⟩ = some (.bool x.gone))
          ((0, true) :: (1, true) :: (2, true) :: (3, true) :: (4, true) :: (5, true) :: (6, true) :: (7, true) :: (8, true) :: (9, true) :: (10, true) :: (11, false) :: (12, true) :: (13, true) :: (14, true) :: (15, true) :: [])
          (by kernel_rfl) (by kernel_rfl) (by kernel_rfl) (by kernel_rfl) (fun _ _ _ dst _ h => by cases dst <;> exact h) ⟨z0, z1, z2, z3, c0, c1, c2, c3⟩ (fun hH => ?_)
        (repeat (first | (refine plan_take (v := ?_) (by (simp only [List.getElem?_toArray, List.getElem?_cons_succ, List.getElem?_cons_zero]; exact rfl)) (by rfl) ?_ ?_; rotate_left; (focus (intro wS hS; (try dsimp only at hS); go_split_ands; go_simp; (try with_reducible rfl))); simp only [Act.put, List.setIfInBounds_toArray, List.set_cons_zero, List.set_cons_succ]) | (refine plan_skip (by (simp only [List.getElem?_toArray, List.getElem?_cons_succ, List.getElem?_cons_zero]; exact rfl)) (by rfl) ?_; simp only [Act.put, List.setIfInBounds_toArray, List.set_cons_zero, List.set_cons_succ])))
        (refine plan_solo (by (simp only [List.getElem?_toArray, List.getElem?_cons_succ, List.getElem?_cons_zero]; exact rfl)) (by rfl) ?_; intro K hK; go_simp)
        refine (block_compare x ⟨k, s, ⟨#[]⟩, false⟩ _).mono ?_
        rintro e w5 ⟨rfl, hb5⟩
        refine hK.out _ _ ⟨cell_keep hb5 z0, cell_keep hb5 z1, cell_keep hb5 z2, cell_keep hb5 z3, cell_keep hb5 c0, cell_keep hb5 c1, cell_keep hb5 c2, cell_keep hb5 c3⟩ (fun hH => ?_)
        clear hK K
        try simp only [Act.put, List.setIfInBounds_toArray, List.set_cons_zero, List.set_cons_succ]
        (repeat (first | (refine plan_take (v := ?_) (by (simp only [List.getElem?_toArray, List.getElem?_cons_succ, List.getElem?_cons_zero]; exact rfl)) (by rfl) ?_ ?_; rotate_left; (focus (intro wS hS; (try dsimp only at hS); go_split_ands; go_simp; (try with_reducible rfl))); simp only [Act.put, List.setIfInBounds_toArray, List.set_cons_zero, List.set_cons_succ]) | (refine plan_skip (by (simp only [List.getElem?_toArray, List.getElem?_cons_succ, List.getElem?_cons_zero]; exact rfl)) (by rfl) ?_; simp only [Act.put, List.setIfInBounds_toArray, List.set_cons_zero, List.set_cons_succ])))
        refine plan_nil ?_
        have b6 := hb.drew.trans (hb5.mono (by exact hb.size))
        go_wp2_with fail
        go_ret2
        exact ⟨⟨_, by rw [HP.out]; rfl⟩, b6⟩
      · obtain rfl : hi = l.length := by omega
        go_wp2_with fail
        refine region_plan (S := fun _ => True)
          ((0, true) :: (1, true) :: (2, true) :: (3, true) :: (4, true) :: (5, true) :: (6, true) :: (7, true) :: (8, true) :: (9, true) :: (10, true) :: (11, false) :: (12, true) :: (13, true) :: (14, true) :: (15, true) :: [])
          (by kernel_rfl) (by kernel_rfl) (by kernel_rfl) (by kernel_rfl) (fun _ _ _ dst _ h => by cases dst <;> exact h) trivial (fun hH => ?_)
        (repeat (first | (refine plan_take (v := ?_) (by (simp only [List.getElem?_toArray, List.getElem?_cons_succ, List.getElem?_cons_zero]; exact rfl)) (by rfl) ?_ ?_; rotate_left; (focus (intro wS hS; (try dsimp only at hS); go_split_ands; go_simp; (try with_reducible rfl))); simp only [Act.put, List.setIfInBounds_toArray, List.set_cons_zero, List.set_cons_succ]) | (refine plan_skip (by (simp only [List.getElem?_toArray, List.getElem?_cons_succ, List.getElem?_cons_zero]; exact rfl)) (by rfl) ?_; simp only [Act.put, List.setIfInBounds_toArray, List.set_cons_zero, List.set_cons_succ])))
        (refine plan_solo_skip (by (simp only [List.getElem?_toArray, List.getElem?_cons_succ, List.getElem?_cons_zero]; exact rfl)) (by rfl) ?_ ?_; rotate_left; simp only [Act.put, List.setIfInBounds_toArray, List.set_cons_zero, List.set_cons_succ])
        · (repeat (first | (refine plan_take (v := ?_) (by (simp only [List.getElem?_toArray, List.getElem?_cons_succ, List.getElem?_cons_zero]; exact rfl)) (by rfl) ?_ ?_; rotate_left; (focus (intro wS hS; (try dsimp only at hS); go_split_ands; go_simp; (try with_reducible rfl))); simp only [Act.put, List.setIfInBounds_toArray, List.set_cons_zero, List.set_cons_succ]) | (refine plan_skip (by (simp only [List.getElem?_toArray, List.getElem?_cons_succ, List.getElem?_cons_zero]; exact rfl)) (by rfl) ?_; simp only [Act.put, List.setIfInBounds_toArray, List.set_cons_zero, List.set_cons_succ])))
          refine plan_nil ?_
          go_wp2_with fail
          go_ret2
          exact ⟨⟨_, by rw [HP.out]; rfl⟩, hb.drew⟩
        · exact trivial
end Go.Proofs.Ytbcaiegglbdonaa
