/-
  Two cells compared; may cells be a block's: the program's Check and the reference's.
-/
import Derived.Test.YtbcaiegglbdonaaShared
import Derived.Test.YtbcaiegglbdonaaRefCells
import Derived.Test.YtbcaiegglbdonaaPlan
import Derived.Test.YtbcaiegglbdonaaSmall
namespace Go.Proofs.Ytbcaiegglbdonaa
open Go Go.RowKit

set_option maxRecDepth 100000 in
set_option maxHeartbeats 1000000 in
theorem block_compare (x y : Cell) (w : World) :
    Calls Try.prog 97 #[.agg #[.string x.key, .int .u64 x.seq, .string x.val, .bool x.gone], .agg #[.string y.key, .int .u64 y.seq, .string y.val, .bool y.gone]] w fun e w' => e = .returned (.int .i64 (cellCmp x.key x.seq y.key y.seq)) ∧ Below w.heap.size w w' := by
  go_enter Try.func97, Try.ntmps97
  go_wp2
  go_region_held3 (fun w' => w'.cell? ⟨w.heap.size, 0, none⟩ = some (.string x.key) ∧ w'.cell? ⟨w.heap.size, 1, none⟩ = some (.int .u64 x.seq) ∧ w'.cell? ⟨w.heap.size + 1, 0, none⟩ = some (.string y.key) ∧ w'.cell? ⟨w.heap.size + 1, 1, none⟩ = some (.int .u64 y.seq)) (go_keep)
    (first | (go_at_call 126; refine (strings_Compare _ _ _).mono ?_; rintro e w' ⟨rfl, rfl⟩) | (go_at_call 127; refine (cmp_u64 _ _ _).mono ?_; rintro e w' ⟨rfl, rfl⟩) | (go_at_call 125; refine (or_two _ (Lib.compareBytes x.key.data.toList y.key.data.toList) (cmpInt y.seq x.seq) _ _ ?_ ?_).mono ?_; (go_simp); (go_simp); rintro e w' ⟨rfl, rfl⟩))
  go_wp2
  go_ret
  exact ⟨rfl, ((((Below.refl _ _).alloc (Nat.le_refl _) _).alloc (by simp) _).alloc (by simp; omega) _).drew⟩

/-- The number that Check tells: 60, a cell that may not be; 81, out of order. -/
def adjC : List Cell → Bool
  | x :: y :: l => decide (PLt x.key x.seq y.key y.seq) && adjC (y :: l)
  | _ => true
theorem adjC_iff : ∀ l : List Cell, adjC l = true ↔ ∀ (j : Nat) (x y : Cell), l[j]? = some x → l[j + 1]? = some y → PLt x.key x.seq y.key y.seq
  | [] => by simp [adjC]
  | [_] => by simp [adjC]
  | x :: y :: l => by
    rw [adjC, Bool.and_eq_true, adjC_iff (y :: l), decide_eq_true_iff]
    constructor
    · rintro ⟨h1, h2⟩ j u v hu hv
      cases j with
      | zero => simp at hu hv; subst hu hv; exact h1
      | succ j => exact h2 j u v (by simpa using hu) (by simpa using hv)
    · intro h
      exact ⟨h 0 x y rfl rfl, fun j u v hu hv => h (j + 1) u v (by simpa using hu) (by simpa using hv)⟩
def checkL (l : List Cell) : Int := if ∃ c ∈ l, checkN c = 60 then 60 else if adjC l = true then 0 else 81
def ChkRel1 (w : World) (l : List Cell) (i : Value) (W : World) : Prop := ∃ k : Nat, k ≤ l.length ∧ i = .int .i64 k ∧ (∀ c ∈ l.take k, checkN c = 0) ∧ Below w.heap.size w W
def ChkRel2 (w : World) (l : List Cell) (i : Value) (W : World) : Prop := ∃ k : Nat, k ≤ l.length ∧ i = .int .i64 ((k : Int) + 1) ∧ (∀ j x y, j < k → l[j]? = some x → l[j + 1]? = some y → PLt x.key x.seq y.key y.seq) ∧ Below w.heap.size w W
set_option maxRecDepth 100000 in
set_option maxHeartbeats 2000000 in
theorem block_check {w : World} {v : Value} {l : List Cell} (h : Reads w v l.length 4 (cellVals l)) (hl : l.length ≤ 2932031007402) :
    Calls Try.prog 39 #[v] w fun e w' => e = .returned (.int .i64 (checkL l)) ∧ Below w.heap.size w w' := by
  obtain ⟨A, cap, rfl⟩ := h.form
  have H := Lib.hid h
  clear h
  go_enter Try.func39, Try.ntmps39
  go_wp2_with fail
  go_loopw [9] (ChkRel1 w l) (fun i _ => l.length - (intOf i).toNat)
  case atStart => exact ⟨0, by omega, rfl, by simp, Below.refl _ _⟩
  case round =>
    obtain ⟨k, hk, rfl, hok, hb⟩ := hrel
    by_cases hlt : k < l.length
    · obtain ⟨x, hx⟩ : ∃ x, l[k]? = some x := ⟨_, List.getElem?_eq_getElem hlt⟩
      obtain ⟨b, o, rfl, hbl, c0, c1, c2, c3⟩ := (H.out.kept hb).cell_at hx
      have i0 : (0 : Int) ≤ (k : Int) := by omega
      have i1 : (k : Int) < (l.length : Int) := by omega
      have HX := Lib.hid hx
      have HO := Lib.hid hok
      clear hx hok
      have hba : Below wr.heap.size wr (wr.alloc (.cells #[.string x.key, .int .u64 x.seq, .string x.val, .bool x.gone] 25)) := (Below.refl _ _).alloc (Nat.le_refl _) _
      rcases check_or x with hc | hc
      · have hck := check_spec x (wr.alloc (.cells #[.string x.key, .int .u64 x.seq, .string x.val, .bool x.gone] 25))
        rw [hc] at hck
        have HC := Lib.hid hck
        have HC0 := Lib.hid hc
        clear hck hc
        go_wp2_with (go_at_call 74; refine HC.out.mono ?_; rintro e w1 ⟨rfl, hb1⟩)
        go_roundw
        case rel =>
          refine ⟨k + 1, by omega, by go_num, ?_, hb.trans ((hba.trans (hb1.mono hba.size)).mono hb.size)⟩
          intro c hc
          rw [List.take_add_one, HX.out] at hc
          rcases List.mem_append.1 hc with hc | hc
          · exact HO.out c hc
          · obtain rfl : c = x := by simpa using hc
            exact HC0.out
        case measure => simp [intOf]; omega
      · have hck := check_spec x (wr.alloc (.cells #[.string x.key, .int .u64 x.seq, .string x.val, .bool x.gone] 25))
        rw [hc] at hck
        have HC := Lib.hid hck
        have HC0 := Lib.hid (show checkL l = 60 by unfold checkL; rw [if_pos ⟨x, List.mem_of_getElem? HX.out, hc⟩])
        clear hck hc
        go_wp2_with (go_at_call 74; refine HC.out.mono ?_; rintro e w1 ⟨rfl, hb1⟩)
        go_ret
        exact ⟨by rw [HC0.out]; rfl, hb.trans ((hba.trans (hb1.mono hba.size)).mono hb.size)⟩
    · obtain rfl : k = l.length := by omega
      rw [List.take_length] at hok
      have HO := Lib.hid (show ¬ ∃ c ∈ l, checkN c = 60 by rintro ⟨c, hc, h⟩; have := hok c hc; omega)
      clear hok
      go_wp2_with fail
      go_loopw [6] (ChkRel2 w l) (fun i _ => l.length - (intOf i).toNat)
      case atStart => exact ⟨0, by omega, rfl, fun j _ _ hj => by omega, hb⟩
      case round =>
        obtain ⟨k, hk, rfl, hok, hb⟩ := hrel
        by_cases hlt : k + 1 < l.length
        · obtain ⟨x, hx⟩ : ∃ x, l[k]? = some x := ⟨_, List.getElem?_eq_getElem (by omega)⟩
          obtain ⟨y, hy⟩ : ∃ y, l[k + 1]? = some y := ⟨_, List.getElem?_eq_getElem hlt⟩
          obtain ⟨b, o, rfl, hbl, c0, c1, c2, c3⟩ := (H.out.kept hb).cell_at hx
          obtain ⟨b', o', e', _, d0, d1, d2, d3⟩ := (H.out.kept hb).cell_at hy
          cases e'
          have i0 : (0 : Int) ≤ (k : Int) := by omega
          have i1 : (k : Int) < (l.length : Int) := by omega
          have i2 : (0 : Int) ≤ (k : Int) + 1 := by omega
          have i3 : (k : Int) + 1 < (l.length : Int) := by omega
          have i4 : k + 1 < l.length := hlt
          have hw1 : IntKind.i64.wrap ((k : Int) + 1 - 1) = (k : Int) := by
            rw [show (k : Int) + 1 - 1 = (k : Int) by omega]; exact IntWalk.i64_in _ (by omega)
          have hw2 : IntKind.i64.wrap (k : Int) = (k : Int) := IntWalk.i64_in _ (by omega)
          have hw3 : IntKind.i64.wrap ((k : Int) + 1 + 1) = (k : Int) + 1 + 1 := IntWalk.i64_in _ (by omega)
          have ht1 : ((k : Int) + 1).toNat = k + 1 := by omega
          have HX := Lib.hid hx
          have HY := Lib.hid hy
          have HK := Lib.hid hok
          clear hx hy hok
          have hS : wr.drew.cell? ⟨b, o + k * 4, none⟩ = some (.string x.key) ∧ wr.drew.cell? ⟨b, o + k * 4 + 1, none⟩ = some (.int .u64 x.seq) ∧ wr.drew.cell? ⟨b, o + k * 4 + 2, none⟩ = some (.string x.val) ∧ wr.drew.cell? ⟨b, o + k * 4 + 3, none⟩ = some (.bool x.gone) ∧ wr.drew.cell? ⟨b, o + (k + 1) * 4, none⟩ = some (.string y.key) ∧ wr.drew.cell? ⟨b, o + (k + 1) * 4 + 1, none⟩ = some (.int .u64 y.seq) ∧ wr.drew.cell? ⟨b, o + (k + 1) * 4 + 2, none⟩ = some (.string y.val) ∧ wr.drew.cell? ⟨b, o + (k + 1) * 4 + 3, none⟩ = some (.bool y.gone) := ⟨c0, c1, c2, c3, d0, d1, d2, d3⟩
          by_cases hP : PLt x.key x.seq y.key y.seq
          · have HP := Lib.hid hP
            have hq : (0 ≤ cellCmp x.key x.seq y.key y.seq) = False := by rw [cellCmp_lt hP]; simp
            clear hP
            go_wp2_with fail
            refine region_plan (S := fun w' => w'.cell? ⟨b, o + k * 4, none⟩ = some (.string x.key) ∧ w'.cell? ⟨b, o + k * 4 + 1, none⟩ = some (.int .u64 x.seq) ∧ w'.cell? ⟨b, o + k * 4 + 2, none⟩ = some (.string x.val) ∧ w'.cell? ⟨b, o + k * 4 + 3, none⟩ = some (.bool x.gone) ∧ w'.cell? ⟨b, o + (k + 1) * 4, none⟩ = some (.string y.key) ∧ w'.cell? ⟨b, o + (k + 1) * 4 + 1, none⟩ = some (.int .u64 y.seq) ∧ w'.cell? ⟨b, o + (k + 1) * 4 + 2, none⟩ = some (.string y.val) ∧ w'.cell? ⟨b, o + (k + 1) * 4 + 3, none⟩ = some (.bool y.gone))
              ((0, true) :: (1, true) :: (2, true) :: (3, true) :: (4, true) :: (5, true) :: (6, true) :: (7, true) :: (8, true) :: (9, false) :: (10, true) :: [])
              (by kernel_rfl) (by kernel_rfl) (by kernel_rfl) (by kernel_rfl) (fun _ _ _ dst _ h => by cases dst <;> exact h) hS (fun hH => ?_)
            (repeat (first | (refine plan_take (v := ?_) (by (simp only [List.getElem?_toArray, List.getElem?_cons_succ, List.getElem?_cons_zero]; exact rfl)) (by rfl) ?_ ?_; rotate_left; (focus (intro wS hS; (try dsimp only at hS); go_split_ands; go_simp; (try with_reducible rfl))); simp only [Act.put, List.setIfInBounds_toArray, List.set_cons_zero, List.set_cons_succ]) | (refine plan_skip (by (simp only [List.getElem?_toArray, List.getElem?_cons_succ, List.getElem?_cons_zero]; exact rfl)) (by rfl) ?_; simp only [Act.put, List.setIfInBounds_toArray, List.set_cons_zero, List.set_cons_succ])))
            (refine plan_solo (by (simp only [List.getElem?_toArray, List.getElem?_cons_succ, List.getElem?_cons_zero]; exact rfl)) (by rfl) ?_; intro K hK; go_simp)
            refine (block_compare x y _).mono ?_
            rintro e w5 ⟨rfl, hb5⟩
            refine hK.out _ _ ⟨cell_keep hb5 c0, cell_keep hb5 c1, cell_keep hb5 c2, cell_keep hb5 c3, cell_keep hb5 d0, cell_keep hb5 d1, cell_keep hb5 d2, cell_keep hb5 d3⟩ (fun hH => ?_)
            clear hK K
            try simp only [Act.put, List.setIfInBounds_toArray, List.set_cons_zero, List.set_cons_succ]
            (repeat (first | (refine plan_take (v := ?_) (by (simp only [List.getElem?_toArray, List.getElem?_cons_succ, List.getElem?_cons_zero]; exact rfl)) (by rfl) ?_ ?_; rotate_left; (focus (intro wS hS; (try dsimp only at hS); go_split_ands; go_simp; (try with_reducible rfl))); simp only [Act.put, List.setIfInBounds_toArray, List.set_cons_zero, List.set_cons_succ]) | (refine plan_skip (by (simp only [List.getElem?_toArray, List.getElem?_cons_succ, List.getElem?_cons_zero]; exact rfl)) (by rfl) ?_; simp only [Act.put, List.setIfInBounds_toArray, List.set_cons_zero, List.set_cons_succ])))
            refine plan_nil ?_
            go_wp2_with fail
            go_roundw
            case rel =>
              refine ⟨k + 1, by omega, by go_num, fun j u v hj hu hv => ?_, hb.trans ((Below.refl _ _).drew.trans (hb5.mono hb.size))⟩
              by_cases hjk : j < k
              · exact HK.out j u v hjk hu hv
              · obtain rfl : j = k := by omega
                rw [HX.out] at hu
                rw [HY.out] at hv
                cases hu
                cases hv
                exact HP.out
            case measure => simp [intOf]; omega
          · have HP := Lib.hid (show checkL l = 81 by unfold checkL; rw [if_neg HO.out, if_neg (fun h => hP ((adjC_iff l).1 h k x y HX.out HY.out))])
            have hq : (0 ≤ cellCmp x.key x.seq y.key y.seq) = True := by have := (not_congr (cellCmp_neg_iff (k1 := x.key) (s1 := x.seq) (k2 := y.key) (s2 := y.seq))).2 hP; simp; omega
            clear hP
            go_wp2_with fail
            refine region_plan (S := fun w' => w'.cell? ⟨b, o + k * 4, none⟩ = some (.string x.key) ∧ w'.cell? ⟨b, o + k * 4 + 1, none⟩ = some (.int .u64 x.seq) ∧ w'.cell? ⟨b, o + k * 4 + 2, none⟩ = some (.string x.val) ∧ w'.cell? ⟨b, o + k * 4 + 3, none⟩ = some (.bool x.gone) ∧ w'.cell? ⟨b, o + (k + 1) * 4, none⟩ = some (.string y.key) ∧ w'.cell? ⟨b, o + (k + 1) * 4 + 1, none⟩ = some (.int .u64 y.seq) ∧ w'.cell? ⟨b, o + (k + 1) * 4 + 2, none⟩ = some (.string y.val) ∧ w'.cell? ⟨b, o + (k + 1) * 4 + 3, none⟩ = some (.bool y.gone))
              ((0, true) :: (1, true) :: (2, true) :: (3, true) :: (4, true) :: (5, true) :: (6, true) :: (7, true) :: (8, true) :: (9, false) :: (10, true) :: [])
              (by kernel_rfl) (by kernel_rfl) (by kernel_rfl) (by kernel_rfl) (fun _ _ _ dst _ h => by cases dst <;> exact h) hS (fun hH => ?_)
            (repeat (first | (refine plan_take (v := ?_) (by (simp only [List.getElem?_toArray, List.getElem?_cons_succ, List.getElem?_cons_zero]; exact rfl)) (by rfl) ?_ ?_; rotate_left; (focus (intro wS hS; (try dsimp only at hS); go_split_ands; go_simp; (try with_reducible rfl))); simp only [Act.put, List.setIfInBounds_toArray, List.set_cons_zero, List.set_cons_succ]) | (refine plan_skip (by (simp only [List.getElem?_toArray, List.getElem?_cons_succ, List.getElem?_cons_zero]; exact rfl)) (by rfl) ?_; simp only [Act.put, List.setIfInBounds_toArray, List.set_cons_zero, List.set_cons_succ])))
            (refine plan_solo (by (simp only [List.getElem?_toArray, List.getElem?_cons_succ, List.getElem?_cons_zero]; exact rfl)) (by rfl) ?_; intro K hK; go_simp)
            refine (block_compare x y _).mono ?_
            rintro e w5 ⟨rfl, hb5⟩
            refine hK.out _ _ ⟨cell_keep hb5 c0, cell_keep hb5 c1, cell_keep hb5 c2, cell_keep hb5 c3, cell_keep hb5 d0, cell_keep hb5 d1, cell_keep hb5 d2, cell_keep hb5 d3⟩ (fun hH => ?_)
            clear hK K
            try simp only [Act.put, List.setIfInBounds_toArray, List.set_cons_zero, List.set_cons_succ]
            (repeat (first | (refine plan_take (v := ?_) (by (simp only [List.getElem?_toArray, List.getElem?_cons_succ, List.getElem?_cons_zero]; exact rfl)) (by rfl) ?_ ?_; rotate_left; (focus (intro wS hS; (try dsimp only at hS); go_split_ands; go_simp; (try with_reducible rfl))); simp only [Act.put, List.setIfInBounds_toArray, List.set_cons_zero, List.set_cons_succ]) | (refine plan_skip (by (simp only [List.getElem?_toArray, List.getElem?_cons_succ, List.getElem?_cons_zero]; exact rfl)) (by rfl) ?_; simp only [Act.put, List.setIfInBounds_toArray, List.set_cons_zero, List.set_cons_succ])))
            refine plan_nil ?_
            go_wp2_with fail
            go_ret
            exact ⟨by rw [HP.out]; rfl, hb.trans ((Below.refl _ _).drew.trans (hb5.mono hb.size))⟩
        · have i3 : ¬ (k : Int) + 1 < (l.length : Int) := by omega
          have i4 : ¬ k + 1 < l.length := hlt
          have HZ := Lib.hid (show checkL l = 0 by
            unfold checkL
            rw [if_neg HO.out, if_pos]
            refine (adjC_iff l).2 fun i x y hx hy => ?_
            have := (List.getElem?_eq_some_iff.1 hy).1
            exact hok i x y (by omega) hx hy)
          clear hok
          go_wp2_with fail
          go_ret
          exact ⟨by rw [HZ.out]; rfl, hb⟩
set_option maxRecDepth 100000 in
set_option maxHeartbeats 2000000 in
theorem ref_check_list {w : World} {v : Value} {l : List Cell} (h : Reads w v l.length 4 (cellVals l)) (hl : l.length ≤ 2932031007402) :
    Calls Try.prog 40 #[v] w fun e w' => e = .returned (.int .i64 (checkL l)) ∧ Below w.heap.size w w' := by
  obtain ⟨A, cap, rfl⟩ := h.form
  have H := Lib.hid h
  clear h
  go_enter Try.func40, Try.ntmps40
  go_wp2_with fail
  go_loopw [8] (ChkRel1 w l) (fun i _ => l.length - (intOf i).toNat)
  case atStart => exact ⟨0, by omega, rfl, by simp, Below.refl _ _⟩
  case round =>
    obtain ⟨k, hk, rfl, hok, hb⟩ := hrel
    by_cases hlt : k < l.length
    · obtain ⟨x, hx⟩ : ∃ x, l[k]? = some x := ⟨_, List.getElem?_eq_getElem hlt⟩
      obtain ⟨b, o, rfl, hbl, c0, c1, c2, c3⟩ := (H.out.kept hb).cell_at hx
      have i0 : (0 : Int) ≤ (k : Int) := by omega
      have i1 : (k : Int) < (l.length : Int) := by omega
      have HX := Lib.hid hx
      have HO := Lib.hid hok
      clear hx hok
      have hba : Below wr.heap.size wr (wr.alloc (.cells #[.string x.key, .int .u64 x.seq, .string x.val, .bool x.gone] 25)) := (Below.refl _ _).alloc (Nat.le_refl _) _
      rcases check_or x with hc | hc
      · have hck := ref_check x (wr.alloc (.cells #[.string x.key, .int .u64 x.seq, .string x.val, .bool x.gone] 25))
        rw [hc] at hck
        have HC := Lib.hid hck
        have HC0 := Lib.hid hc
        clear hck hc
        go_wp2_with (go_at_call 80; refine HC.out.mono ?_; rintro e w1 ⟨rfl, hb1⟩)
        go_roundw
        case rel =>
          refine ⟨k + 1, by omega, by go_num, ?_, hb.trans ((hba.trans (hb1.mono hba.size)).mono hb.size)⟩
          intro c hc
          rw [List.take_add_one, HX.out] at hc
          rcases List.mem_append.1 hc with hc | hc
          · exact HO.out c hc
          · obtain rfl : c = x := by simpa using hc
            exact HC0.out
        case measure => simp [intOf]; omega
      · have hck := ref_check x (wr.alloc (.cells #[.string x.key, .int .u64 x.seq, .string x.val, .bool x.gone] 25))
        rw [hc] at hck
        have HC := Lib.hid hck
        have HC0 := Lib.hid (show checkL l = 60 by unfold checkL; rw [if_pos ⟨x, List.mem_of_getElem? HX.out, hc⟩])
        clear hck hc
        go_wp2_with (go_at_call 80; refine HC.out.mono ?_; rintro e w1 ⟨rfl, hb1⟩)
        go_ret
        exact ⟨by rw [HC0.out]; rfl, hb.trans ((hba.trans (hb1.mono hba.size)).mono hb.size)⟩
    · obtain rfl : k = l.length := by omega
      rw [List.take_length] at hok
      have HO := Lib.hid (show ¬ ∃ c ∈ l, checkN c = 60 by rintro ⟨c, hc, h⟩; have := hok c hc; omega)
      clear hok
      go_wp2_with fail
      go_loopw [5] (ChkRel2 w l) (fun i _ => l.length - (intOf i).toNat)
      case atStart => exact ⟨0, by omega, rfl, fun j _ _ hj => by omega, hb⟩
      case round =>
        obtain ⟨k, hk, rfl, hok, hb⟩ := hrel
        by_cases hlt : k + 1 < l.length
        · obtain ⟨x, hx⟩ : ∃ x, l[k]? = some x := ⟨_, List.getElem?_eq_getElem (by omega)⟩
          obtain ⟨y, hy⟩ : ∃ y, l[k + 1]? = some y := ⟨_, List.getElem?_eq_getElem hlt⟩
          obtain ⟨b, o, rfl, hbl, c0, c1, c2, c3⟩ := (H.out.kept hb).cell_at hx
          obtain ⟨b', o', e', _, d0, d1, d2, d3⟩ := (H.out.kept hb).cell_at hy
          cases e'
          have i0 : (0 : Int) ≤ (k : Int) := by omega
          have i1 : (k : Int) < (l.length : Int) := by omega
          have i2 : (0 : Int) ≤ (k : Int) + 1 := by omega
          have i3 : (k : Int) + 1 < (l.length : Int) := by omega
          have i4 : k + 1 < l.length := hlt
          have hw1 : IntKind.i64.wrap ((k : Int) + 1 - 1) = (k : Int) := by
            rw [show (k : Int) + 1 - 1 = (k : Int) by omega]; exact IntWalk.i64_in _ (by omega)
          have hw2 : IntKind.i64.wrap (k : Int) = (k : Int) := IntWalk.i64_in _ (by omega)
          have hw3 : IntKind.i64.wrap ((k : Int) + 1 + 1) = (k : Int) + 1 + 1 := IntWalk.i64_in _ (by omega)
          have ht1 : ((k : Int) + 1).toNat = k + 1 := by omega
          have HX := Lib.hid hx
          have HY := Lib.hid hy
          have HK := Lib.hid hok
          clear hx hy hok
          have hS : wr.drew.cell? ⟨b, o + k * 4, none⟩ = some (.string x.key) ∧ wr.drew.cell? ⟨b, o + k * 4 + 1, none⟩ = some (.int .u64 x.seq) ∧ wr.drew.cell? ⟨b, o + k * 4 + 2, none⟩ = some (.string x.val) ∧ wr.drew.cell? ⟨b, o + k * 4 + 3, none⟩ = some (.bool x.gone) ∧ wr.drew.cell? ⟨b, o + (k + 1) * 4, none⟩ = some (.string y.key) ∧ wr.drew.cell? ⟨b, o + (k + 1) * 4 + 1, none⟩ = some (.int .u64 y.seq) ∧ wr.drew.cell? ⟨b, o + (k + 1) * 4 + 2, none⟩ = some (.string y.val) ∧ wr.drew.cell? ⟨b, o + (k + 1) * 4 + 3, none⟩ = some (.bool y.gone) := ⟨c0, c1, c2, c3, d0, d1, d2, d3⟩
          by_cases hP : PLt x.key x.seq y.key y.seq
          · have HP := Lib.hid hP
            have hq : decide (PLt x.key x.seq y.key y.seq) = true := decide_eq_true hP
            clear hP
            go_wp2_with fail
            refine region_plan (S := fun w' => w'.cell? ⟨b, o + k * 4, none⟩ = some (.string x.key) ∧ w'.cell? ⟨b, o + k * 4 + 1, none⟩ = some (.int .u64 x.seq) ∧ w'.cell? ⟨b, o + k * 4 + 2, none⟩ = some (.string x.val) ∧ w'.cell? ⟨b, o + k * 4 + 3, none⟩ = some (.bool x.gone) ∧ w'.cell? ⟨b, o + (k + 1) * 4, none⟩ = some (.string y.key) ∧ w'.cell? ⟨b, o + (k + 1) * 4 + 1, none⟩ = some (.int .u64 y.seq) ∧ w'.cell? ⟨b, o + (k + 1) * 4 + 2, none⟩ = some (.string y.val) ∧ w'.cell? ⟨b, o + (k + 1) * 4 + 3, none⟩ = some (.bool y.gone))
              ((0, true) :: (1, true) :: (2, true) :: (3, true) :: (4, true) :: (5, true) :: (6, true) :: (7, true) :: (8, true) :: (9, false) :: (10, true) :: [])
              (by kernel_rfl) (by kernel_rfl) (by kernel_rfl) (by kernel_rfl) (fun _ _ _ dst _ h => by cases dst <;> exact h) hS (fun hH => ?_)
            (repeat (first | (refine plan_take (v := ?_) (by (simp only [List.getElem?_toArray, List.getElem?_cons_succ, List.getElem?_cons_zero]; exact rfl)) (by rfl) ?_ ?_; rotate_left; (focus (intro wS hS; (try dsimp only at hS); go_split_ands; go_simp; (try with_reducible rfl))); simp only [Act.put, List.setIfInBounds_toArray, List.set_cons_zero, List.set_cons_succ]) | (refine plan_skip (by (simp only [List.getElem?_toArray, List.getElem?_cons_succ, List.getElem?_cons_zero]; exact rfl)) (by rfl) ?_; simp only [Act.put, List.setIfInBounds_toArray, List.set_cons_zero, List.set_cons_succ])))
            (refine plan_solo (by (simp only [List.getElem?_toArray, List.getElem?_cons_succ, List.getElem?_cons_zero]; exact rfl)) (by rfl) ?_; intro K hK; go_simp)
            refine (less_spec x y _).mono ?_
            rintro e w5 ⟨rfl, hb5⟩
            rw [hq]
            refine hK.out _ _ ⟨cell_keep hb5 c0, cell_keep hb5 c1, cell_keep hb5 c2, cell_keep hb5 c3, cell_keep hb5 d0, cell_keep hb5 d1, cell_keep hb5 d2, cell_keep hb5 d3⟩ (fun hH => ?_)
            clear hK K
            try simp only [Act.put, List.setIfInBounds_toArray, List.set_cons_zero, List.set_cons_succ]
            (repeat (first | (refine plan_take (v := ?_) (by (simp only [List.getElem?_toArray, List.getElem?_cons_succ, List.getElem?_cons_zero]; exact rfl)) (by rfl) ?_ ?_; rotate_left; (focus (intro wS hS; (try dsimp only at hS); go_split_ands; go_simp; (try with_reducible rfl))); simp only [Act.put, List.setIfInBounds_toArray, List.set_cons_zero, List.set_cons_succ]) | (refine plan_skip (by (simp only [List.getElem?_toArray, List.getElem?_cons_succ, List.getElem?_cons_zero]; exact rfl)) (by rfl) ?_; simp only [Act.put, List.setIfInBounds_toArray, List.set_cons_zero, List.set_cons_succ])))
            refine plan_nil ?_
            go_wp2_with fail
            go_roundw
            case rel =>
              refine ⟨k + 1, by omega, by go_num, fun j u v hj hu hv => ?_, hb.trans ((Below.refl _ _).drew.trans (hb5.mono hb.size))⟩
              by_cases hjk : j < k
              · exact HK.out j u v hjk hu hv
              · obtain rfl : j = k := by omega
                rw [HX.out] at hu
                rw [HY.out] at hv
                cases hu
                cases hv
                exact HP.out
            case measure => simp [intOf]; omega
          · have HP := Lib.hid (show checkL l = 81 by unfold checkL; rw [if_neg HO.out, if_neg (fun h => hP ((adjC_iff l).1 h k x y HX.out HY.out))])
            have hq : decide (PLt x.key x.seq y.key y.seq) = false := decide_eq_false hP
            clear hP
            go_wp2_with fail
            refine region_plan (S := fun w' => w'.cell? ⟨b, o + k * 4, none⟩ = some (.string x.key) ∧ w'.cell? ⟨b, o + k * 4 + 1, none⟩ = some (.int .u64 x.seq) ∧ w'.cell? ⟨b, o + k * 4 + 2, none⟩ = some (.string x.val) ∧ w'.cell? ⟨b, o + k * 4 + 3, none⟩ = some (.bool x.gone) ∧ w'.cell? ⟨b, o + (k + 1) * 4, none⟩ = some (.string y.key) ∧ w'.cell? ⟨b, o + (k + 1) * 4 + 1, none⟩ = some (.int .u64 y.seq) ∧ w'.cell? ⟨b, o + (k + 1) * 4 + 2, none⟩ = some (.string y.val) ∧ w'.cell? ⟨b, o + (k + 1) * 4 + 3, none⟩ = some (.bool y.gone))
              ((0, true) :: (1, true) :: (2, true) :: (3, true) :: (4, true) :: (5, true) :: (6, true) :: (7, true) :: (8, true) :: (9, false) :: (10, true) :: [])
              (by kernel_rfl) (by kernel_rfl) (by kernel_rfl) (by kernel_rfl) (fun _ _ _ dst _ h => by cases dst <;> exact h) hS (fun hH => ?_)
            (repeat (first | (refine plan_take (v := ?_) (by (simp only [List.getElem?_toArray, List.getElem?_cons_succ, List.getElem?_cons_zero]; exact rfl)) (by rfl) ?_ ?_; rotate_left; (focus (intro wS hS; (try dsimp only at hS); go_split_ands; go_simp; (try with_reducible rfl))); simp only [Act.put, List.setIfInBounds_toArray, List.set_cons_zero, List.set_cons_succ]) | (refine plan_skip (by (simp only [List.getElem?_toArray, List.getElem?_cons_succ, List.getElem?_cons_zero]; exact rfl)) (by rfl) ?_; simp only [Act.put, List.setIfInBounds_toArray, List.set_cons_zero, List.set_cons_succ])))
            (refine plan_solo (by (simp only [List.getElem?_toArray, List.getElem?_cons_succ, List.getElem?_cons_zero]; exact rfl)) (by rfl) ?_; intro K hK; go_simp)
            refine (less_spec x y _).mono ?_
            rintro e w5 ⟨rfl, hb5⟩
            rw [hq]
            refine hK.out _ _ ⟨cell_keep hb5 c0, cell_keep hb5 c1, cell_keep hb5 c2, cell_keep hb5 c3, cell_keep hb5 d0, cell_keep hb5 d1, cell_keep hb5 d2, cell_keep hb5 d3⟩ (fun hH => ?_)
            clear hK K
            try simp only [Act.put, List.setIfInBounds_toArray, List.set_cons_zero, List.set_cons_succ]
            (repeat (first | (refine plan_take (v := ?_) (by (simp only [List.getElem?_toArray, List.getElem?_cons_succ, List.getElem?_cons_zero]; exact rfl)) (by rfl) ?_ ?_; rotate_left; (focus (intro wS hS; (try dsimp only at hS); go_split_ands; go_simp; (try with_reducible rfl))); simp only [Act.put, List.setIfInBounds_toArray, List.set_cons_zero, List.set_cons_succ]) | (refine plan_skip (by (simp only [List.getElem?_toArray, List.getElem?_cons_succ, List.getElem?_cons_zero]; exact rfl)) (by rfl) ?_; simp only [Act.put, List.setIfInBounds_toArray, List.set_cons_zero, List.set_cons_succ])))
            refine plan_nil ?_
            go_wp2_with fail
            go_ret
            exact ⟨by rw [HP.out]; rfl, hb.trans ((Below.refl _ _).drew.trans (hb5.mono hb.size))⟩
        · have i3 : ¬ (k : Int) + 1 < (l.length : Int) := by omega
          have i4 : ¬ k + 1 < l.length := hlt
          have HZ := Lib.hid (show checkL l = 0 by
            unfold checkL
            rw [if_neg HO.out, if_pos]
            refine (adjC_iff l).2 fun i x y hx hy => ?_
            have := (List.getElem?_eq_some_iff.1 hy).1
            exact hok i x y (by omega) hx hy)
          clear hok
          go_wp2_with fail
          go_ret
          exact ⟨by rw [HZ.out]; rfl, hb⟩
end Go.Proofs.Ytbcaiegglbdonaa
