/-
  The reference's Put.
-/
import Derived.Test.YtbcaiegglbdonaaPlanTac
import Derived.Test.YtbcaiegglbdonaaMemCol
import Derived.Test.YtbcaiegglbdonaaAppNil
import Derived.Deep.CutBlock
import Derived.Laws.OwnMore
import Derived.Deep.Onto
namespace Go.Proofs.Ytbcaiegglbdonaa
open Go.RowKit

def PutAt (w : World) (M : MM) (c : Cell) (i : Value) (wr : World) : Prop :=
  ∃ k : Nat, k ≤ (aheadM M c.key c.seq).length ∧ i = .int .i64 k ∧ Below w.heap.size w wr
theorem ahead_at {M : MM} {key : ByteArray} {seq : Int} {k : Nat} {x : Cell × Nat} (hx : M[k]? = some x) (hk : k ≤ (aheadM M key seq).length) : (k < (aheadM M key seq).length ↔ PLt x.1.key x.1.seq key seq) := by
  have hsplit := ahead_behind M key seq
  constructor
  · intro hlt
    have h1 := hx
    rw [← hsplit, List.getElem?_append_left hlt] at h1
    exact mem_ahead (List.mem_of_getElem? h1)
  · intro hp
    by_cases h : k < (aheadM M key seq).length
    · exact h
    · exfalso
      have hk0 : k = (aheadM M key seq).length := by omega
      have h1 := hx
      rw [← hsplit, List.getElem?_append_right (by omega), hk0, Nat.sub_self] at h1
      cases hbm : behindM M key seq with
      | nil => rw [hbm] at h1; cases h1
      | cons y B =>
        rw [hbm] at h1
        simp at h1
        subst h1
        have : ahd key seq y = false := by
          have := List.head?_dropWhile_not (ahd key seq) M
          unfold behindM at hbm
          rw [hbm] at this
          simpa using this
        simp [ahd] at this
        exact this hp

theorem behind_at {M : MM} {key : ByteArray} {seq : Int} {k : Nat} {x : Cell × Nat} (hx : M[k]? = some x) (hk : k = (aheadM M key seq).length) : ∃ B, behindM M key seq = x :: B := by
  have h1 := hx
  rw [← ahead_behind M key seq, List.getElem?_append_right (by omega), hk, Nat.sub_self] at h1
  cases hb : behindM M key seq with
  | nil => rw [hb] at h1; cases h1
  | cons y B =>
    rw [hb] at h1
    simp at h1
    exact ⟨B, by rw [h1]⟩

theorem own_cap {w : World} {base e size n m cap : Nat} {A : Option Addr} {xs : List Value} (h : w.ownsRow base e size (.slice A m cap) n xs) : n ≤ cap := by
  rcases h.2 with ⟨h1, h2⟩ | ⟨g, cap', cur, h1, _, _, hc, _⟩
  · omega
  · cases h1; exact hc

theorem src_sl {w : World} {base e size n cap : Nat} {A : Option Addr} {xs : List Value} (h : w.ownsRow base e size (.slice A n cap) n xs) {K T : Nat} (hK : K ≤ T) (hT : T ≤ n) :
    (sliced A K T cap size = .slice none 0 0 ∧ T - K = 0) ∨ ∃ ad c, sliced A K T cap size = .slice (some ad) (T - K) c ∧ ∀ (j : Nat) (u : Value), ((xs.take (T * size)).drop (K * size))[j]? = some u → w.cell? (ad.add j) = some u := by
  rcases h.2 with ⟨h1, h2⟩ | ⟨g, cap', cur, h1, _, _, hc, _⟩
  · cases h1
    refine .inl ⟨?_, by omega⟩
    have : T = 0 := by omega
    subst this
    have : K = 0 := by omega
    subst this
    simp [sliced]
  · cases h1
    by_cases hcK : cap = K
    · refine .inr ⟨⟨g, 0, none⟩, cap - K, ?_, fun j u hj => ?_⟩
      · simp [sliced, hcK]
      · have hlt := (List.getElem?_eq_some_iff.1 hj).1
        rw [List.length_drop, List.length_take] at hlt
        have : T * size ≤ K * size := Nat.mul_le_mul_right _ (by omega)
        omega
    · refine .inr ⟨(⟨g, 0, none⟩ : Addr).add (K * size), cap - K, ?_, fun j u hj => ?_⟩
      · simp [sliced, hcK]
      · rw [List.getElem?_drop, List.getElem?_take] at hj
        split at hj
        · have := h.cells rfl _ u hj
          rw [add_at rfl] at this
          rw [show (⟨g, 0, none⟩ : Addr).add (K * size) = ⟨g, 0 + K * size, none⟩ from add_at rfl _, add_at rfl]
          simpa [Nat.add_assoc] using this
        · cases hj
/-- What a slice expression gives, not opened by the walk. -/
def cutOf (a : Option Addr) (l h m s : Nat) : Value := sliced a l h m s
theorem cut_to {t : TypeId} (a : Option Addr) (len cap K n : Nat) (ht : Try.prog.underlying t = some (.slice (Try.prog.elem t))) (hs : ∀ w, (sizeOf (Try.prog.elem t)).run Try.prog w = .ok n w) (h : K ≤ cap) (w : World) :
    (Instr.sliceAt t (.slice a len cap) none (some (.int .i64 K)) none).run Try.prog w = .ok (cutOf a 0 K cap n) w := by
  rw [run_sliceAt_slice (P := Try.prog) w t _ _ _ _ ht, run_slice_h w t a len cap ht .i64 K (by omega) (by omega), hs]
  rfl
theorem cut_from {t : TypeId} (a : Option Addr) (len cap K n : Nat) (ht : Try.prog.underlying t = some (.slice (Try.prog.elem t))) (hs : ∀ w, (sizeOf (Try.prog.elem t)).run Try.prog w = .ok n w) (h : K ≤ len) (w : World) :
    (Instr.sliceAt t (.slice a len cap) (some (.int .i64 K)) none none).run Try.prog w = .ok (cutOf a K len cap n) w := by
  rw [run_sliceAt_slice (P := Try.prog) w t _ _ _ _ ht, run_slice_l w t a len cap ht .i64 K (by omega) (by omega), hs]
  rfl
theorem src_to {w : World} {base e size n cap : Nat} {A : Option Addr} {xs : List Value} (h : w.ownsRow base e size (.slice A n cap) n xs) {T : Nat} (hT : T ≤ n) :
    (cutOf A 0 T cap size = .slice none 0 0 ∧ T = 0) ∨ ∃ ad c, cutOf A 0 T cap size = .slice (some ad) T c ∧ ∀ (j : Nat) (u : Value), (xs.take (T * size))[j]? = some u → w.cell? (ad.add j) = some u := by
  have := src_sl h (Nat.zero_le T) hT
  simpa [cutOf] using this
theorem src_from {w : World} {base e size n cap : Nat} {A : Option Addr} {xs : List Value} (h : w.ownsRow base e size (.slice A n cap) n xs) {K : Nat} (hK : K ≤ n) :
    (cutOf A K n cap size = .slice none 0 0 ∧ n - K = 0) ∨ ∃ ad c, cutOf A K n cap size = .slice (some ad) (n - K) c ∧ ∀ (j : Nat) (u : Value), (xs.drop (K * size))[j]? = some u → w.cell? (ad.add j) = some u := by
  have := src_sl h hK (Nat.le_refl n)
  unfold cutOf
  rwa [List.take_of_length_le (by rw [h.1]; exact Nat.le_refl _)] at this
theorem own_set {w : World} {base e size n : Nat} {v : Value} {xs : List Value} (h : w.ownsRow base e size v n xs) {r : Nat} {arr : Array Value} {t : TypeId} (hr : Blk w r arr t) (hne : t ≠ e) (i : Nat) (u : Value) :
    (w.setCell ⟨r, i, none⟩ u).ownsRow base e size v n xs := by
  refine ⟨h.1, ?_⟩
  rcases h.2 with h2 | ⟨g, cap', cur, h1, hb, hg, hr2⟩
  · exact .inl h2
  · refine .inr ⟨g, cap', cur, h1, hb, ?_, hr2⟩
    have hn : g ≠ r := by
      rintro rfl
      have := hg.symm.trans hr
      injection this with this
      injection this with _ h3 _
      exact hne h3.symm
    exact Blk.setCell_ne (show Blk w g cur e from hg) hn i u
theorem take_vals (l : List Cell) {K : Nat} (h : K ≤ l.length) : ((cellVals l).take (K * 4)).length = K * 4 := by
  rw [List.length_take, cellVals_length]; omega
theorem ints_one (l : List Int) : ∀ u ∈ ints l, u.oneCell' = true := by
  intro u hu
  unfold ints at hu
  obtain ⟨c, _, rfl⟩ := List.mem_map.1 hu
  rfl
theorem cellVals_one (l : List Cell) : ∀ u ∈ cellVals l, u.oneCell' = true := by
  intro u hu
  unfold cellVals at hu
  obtain ⟨c, _, h⟩ := List.mem_flatMap.1 hu
  simp at h
  rcases h with rfl | rfl | rfl | rfl <;> rfl

theorem put_cells {A B M : MM} (h : A ++ B = M) {K : Nat} (hK : A.length = K) (c : Cell) (k : Nat) :
    cellVals ((A ++ (c, k) :: B).map (·.1)) = (cellVals (M.map (·.1))).take (K * 4) ++ ([.string c.key, .int .u64 c.seq, .string c.val, .bool c.gone] ++ (cellVals (M.map (·.1))).drop (K * 4)) := by
  subst h hK
  have hl : A.length * 4 = (cellVals (A.map (·.1))).length := by rw [cellVals_length, List.length_map]
  rw [List.map_append (l₂ := B), cellVals_append, hl, List.take_left, List.drop_left, List.map_append, cellVals_append, List.map_cons]
  simp [cellVals]
theorem put_hts {A B M : MM} (h : A ++ B = M) {K : Nat} (hK : A.length = K) (c : Cell) {x : Int} (hx : 0 ≤ x) :
    ints (hts (A ++ (c, x.toNat) :: B)) = (ints (hts M)).take K ++ ([.int .i64 x] ++ (ints (hts M)).drop K) := by
  subst h hK
  have hl : A.length = (ints (hts A)).length := by simp [ints, hts]
  have e : ints (hts (A ++ B)) = ints (hts A) ++ ints (hts B) := by simp [ints, hts]
  rw [e, hl, List.take_left, List.drop_left]
  simp [ints, hts, Int.toNat_of_nonneg hx]
set_option maxRecDepth 100000 in
set_option maxHeartbeats 2000000 in
theorem ref_put {w : World} {base r : Nat} {M : MM} (hr : RefIs w base r M) (hB : base ≤ w.heap.size) (hl : M.length ≤ 2700000000000) (c : Cell) (h : Int) :
    Calls Try.prog 79 #[.pointer (some ⟨r, 0, none⟩), .agg #[.string c.key, .int .u64 c.seq, .string c.val, .bool c.gone], .int .i64 h] w fun e w' =>
      e = .returned (.int .i64 (putRes M c h).1) ∧ RefIs w' base r (putRes M c h).2 ∧ Only (fun k => k = r) w w' := by
  rcases check_or c with hc | hc
  case inr =>
    have hp : putRes M c h = (60, M) := by unfold putRes; rw [if_pos hc]
    rw [hp]
    have hch := ref_check c (w.alloc (.cells #[.string c.key, .int .u64 c.seq, .string c.val, .bool c.gone] 25))
    rw [hc] at hch
    have HC := Lib.hid hch
    clear hch hc hp
    go_enter Try.func79, Try.ntmps79
    go_wp2_with fail
    refine HC.out.mono ?_
    rintro e w1 ⟨rfl, hb1⟩
    have hb2 : Below w.heap.size w w1 := ((Below.refl _ _).alloc (Nat.le_refl _) _).trans (hb1.mono (by simp))
    go_wp2_with fail
    go_ret
    obtain ⟨vc, vh, g1, g2, g3⟩ := hr.ex
    exact ⟨rfl, ⟨vc, vh, g1.kept hb2, own_kept g2 hb2, own_kept g3 hb2⟩, Only.of_below hb2⟩
  have hch := ref_check c (w.alloc (.cells #[.string c.key, .int .u64 c.seq, .string c.val, .bool c.gone] 25))
  rw [hc] at hch
  have HC := Lib.hid hch
  clear hch
  have hc60 : ¬ checkN c = 60 := by rw [hc]; decide
  have HC0 := Lib.hid hc60
  clear hc hc60
  by_cases h1 : h < 1
  · have hp : putRes M c h = (1, M) := by unfold putRes; rw [if_neg HC0.out, if_pos (.inl h1)]
    rw [hp]
    clear hp
    go_enter Try.func79, Try.ntmps79
    go_wp2_with fail
    refine HC.out.mono ?_
    rintro e w1 ⟨rfl, hb1⟩
    have hb2 : Below w.heap.size w w1 := ((Below.refl _ _).alloc (Nat.le_refl _) _).trans (hb1.mono (by simp))
    go_wp2_with fail
    go_ret
    obtain ⟨vc, vh, g1, g2, g3⟩ := hr.ex
    exact ⟨rfl, ⟨vc, vh, g1.kept hb2, own_kept g2 hb2, own_kept g3 hb2⟩, Only.of_below hb2⟩
  by_cases h12 : 12 < h
  · have hp : putRes M c h = (1, M) := by unfold putRes; rw [if_neg HC0.out, if_pos (.inr h12)]
    rw [hp]
    clear hp
    go_enter Try.func79, Try.ntmps79
    go_wp2_with fail
    refine HC.out.mono ?_
    rintro e w1 ⟨rfl, hb1⟩
    have hb2 : Below w.heap.size w w1 := ((Below.refl _ _).alloc (Nat.le_refl _) _).trans (hb1.mono (by simp))
    go_wp2_with fail
    go_ret
    obtain ⟨vc, vh, g1, g2, g3⟩ := hr.ex
    exact ⟨rfl, ⟨vc, vh, g1.kept hb2, own_kept g2 hb2, own_kept g3 hb2⟩, Only.of_below hb2⟩
  obtain ⟨vc, vh, g1, g2, g3⟩ := hr.ex
  obtain ⟨Ac, kc, rfl⟩ := (Reads.of_own g2).form
  obtain ⟨Ah, kh, rfl⟩ := (Reads.of_own g3).form
  have hj1 : 1 ≤ h := by omega
  have hj2 : h ≤ 12 := by omega
  clear h1 h12 hr
  have G2 := Lib.hid g2
  have G3 := Lib.hid g3
  clear g2 g3
  obtain ⟨R, hR⟩ : ∃ R, putRes M c h = R := ⟨_, rfl⟩
  rw [hR]
  have HR := Lib.hid hR
  clear hR
  go_enter Try.func79, Try.ntmps79
  go_wp2_with fail
  refine HC.out.mono ?_
  rintro e w1 ⟨rfl, hb1⟩
  have hb2 : Below w.heap.size w w1 := ((Below.refl _ _).alloc (Nat.le_refl _) _).trans (hb1.mono (by simp))
  have hbox := (Blk.new w #[.string c.key, .int .u64 c.seq, .string c.val, .bool c.gone] 25).kept hb1
  go_upto_block 0 with fail
  go_cut [8] from 22 (fun i W => i = .int .i64 (aheadM M c.key c.seq).length ∧ Below w1.heap.size w1 W)
  case first =>
    go_wp2_with fail
    go_loopw [8] (PutAt w1 M c) (fun i _ => M.length - (intOf i).toNat)
    case atStart => exact ⟨0, by omega, rfl, Below.refl _ _⟩
    case round =>
      obtain ⟨k, hk, rfl, hb⟩ := hrel
      obtain ⟨y0, y1, y2, y3⟩ := cell4 (hbox.kept hb)
      have yl := (hbox.kept hb).lt
      have r0 : wr.cell? ⟨r, 0, none⟩ = some (.slice Ac M.length kc) := ((g1.kept hb2).kept hb).cell 0 _ rfl
      have rl := ((g1.kept hb2).kept hb).lt
      have hkM : k ≤ M.length := by
        have := congrArg List.length (ahead_behind M c.key c.seq)
        rw [List.length_append] at this
        omega
      by_cases hlt : k < M.length
      · obtain ⟨x, hx⟩ : ∃ x, M[k]? = some x := ⟨_, List.getElem?_eq_getElem hlt⟩
        have hxc : (M.map (·.1))[k]? = some x.1 := by rw [List.getElem?_map, hx]; rfl
        have hiff := ahead_at hx hk
        have hRd : Reads w (.slice Ac (M.map (·.1)).length kc) (M.map (·.1)).length 4 (cellVals (M.map (·.1))) := by rw [List.length_map]; exact Reads.of_own G2.out
        obtain ⟨b, o, hA, hbl, c0, c1, c2, c3⟩ := ((hRd.kept hb2).kept hb).cell_at hxc
        subst hA
        have i0 : (0 : Int) ≤ (k : Int) := by omega
        have i1 : (k : Int) < (M.length : Int) := by omega
        have i2 : k < M.length := hlt
        have HI := Lib.hid hiff
        have HX := Lib.hid hx
        clear hRd hx hxc hiff
        by_cases hP : PLt x.1.key x.1.seq c.key c.seq
        · have hd : decide (PLt x.1.key x.1.seq c.key c.seq) = true := decide_eq_true hP
          have HP := Lib.hid hP
          have HD := Lib.hid hd
          clear hP hd
          go_wp2_with fail
          refine region_plan (S := fun w' => w'.cell? ⟨w.heap.size, 0, none⟩ = some (.string c.key) ∧ w'.cell? ⟨w.heap.size, 1, none⟩ = some (.int .u64 c.seq) ∧ w'.cell? ⟨w.heap.size, 2, none⟩ = some (.string c.val) ∧ w'.cell? ⟨w.heap.size, 3, none⟩ = some (.bool c.gone) ∧ w'.cell? ⟨r, 0, none⟩ = some (.slice (some ⟨b, o, none⟩) M.length kc) ∧
              w'.cell? ⟨b, o + k * 4, none⟩ = some (.string x.1.key) ∧ w'.cell? ⟨b, o + k * 4 + 1, none⟩ = some (.int .u64 x.1.seq) ∧ w'.cell? ⟨b, o + k * 4 + 2, none⟩ = some (.string x.1.val) ∧ w'.cell? ⟨b, o + k * 4 + 3, none⟩ = some (.bool x.1.gone))
            ((0, true) :: (1, true) :: (2, true) :: (3, true) :: (4, true) :: (5, true) :: (6, true) :: (7, true) :: (8, true) :: (9, true) :: (10, true) :: (11, true) :: (12, true) :: (13, true) :: (14, true) :: (15, true) :: (16, false) :: (17, true) :: [])
            (by kernel_rfl) (by kernel_rfl) (by kernel_rfl) (by kernel_rfl) (fun _ _ _ dst _ h => by cases dst <;> exact h) ⟨y0, y1, y2, y3, r0, c0, c1, c2, c3⟩ (fun hH => ?_)
          (repeat (first | (refine plan_take (v := ?_) (by (simp only [List.getElem?_toArray, List.getElem?_cons_succ, List.getElem?_cons_zero]; exact rfl)) (by rfl) ?_ ?_; rotate_left; (focus (intro wS hS; (try dsimp only at hS); go_split_ands; go_simp; (try with_reducible rfl))); simp only [Act.put, List.setIfInBounds_toArray, List.set_cons_zero, List.set_cons_succ]) | (refine plan_skip (by (simp only [List.getElem?_toArray, List.getElem?_cons_succ, List.getElem?_cons_zero]; exact rfl)) (by rfl) ?_; simp only [Act.put, List.setIfInBounds_toArray, List.set_cons_zero, List.set_cons_succ])))
          (refine plan_solo (by (simp only [List.getElem?_toArray, List.getElem?_cons_succ, List.getElem?_cons_zero]; exact rfl)) (by rfl) ?_; intro K hK; go_simp)
          refine (less_spec x.1 c _).mono ?_
          rintro e w5 ⟨rfl, hb5⟩
          rw [HD.out]
          refine hK.out _ _ ⟨cell_keep hb5 y0, cell_keep hb5 y1, cell_keep hb5 y2, cell_keep hb5 y3, cell_keep hb5 r0, cell_keep hb5 c0, cell_keep hb5 c1, cell_keep hb5 c2, cell_keep hb5 c3⟩ (fun hH => ?_)
          clear hK K
          try simp only [Act.put, List.setIfInBounds_toArray, List.set_cons_zero, List.set_cons_succ]
          (repeat (first | (refine plan_take (v := ?_) (by (simp only [List.getElem?_toArray, List.getElem?_cons_succ, List.getElem?_cons_zero]; exact rfl)) (by rfl) ?_ ?_; rotate_left; (focus (intro wS hS; (try dsimp only at hS); go_split_ands; go_simp; (try with_reducible rfl))); simp only [Act.put, List.setIfInBounds_toArray, List.set_cons_zero, List.set_cons_succ]) | (refine plan_skip (by (simp only [List.getElem?_toArray, List.getElem?_cons_succ, List.getElem?_cons_zero]; exact rfl)) (by rfl) ?_; simp only [Act.put, List.setIfInBounds_toArray, List.set_cons_zero, List.set_cons_succ])))
          refine plan_nil ?_
          go_wp2_with fail
          go_roundw
          case rel => exact ⟨k + 1, (HI.out.2 HP.out), by go_num, hb.trans ((Below.refl _ _).drew.trans (hb5.mono hb.size))⟩
          case measure => simp [intOf]; omega
        · have hd : decide (PLt x.1.key x.1.seq c.key c.seq) = false := decide_eq_false hP
          have HP := Lib.hid hP
          have HD := Lib.hid hd
          clear hP hd
          go_wp2_with fail
          refine region_plan (S := fun w' => w'.cell? ⟨w.heap.size, 0, none⟩ = some (.string c.key) ∧ w'.cell? ⟨w.heap.size, 1, none⟩ = some (.int .u64 c.seq) ∧ w'.cell? ⟨w.heap.size, 2, none⟩ = some (.string c.val) ∧ w'.cell? ⟨w.heap.size, 3, none⟩ = some (.bool c.gone) ∧ w'.cell? ⟨r, 0, none⟩ = some (.slice (some ⟨b, o, none⟩) M.length kc) ∧
              w'.cell? ⟨b, o + k * 4, none⟩ = some (.string x.1.key) ∧ w'.cell? ⟨b, o + k * 4 + 1, none⟩ = some (.int .u64 x.1.seq) ∧ w'.cell? ⟨b, o + k * 4 + 2, none⟩ = some (.string x.1.val) ∧ w'.cell? ⟨b, o + k * 4 + 3, none⟩ = some (.bool x.1.gone))
            ((0, true) :: (1, true) :: (2, true) :: (3, true) :: (4, true) :: (5, true) :: (6, true) :: (7, true) :: (8, true) :: (9, true) :: (10, true) :: (11, true) :: (12, true) :: (13, true) :: (14, true) :: (15, true) :: (16, false) :: (17, true) :: [])
            (by kernel_rfl) (by kernel_rfl) (by kernel_rfl) (by kernel_rfl) (fun _ _ _ dst _ h => by cases dst <;> exact h) ⟨y0, y1, y2, y3, r0, c0, c1, c2, c3⟩ (fun hH => ?_)
          (repeat (first | (refine plan_take (v := ?_) (by (simp only [List.getElem?_toArray, List.getElem?_cons_succ, List.getElem?_cons_zero]; exact rfl)) (by rfl) ?_ ?_; rotate_left; (focus (intro wS hS; (try dsimp only at hS); go_split_ands; go_simp; (try with_reducible rfl))); simp only [Act.put, List.setIfInBounds_toArray, List.set_cons_zero, List.set_cons_succ]) | (refine plan_skip (by (simp only [List.getElem?_toArray, List.getElem?_cons_succ, List.getElem?_cons_zero]; exact rfl)) (by rfl) ?_; simp only [Act.put, List.setIfInBounds_toArray, List.set_cons_zero, List.set_cons_succ])))
          (refine plan_solo (by (simp only [List.getElem?_toArray, List.getElem?_cons_succ, List.getElem?_cons_zero]; exact rfl)) (by rfl) ?_; intro K hK; go_simp)
          refine (less_spec x.1 c _).mono ?_
          rintro e w5 ⟨rfl, hb5⟩
          rw [HD.out]
          refine hK.out _ _ ⟨cell_keep hb5 y0, cell_keep hb5 y1, cell_keep hb5 y2, cell_keep hb5 y3, cell_keep hb5 r0, cell_keep hb5 c0, cell_keep hb5 c1, cell_keep hb5 c2, cell_keep hb5 c3⟩ (fun hH => ?_)
          clear hK K
          try simp only [Act.put, List.setIfInBounds_toArray, List.set_cons_zero, List.set_cons_succ]
          (repeat (first | (refine plan_take (v := ?_) (by (simp only [List.getElem?_toArray, List.getElem?_cons_succ, List.getElem?_cons_zero]; exact rfl)) (by rfl) ?_ ?_; rotate_left; (focus (intro wS hS; (try dsimp only at hS); go_split_ands; go_simp; (try with_reducible rfl))); simp only [Act.put, List.setIfInBounds_toArray, List.set_cons_zero, List.set_cons_succ]) | (refine plan_skip (by (simp only [List.getElem?_toArray, List.getElem?_cons_succ, List.getElem?_cons_zero]; exact rfl)) (by rfl) ?_; simp only [Act.put, List.setIfInBounds_toArray, List.set_cons_zero, List.set_cons_succ])))
          refine plan_nil ?_
          have hkk : k = (aheadM M c.key c.seq).length := by
            by_cases h1 : k < (aheadM M c.key c.seq).length
            · exact absurd (HI.out.1 h1) HP.out
            · omega
          go_wp2_with fail
          go_meet
          case rel => exact ⟨by rw [hkk], hb.trans ((Below.refl _ _).drew.trans (hb5.mono hb.size))⟩
      · have hkk : k = (aheadM M c.key c.seq).length := by
          have := congrArg List.length (ahead_behind M c.key c.seq)
          rw [List.length_append] at this
          omega
        obtain rfl : k = M.length := by omega
        have HKK := Lib.hid hkk
        clear hkk
        go_wp2_with fail
        go_quiet (fail)
        go_wp2_with fail
        go_meet
        case rel => exact ⟨by rw [← HKK.out], (below_drewN hb _)⟩
  case rest =>
    obtain ⟨rfl, hb⟩ := hcut
    obtain ⟨y0, y1, y2, y3⟩ := cell4 (hbox.kept hb)
    have yl := (hbox.kept hb).lt
    have r0 : wc.cell? ⟨r, 0, none⟩ = some (.slice Ac M.length kc) := ((g1.kept hb2).kept hb).cell 0 _ rfl
    have rl := ((g1.kept hb2).kept hb).lt
    have hsplit := congrArg List.length (ahead_behind M c.key c.seq)
    rw [List.length_append] at hsplit
    obtain ⟨K, hKe⟩ : ∃ K, (aheadM M c.key c.seq).length = K := ⟨_, rfl⟩
    rw [hKe] at hsplit ⊢
    have hkM : K ≤ M.length := by omega
    have HS := Lib.hid hsplit
    have HKE := Lib.hid hKe
    clear hsplit hKe
    go_upto_region 9 with fail
    go_cut [74] from 42 (fun s W => s = .bool (hitM (behindM M c.key c.seq) c) ∧ Below w1.heap.size w1 W)
    case first =>
      by_cases hlt : K < M.length
      · obtain ⟨x, hx⟩ : ∃ x, M[K]? = some x := ⟨_, List.getElem?_eq_getElem hlt⟩
        have hxc : (M.map (·.1))[K]? = some x.1 := by rw [List.getElem?_map, hx]; rfl
        obtain ⟨B, hB2⟩ := behind_at hx HKE.out.symm
        have HB2 := Lib.hid hB2
        have hRd : Reads w (.slice Ac (M.map (·.1)).length kc) (M.map (·.1)).length 4 (cellVals (M.map (·.1))) := by rw [List.length_map]; exact Reads.of_own G2.out
        obtain ⟨b, o, hA, hbl, c0, c1, c2, c3⟩ := ((hRd.kept hb2).kept hb).cell_at hxc
        subst hA
        have i0 : (0 : Int) ≤ (K : Int) := by omega
        have i1 : (K : Int) < (M.length : Int) := by omega
        clear hRd hx hxc hB2
        by_cases hkey : x.1.key = c.key
        · have hkq : (x.1.key.toList == c.key.toList) = true := str_beq.2 hkey
          by_cases hseq : x.1.seq = c.seq
          · have hsq : (x.1.seq == c.seq) = true := by simpa using hseq
            have HT := Lib.hid (show hitM (behindM M c.key c.seq) c = true by rw [HB2.out]; simp [hitM, hkey, hseq])
            clear hkey hseq
            go_wp2_with fail
            go_quiet (fail)
            go_wp2_with fail
            go_meet
            case rel => exact ⟨by rw [HT.out], below_drewN hb _⟩
          · have hsq : (x.1.seq == c.seq) = false := by simpa using hseq
            have HT := Lib.hid (show hitM (behindM M c.key c.seq) c = false by rw [HB2.out]; simp [hitM, hseq])
            clear hkey hseq
            go_wp2_with fail
            go_quiet (fail)
            go_wp2_with fail
            go_meet
            case rel => exact ⟨by rw [HT.out], below_drewN hb _⟩
        · have hkq : (x.1.key.toList == c.key.toList) = false := Bool.eq_false_iff.2 fun h => hkey (str_beq.1 h)
          have HT := Lib.hid (show hitM (behindM M c.key c.seq) c = false by rw [HB2.out]; simp [hitM, hkey])
          clear hkey
          go_wp2_with fail
          go_quiet (fail)
          go_wp2_with fail
          go_meet
          case rel => exact ⟨by rw [HT.out], below_drewN hb _⟩
      · obtain rfl : K = M.length := by omega
        have HT := Lib.hid (show hitM (behindM M c.key c.seq) c = false by
          have := HS.out
          have : behindM M c.key c.seq = [] := List.eq_nil_of_length_eq_zero (by omega)
          rw [this]; rfl)
        go_wp2_with fail
        go_quiet (fail)
        go_wp2_with fail
        go_meet
        case rel => exact ⟨by rw [HT.out], below_drewN hb _⟩
    case rest =>
      obtain ⟨rfl, hbb⟩ := hcut
      clear hb y0 y1 y2 y3 yl r0 rl
      obtain ⟨y0, y1, y2, y3⟩ := cell4 (hbox.kept hbb)
      have yl := (hbox.kept hbb).lt
      have r0 : wc.cell? ⟨r, 0, none⟩ = some (.slice Ac M.length kc) := ((g1.kept hb2).kept hbb).cell 0 _ rfl
      have r1 : wc.cell? ⟨r, 1, none⟩ = some (.slice Ah M.length kh) := ((g1.kept hb2).kept hbb).cell 1 _ rfl
      have rl := ((g1.kept hb2).kept hbb).lt
      have hbw : Below w.heap.size w wc := hb2.trans (hbb.mono hb2.size)
      have o1 := own_kept G2.out hbw
      have o2 := own_kept G3.out hbw
      have hB2 : base ≤ wc.heap.size := Nat.le_trans hB hbw.size
      have HR' := HR.out
      cases hhit : hitM (behindM M c.key c.seq) c with
      | true =>
        have hR2 : R = (61, M) := by
          rw [← HR.out]
          unfold putRes
          rw [if_neg HC0.out, if_neg (by omega), if_pos hhit]
        have HR2 := Lib.hid hR2
        clear hhit hR2 HR'
        go_wp2_with fail
        go_ret
        rw [HR2.out]
        exact ⟨rfl, ⟨_, _, g1.kept hbw, own_kept G2.out hbw, own_kept G3.out hbw⟩, Only.of_below hbw⟩
      | false =>
        have hR2 : R = (0, aheadM M c.key c.seq ++ (c, h.toNat) :: behindM M c.key c.seq) := by
          rw [← HR.out]
          unfold putRes
          rw [if_neg HC0.out, if_neg (by omega), if_neg (by rw [hhit]; decide)]
        have HR2 := Lib.hid hR2
        clear hhit hR2 HR'
        obtain ⟨hkc, hkh⟩ : M.length ≤ kc ∧ M.length ≤ kh := ⟨own_cap o1, own_cap o2⟩
        have q1 : K ≤ kc := by omega
        have q2 : K ≤ kh := by omega
        have q0 : (0 : Int) ≤ (K : Int) := by omega
        have hc1 := cut_to (t := 22) Ac M.length kc K 4 (by kernel_rfl) (fun w => by go_simp) q1
        have hc2 := cut_from (t := 22) Ac M.length kc K 4 (by kernel_rfl) (fun w => by go_simp) hkM
        have hc3 := cut_to (t := 42) Ah M.length kh K 1 (by kernel_rfl) (fun w => by go_simp) q2
        have hc4 := cut_from (t := 42) Ah M.length kh K 1 (by kernel_rfl) (fun w => by go_simp) hkM
        obtain ⟨i0, hi, hz0, hz1, hz2⟩ := info_parts Try.infoCell
        have oA := World.ownsRow_made (base := wc.heap.size) (e := 25) (size := 4) wc #[] 0 (Nat.le_refl _) (by decide) rfl
        have p1 : 0 + K ≤ maxLen := by unfold maxLen; omega
        have p2 : (0 + K) * 48 ≤ 140737488355328 := by omega
        have p3 : wc.heap.size ≤ (wc.alloc (.cells #[] 25)).heap.size := by rw [World.size_alloc]; omega
        go_upto_region 11 with fail
        go_wp2_with (at_builtin; refine wpList_append_any rfl _ _ 22 rfl wc.heap.size 25 i0 cellZ 4 48 Try.underlying22 hi hz0 hz1 hz2 rfl (by decide) wc.heap.size 0 0 [] rfl oA K ((cellVals (M.map (·.1))).take (K * 4)) ?hl ?hx ?h1 p1 p2 p3 ?_)
        case hl => exact take_vals _ (by rw [List.length_map]; exact hkM)
        case h1 => exact fun u hu => cellVals_one _ u (List.mem_of_mem_take hu)
        case hx =>
          first | exact src_to (o1.alloc (.cells #[] 25)) hkM | (go_simp; simpa using src_to (o1.alloc (.cells #[] 25)) hkM)
        intro g' cap' w2 own2 hgr hg2
        have own2 : w2.ownsRow wc.heap.size 25 4 (.slice (some ⟨g', 0, none⟩) K cap') K ((cellVals (M.map (·.1))).take (K * 4)) := by simpa using own2
        have b2 : Below wc.heap.size wc w2 := ((Below.refl _ _).alloc (Nat.le_refl _) _).grown hgr (by rw [World.size_alloc]; omega) (fun j hj => by cases hj; exact Nat.le_refl _)
        clear hgr p1 p2 p3 oA
        have z0 := cell_keep b2 y0
        have z1 := cell_keep b2 y1
        have z2 := cell_keep b2 y2
        have z3 := cell_keep b2 y3
        have s1 := b2.size
        have p1 : K + 1 ≤ maxLen := by unfold maxLen; omega
        have p2 : (K + 1) * 48 ≤ 140737488355328 := by omega
        have p3 : wc.heap.size ≤ (w2.alloc (.cells #[.string c.key, .int .u64 c.seq, .string c.val, .bool c.gone] 25)).heap.size := by rw [World.size_alloc]; omega
        have nw := news4 w2 c
        go_upto_region 13 with (at_builtin; refine wpList_append_any rfl _ _ 22 rfl wc.heap.size 25 i0 cellZ 4 48 Try.underlying22 hi hz0 hz1 hz2 rfl (by decide) g' K cap' _ rfl (own2.alloc _) 1 [.string c.key, .int .u64 c.seq, .string c.val, .bool c.gone] rfl (.inr ⟨⟨w2.heap.size, 0, none⟩, 1, rfl, nw⟩) (by simp [Value.oneCell']) p1 p2 p3 ?_)
        intro g3 cap3 w3 own3 hgr hg3
        have b3 : Below wc.heap.size wc w3 := ((b2.trans ((Below.refl _ _).alloc s1 _))).grown hgr (by rw [World.size_alloc]; omega) (fun j hj => by cases hj; exact (own2.lt _ rfl).1)
        have t3 := (own3.lt _ rfl).2
        have s3 := b3.size
        clear hgr p1 p2 p3 own2 nw z0 z1 z2 z3 hg2 hg3
        have r3 := cell_keep b3 r1
        have rl3 := Nat.lt_of_lt_of_le rl s3
        obtain ⟨i1, hi', hy0, hy1, hy2⟩ := info_parts Try.infoInt
        have oA := World.ownsRow_made (base := w3.heap.size) (e := 3) (size := 1) w3 #[] 0 (Nat.le_refl _) (by decide) rfl
        have p1 : 0 + K ≤ maxLen := by unfold maxLen; omega
        have p2 : (0 + K) * 8 ≤ 140737488355328 := by omega
        have p3 : w3.heap.size ≤ (w3.alloc (.cells #[] 3)).heap.size := by rw [World.size_alloc]; omega
        go_upto_region 14 with (at_builtin; refine wpList_append_any rfl _ _ 42 rfl w3.heap.size 3 i1 (.int .i64 0) 1 8 Try.underlying42 hi' hy0 hy1 hy2 rfl (by decide) w3.heap.size 0 0 [] rfl oA K ((ints (hts M)).take (K * 1)) ?hl ?hx ?h1 p1 p2 p3 ?_)
        case hl => simp [ints, hts]; omega
        case h1 => exact fun u hu => ints_one _ u (List.mem_of_mem_take hu)
        case hx =>
          first | exact src_to ((own_kept o2 (b3.mono (Nat.le_refl _))).alloc (.cells #[] 3)) hkM | (go_simp; simpa using src_to ((own_kept o2 (b3.mono (Nat.le_refl _))).alloc (.cells #[] 3)) hkM)
        intro g4 cap4 w4 own4 hgr hg4
        have own4 : w4.ownsRow w3.heap.size 3 1 (.slice (some ⟨g4, 0, none⟩) K cap4) K ((ints (hts M)).take (K * 1)) := by simpa using own4
        have b4 : Below w3.heap.size w3 w4 := ((Below.refl _ _).alloc (Nat.le_refl _) _).grown hgr (by rw [World.size_alloc]; omega) (fun j hj => by cases hj; exact Nat.le_refl _)
        clear hgr p1 p2 p3 oA hg4
        have s4 := b4.size
        have p1 : K + 1 ≤ maxLen := by unfold maxLen; omega
        have p2 : (K + 1) * 8 ≤ 140737488355328 := by omega
        have p3 : w3.heap.size ≤ (w4.alloc (.cells #[.int .i64 h] 3)).heap.size := by rw [World.size_alloc]; omega
        go_upto_region 15 with (at_builtin; refine wpList_append_any rfl _ _ 42 rfl w3.heap.size 3 i1 (.int .i64 0) 1 8 Try.underlying42 hi' hy0 hy1 hy2 rfl (by decide) g4 K cap4 _ rfl (own4.alloc _) 1 [.int .i64 h] rfl (.inr ⟨⟨w4.heap.size, 0, none⟩, 1, rfl, cell_one_new _ _ _⟩) (by simp [Value.oneCell']) p1 p2 p3 ?_)
        intro g5 cap5 w5 own5 hgr hg5
        have b5 : Below w3.heap.size w3 w5 := (b4.trans ((Below.refl _ _).alloc s4 _)).grown hgr (by rw [World.size_alloc]; omega) (fun j hj => by cases hj; exact (own4.lt _ rfl).1)
        have t5 : w3.heap.size ≤ g5 ∧ g5 < w5.heap.size := own5.lt _ rfl
        have s5 := b5.size
        clear hgr p1 p2 p3 own4 r3 rl3 hg5
        have b5c : Below wc.heap.size wc w5 := b3.trans (b5.mono s3)
        have r5 := cell_keep b5c r0
        have rl5 := Nat.lt_of_lt_of_le rl b5c.size
        have own3' := own_kept own3 b5
        have p1 : (K + 1) + (M.length - K) ≤ maxLen := by unfold maxLen; omega
        have p2 : ((K + 1) + (M.length - K)) * 48 ≤ 140737488355328 := by omega
        have p3 : wc.heap.size ≤ w5.heap.size := b5c.size
        have q3 : (K : Int) ≤ (M.length : Int) := by omega
        go_upto_region 16 with (at_builtin; refine wpList_append_any rfl _ _ 22 rfl wc.heap.size 25 i0 cellZ 4 48 Try.underlying22 hi hz0 hz1 hz2 rfl (by decide) g3 (K + 1) cap3 _ rfl own3' (M.length - K) ((cellVals (M.map (·.1))).drop (K * 4)) ?hl ?hx ?h1 p1 p2 p3 ?_)
        case hl => simp [cellVals_length]; omega
        case h1 => exact fun u hu => cellVals_one _ u (List.mem_of_mem_drop hu)
        case hx =>
          first | exact src_from (own_kept o1 b5c) hkM | (go_simp; simpa using src_from (own_kept o1 b5c) hkM)
        intro g6 cap6 w6 own6 hgr hg6
        have hgr6 := hgr
        have b6 : Below wc.heap.size wc w6 := b5c.grown hgr p3 (fun j hj => by cases hj; exact (own3'.lt _ rfl).1)
        have own5' := own5.kept hgr (.inr (fun e => by have e2 : g5 = g3 := Option.some.inj e; omega))
        have hr6 := (g1.kept hbw).below b6 rl
        have hne : g5 ≠ g6 := by have : wc.heap.size ≤ g3 ∧ g3 < w5.heap.size := own3'.lt _ rfl; omega
        clear hgr p1 p2 p3 hg6 own3 own3' r5 rl5 q3
        have r6 := hr6.cell 0 _ rfl
        have l6 := hr6.lt
        have fz6 := hr6.frozen 0
        have own6' := ownsRow_setCell_below own6 (a := ⟨r, 0, none⟩) rl (.slice (some ⟨g6, 0, none⟩) (K + 1 + (M.length - K)) cap6)
        have own5'' := ownsRow_setCell_below own5' (a := ⟨r, 0, none⟩) (by show r < _; omega) (.slice (some ⟨g6, 0, none⟩) (K + 1 + (M.length - K)) cap6)
        have hr7 := hr6.setCell 0 (.slice (some ⟨g6, 0, none⟩) (K + 1 + (M.length - K)) cap6)
        have r7 := hr7.cell 1 _ rfl
        have l7 := hr7.lt
        have p1 : (K + 1) + (M.length - K) ≤ maxLen := by unfold maxLen; omega
        have p2 : ((K + 1) + (M.length - K)) * 8 ≤ 140737488355328 := by omega
        have p3 : w3.heap.size ≤ (w6.setCell ⟨r, 0, none⟩ (.slice (some ⟨g6, 0, none⟩) (K + 1 + (M.length - K)) cap6)).heap.size := by rw [World.size_setCell]; have := hgr6.size; omega
        go_upto_region 17 with (at_builtin; refine wpList_append_any rfl _ _ 42 rfl w3.heap.size 3 i1 (.int .i64 0) 1 8 Try.underlying42 hi' hy0 hy1 hy2 rfl (by decide) g5 (K + 1) cap5 _ rfl own5'' (M.length - K) ((ints (hts M)).drop (K * 1)) ?hl ?hx ?h1 p1 p2 p3 ?_)
        case hl => simp [ints, hts]
        case h1 => exact fun u hu => ints_one _ u (List.mem_of_mem_drop hu)
        case hx =>
          have ho := own_set (own_kept o2 b6) hr6 (by decide) 0 (.slice (some ⟨g6, 0, none⟩) (K + 1 + (M.length - K)) cap6)
          first | exact src_from ho hkM | (go_simp; simpa using src_from ho hkM)
        intro g8 cap8 w8 own8 hgr hg8
        have l7' := hr7.lt
        have hg68 : g6 < (w6.setCell ⟨r, 0, none⟩ (.slice (some ⟨g6, 0, none⟩) (K + 1 + (M.length - K)) cap6)).heap.size := by rw [World.size_setCell]; exact (own6.lt _ rfl).2
        have own6r := own6'.kept hgr (.inr (fun e => hne (Option.some.inj e).symm))
        have b8 : Below wc.heap.size (w6.setCell ⟨r, 0, none⟩ (.slice (some ⟨g6, 0, none⟩) (K + 1 + (M.length - K)) cap6)) w8 := (Below.refl _ _).grown hgr (by rw [World.size_setCell]; exact b6.size) (fun j hj => by cases hj; omega)
        have hr8 := hr7.below b8 rl
        have r8 := hr8.cell 1 _ rfl
        have l8 := hr8.lt
        have fz8 := hr8.frozen 1
        have own8f := ownsRow_setCell_below own8 (a := ⟨r, 1, none⟩) (by show r < _; omega) (.slice (some ⟨g8, 0, none⟩) (K + 1 + (M.length - K)) cap8)
        have own6f := ownsRow_setCell_below own6r (a := ⟨r, 1, none⟩) (by show r < _; omega) (.slice (some ⟨g8, 0, none⟩) (K + 1 + (M.length - K)) cap8)
        have hr9 := hr8.setCell 1 (.slice (some ⟨g8, 0, none⟩) (K + 1 + (M.length - K)) cap8)
        have hOnly : Only (fun k => k = r) w (w8.setCell ⟨r, 1, none⟩ (.slice (some ⟨g8, 0, none⟩) (K + 1 + (M.length - K)) cap8)) := by
          have e1 : Only (fun k => k = r) w w6 := Only.of_below (hbw.trans (b6.mono hbw.size))
          have e2 : Only (fun k => k = r) w (w6.setCell ⟨r, 0, none⟩ (.slice (some ⟨g6, 0, none⟩) (K + 1 + (M.length - K)) cap6)) := e1.setCell (.inl rfl) 0 _
          have e3 : Only (fun k => k = r) w w8 := ⟨b8.os.trans e2.os, b8.tape.trans e2.tape, b8.output.trans e2.output, Nat.le_trans e2.size b8.size,
            fun k hk hn => (b8.block k (Nat.lt_of_lt_of_le hk hbw.size)).trans (e2.block k hk hn)⟩
          exact e3.setCell (.inl rfl) 1 _
        have hN : K + 1 + (M.length - K) = R.2.length := by
          rw [HR2.out, List.length_append, List.length_cons, HKE.out]; have := HS.out; omega
        have hC : cellVals (R.2.map (·.1)) = (cellVals (M.map (·.1))).take (K * 4) ++ ([.string c.key, .int .u64 c.seq, .string c.val, .bool c.gone] ++ (cellVals (M.map (·.1))).drop (K * 4)) := by
          rw [HR2.out]; exact put_cells (ahead_behind M c.key c.seq) HKE.out c _
        have hH : ints (hts R.2) = (ints (hts M)).take K ++ ([.int .i64 h] ++ (ints (hts M)).drop K) := by
          rw [HR2.out]; exact put_hts (ahead_behind M c.key c.seq) HKE.out c (by omega)
        have HFin := Lib.hid (show R.1 = 0 ∧ RefIs (w8.setCell ⟨r, 1, none⟩ (.slice (some ⟨g8, 0, none⟩) (K + 1 + (M.length - K)) cap8)) base r R.2 from by
          refine ⟨by rw [HR2.out], ⟨(.slice (some ⟨g6, 0, none⟩) (K + 1 + (M.length - K)) cap6), (.slice (some ⟨g8, 0, none⟩) (K + 1 + (M.length - K)) cap8), hr9, ?_, ?_⟩⟩
          · rw [← hN, hC]; simpa using own6f.mono hB2
          · rw [← hN, hH]; simpa using own8f.mono (by omega))
        have HO := Lib.hid hOnly
        clear own6f own8f hr9 hOnly hC hH hN
        go_wp2_with fail
        go_ret
        exact ⟨by rw [HFin.out.1]; rfl, HFin.out.2, HO.out⟩
end Go.Proofs.Ytbcaiegglbdonaa
