/-
  The law MemHeights is proved: whatever the heights are, the same is told. Over every slice of cells, every slice of numbers and every cell.
-/
import Derived.Test.YtbcaiegglbdonaaMemTwo
import Derived.Test.YtbcaiegglbdonaaPlan
namespace Go.Proofs.Ytbcaiegglbdonaa
open Go.RowKit
set_option linter.unusedSimpArgs false

def HeiRel (w0 : World) (a b : Nat) (n : Nat) (i : Value) (wr : World) : Prop :=
  ∃ (k : Nat) (M N : MM), k ≤ n ∧ i = .int .i64 k ∧ M.map (·.1) = N.map (·.1) ∧ M.length ≤ k ∧ Own2 w0 a M b N (fun _ => False) wr
theorem Reads.int_at {w : World} {A : Option Addr} {cap : Nat} {l : List Int} (h : Reads w (.slice A l.length cap) l.length 1 (ints l)) {k : Nat} {x : Int} (hk : l[k]? = some x) :
    ∃ b o, A = some ⟨b, o, none⟩ ∧ b < w.heap.size ∧ w.cell? ⟨b, o + k, none⟩ = some (.int .i64 x) := by
  obtain ⟨_, _, A', cap', e, h3⟩ := h
  injection e with e1 e2 e3
  subst e1 e3
  have hlt := (List.getElem?_eq_some_iff.1 hk).1
  obtain ⟨b, o, rfl, hb, hc⟩ := h3.resolve_left (by omega)
  exact ⟨b, o, rfl, hb, hc k _ (by simp [ints, hk])⟩
def LevLoop (w : World) (n : Nat) (i : Value) (wr : World) : Prop := ∃ m : Nat, i = .int .i64 ((m : Int) + 1) ∧ (m < n ∨ m = 0) ∧ Below w.heap.size w wr
theorem down_at {l : List Int} (h : l.Pairwise (fun a b => b ≤ a)) {m : Nat} {x y : Int} (hx : l[m + 1]? = some x) (hy : l[m]? = some y) : x ≤ y := by
  obtain ⟨h1, e1⟩ := List.getElem?_eq_some_iff.1 hx
  obtain ⟨h2, e2⟩ := List.getElem?_eq_some_iff.1 hy
  have := List.pairwise_iff_getElem.1 h m (m + 1) h2 h1 (by omega)
  rw [e1, e2] at this
  exact this
theorem cell_keep {W w' : World} (hb : Below W.heap.size W w') {p : Addr} {v : Value} (h : W.cell? p = some v) : w'.cell? p = some v := (hb.cell (World.block_lt_of_cell? W _ h)).trans h
theorem cell8 {w : World} {b b' : Nat} {v0 v1 v2 v3 u0 u1 u2 u3 : Value} {t t' : TypeId} (h : Blk w b #[v0, v1, v2, v3] t) (h' : Blk w b' #[u0, u1, u2, u3] t') :
    w.cell? ⟨b, 0, none⟩ = some v0 ∧ w.cell? ⟨b, 1, none⟩ = some v1 ∧ w.cell? ⟨b, 2, none⟩ = some v2 ∧ w.cell? ⟨b, 3, none⟩ = some v3 ∧ w.cell? ⟨b', 0, none⟩ = some u0 ∧ w.cell? ⟨b', 1, none⟩ = some u1 ∧ w.cell? ⟨b', 2, none⟩ = some u2 ∧ w.cell? ⟨b', 3, none⟩ = some u3 :=
  ⟨h.cell 0 _ rfl, h.cell 1 _ rfl, h.cell 2 _ rfl, h.cell 3 _ rfl, h'.cell 0 _ rfl, h'.cell 1 _ rfl, h'.cell 2 _ rfl, h'.cell 3 _ rfl⟩
theorem cell9 {w : World} {b b' : Nat} {v0 v1 v2 v3 u0 u1 u2 u3 : Value} {t t' : TypeId} {p : Addr} {x : Value} (h : Blk w b #[v0, v1, v2, v3] t) (h' : Blk w b' #[u0, u1, u2, u3] t') (hp : w.cell? p = some x) :
    w.cell? ⟨b, 0, none⟩ = some v0 ∧ w.cell? ⟨b, 1, none⟩ = some v1 ∧ w.cell? ⟨b, 2, none⟩ = some v2 ∧ w.cell? ⟨b, 3, none⟩ = some v3 ∧ w.cell? ⟨b', 0, none⟩ = some u0 ∧ w.cell? ⟨b', 1, none⟩ = some u1 ∧ w.cell? ⟨b', 2, none⟩ = some u2 ∧ w.cell? ⟨b', 3, none⟩ = some u3 ∧ w.cell? p = some x :=
  ⟨h.cell 0 _ rfl, h.cell 1 _ rfl, h.cell 2 _ rfl, h.cell 3 _ rfl, h'.cell 0 _ rfl, h'.cell 1 _ rfl, h'.cell 2 _ rfl, h'.cell 3 _ rfl, hp⟩
theorem hei_res (M N : MM) (d : Cell) (h : M.map (·.1) = N.map (·.1)) {y : Int} (h1 : 1 ≤ y) (h12 : y ≤ 12) : ((putRes M d 1).1 != (putRes N d y).1) = false := by
  rw [(put_fst M d (h := 1) (by omega) (by omega)).1, (put_fst N d h1 h12).1, h]; simp
theorem hei_step (M N : MM) (d : Cell) (h : M.map (·.1) = N.map (·.1)) {y : Int} (h1 : 1 ≤ y) (h12 : y ≤ 12) : (putRes M d 1).2.map (·.1) = (putRes N d y).2.map (·.1) := by
  rw [(put_fst M d (h := 1) (by omega) (by omega)).2, (put_fst N d h1 h12).2, h]
set_option maxRecDepth 100000 in
set_option maxHeartbeats 2000000 in
theorem heights_walk {w : World} {v1 v2 : Value} {cs : List Cell} {hs : List Int} (h1 : Reads w v1 cs.length 4 (cellVals cs)) (h2 : Reads w v2 hs.length 1 (ints hs)) (c : Cell) (hl1 : cs.length ≤ 2932031007402) :
    Calls Try.prog 5 #[v1, v2, .agg #[.string c.key, .int .u64 c.seq, .string c.val, .bool c.gone]] w fun e w' => e = .returned (.bool true) ∧ Below w.heap.size w w' := by
  obtain ⟨A1, k1, rfl⟩ := h1.form
  obtain ⟨A2, k2, rfl⟩ := h2.form
  have hm2 := h2.2.1
  have H1 := Lib.hid h1
  have H2 := Lib.hid h2
  clear h1 h2
  go_enter Try.func5, Try.ntmps5
  go_wp2_with fail
  go_quiet (fail)
  go_wp2_with fail
  refine (new_spec _).mono ?_
  rintro e w1 hn
  obtain ⟨rfl, ho⟩ := Own.new (w0 := w) (below_drewN ((Below.refl _ _).alloc (Nat.le_refl _) _) nq) hn
  clear hn
  obtain ⟨a, ha⟩ : ∃ a, a = ((w.alloc (.cells #[.string c.key, .int .u64 c.seq, .string c.val, .bool c.gone] 25)).drewN nq).heap.size + 1 := ⟨_, rfl⟩
  rw [← ha] at ho ⊢
  have HA := Lib.hid ha
  clear ha
  go_wp2_with fail
  refine (new_spec _).mono ?_
  rintro e w2 hn
  obtain ⟨rfl, ho2⟩ := ho.second hn
  clear hn ho
  obtain ⟨b, hb⟩ : ∃ b, b = w1.heap.size + 1 := ⟨_, rfl⟩
  rw [← hb] at ho2 ⊢
  have HB := Lib.hid hb
  clear hb
  go_wp2_with fail
  refine (awake_spec _).mono ?_
  rintro e w3 ⟨rfl, hb3⟩
  have ho3 := ho2.only hb3
  clear ho2 hb3
  go_wp2_with fail
  go_loopw [38] (HeiRel w a b cs.length) (fun i _ => cs.length - (intOf i).toNat)
  case atStart => exact ⟨0, [], [], by omega, rfl, rfl, by simp, ho3⟩
  case round =>
    obtain ⟨k, M, N, hk, rfl, hMN, hMl, ho⟩ := hrel
    have HMN := Lib.hid hMN
    clear hMN
    by_cases hlt : k < cs.length
    · obtain ⟨d, hd⟩ : ∃ d, cs[k]? = some d := ⟨_, List.getElem?_eq_getElem hlt⟩
      obtain ⟨bq, o, rfl, hbl, c0, c1, c2, c3⟩ := (H1.out.kept ho.below).cell_at hd
      have i0 : (0 : Int) ≤ (k : Int) := by omega
      have i1 : (k : Int) < (cs.length : Int) := by omega
      clear hd
      by_cases hh : 0 < hs.length
      · have hh' : (0 : Int) < (hs.length : Int) := by omega
        obtain ⟨j, hj⟩ : ∃ j : Nat, j = k % hs.length := ⟨_, rfl⟩
        have hmod : (k : Int) % (hs.length : Int) = (j : Int) := by rw [hj]; simp
        have hjl : j < hs.length := by rw [hj]; exact Nat.mod_lt _ hh
        have hj1 : (j : Int) < (hs.length : Int) := by omega
        have hj0 : (0 : Int) ≤ (j : Int) := by omega
        clear hj
        obtain ⟨x, hx⟩ : ∃ x, hs[j]? = some x := ⟨_, List.getElem?_eq_getElem hjl⟩
        obtain ⟨bi, oi, rfl, hbi, ci⟩ := (H2.out.kept ho.below).int_at hx
        clear hx
        have hx12 : wrap64 (x.tmod 12 + 1) ≤ 12 := by
          have h1 := Int.tmod_lt_of_pos x (show (0 : Int) < 12 by omega)
          have h2 : -12 < x.tmod 12 := by
            have := Int.lt_tmod_of_pos x (show (0 : Int) < 12 by omega)
            omega
          unfold wrap64; omega
        have hMl' : M.length ≤ 1099511627776000 := by omega
        have hNl' : N.length ≤ 1099511627776000 := by
          have := congrArg List.length HMN.out
          simp only [List.length_map] at this
          omega
        have ho' := (ho.more (.cells #[.string d.key, .int .u64 d.seq, .string d.val, .bool d.gone] 25) rfl).drew
        have hblk : Blk (wr.alloc (.cells #[.string d.key, .int .u64 d.seq, .string d.val, .bool d.gone] 25)).drew wr.heap.size #[.string d.key, .int .u64 d.seq, .string d.val, .bool d.gone] 25 := (Blk.new _ _ _).drew
        go_wp2_with fail
        all_goals generalize wrap64 (x.tmod 12 + 1) = y at *
        all_goals go_region_held3 (fun w' => w'.cell? ⟨wr.heap.size, 0, none⟩ = some (.string d.key) ∧ w'.cell? ⟨wr.heap.size, 1, none⟩ = some (.int .u64 d.seq) ∧ w'.cell? ⟨wr.heap.size, 2, none⟩ = some (.string d.val) ∧ w'.cell? ⟨wr.heap.size, 3, none⟩ = some (.bool d.gone))
          (first | go_keep | exact cell4 (hk5 _ _ _ (.inr rfl) (hk4 _ _ _ (.inr rfl) hblk)) | exact cell4 (hk4 _ _ _ (.inr rfl) hblk))
          (first | ((with_reducible refine (ho'.put d 1 hMl').mono ?_); rintro e w4 ⟨rfl, ho4, hk4⟩) | ((with_reducible refine (ho4.swap.put d _ hNl').mono ?_); rintro e w5 ⟨rfl, ho5, hk5⟩))
        all_goals have hq1 := hei_res M N d HMN.out (show (1 : Int) ≤ 1 by omega) (show (1 : Int) ≤ 12 by omega)
        · go_wp2_with fail
          go_roundw
          case rel => exact ⟨k + 1, _, _, by omega, by go_num, hei_step M N d HMN.out (by omega) (by omega), Nat.le_trans (putRes_len _ _ _) (by omega), ho5.swap.less fun _ h => h.elim⟩
          case measure => simp [intOf]; omega
        · have hq2 := hei_res M N d HMN.out (show (1 : Int) ≤ y by assumption) hx12
          go_wp2_with fail
          go_roundw
          case rel => exact ⟨k + 1, _, _, by omega, by go_num, hei_step M N d HMN.out (by assumption) hx12, Nat.le_trans (putRes_len _ _ _) (by omega), ho5.swap.less fun _ h => h.elim⟩
          case measure => simp [intOf]; omega
      · have hh' : ¬ (0 : Int) < (hs.length : Int) := by omega
        have hMl' : M.length ≤ 1099511627776000 := by omega
        have hNl' : N.length ≤ 1099511627776000 := by
          have := congrArg List.length HMN.out
          simp only [List.length_map] at this
          omega
        have ho' := (ho.more (.cells #[.string d.key, .int .u64 d.seq, .string d.val, .bool d.gone] 25) rfl).drew
        have hblk : Blk (wr.alloc (.cells #[.string d.key, .int .u64 d.seq, .string d.val, .bool d.gone] 25)).drew wr.heap.size #[.string d.key, .int .u64 d.seq, .string d.val, .bool d.gone] 25 := (Blk.new _ _ _).drew
        go_wp2_with fail
        go_region_held3 (fun w' => w'.cell? ⟨wr.heap.size, 0, none⟩ = some (.string d.key) ∧ w'.cell? ⟨wr.heap.size, 1, none⟩ = some (.int .u64 d.seq) ∧ w'.cell? ⟨wr.heap.size, 2, none⟩ = some (.string d.val) ∧ w'.cell? ⟨wr.heap.size, 3, none⟩ = some (.bool d.gone))
          (first | go_keep | exact cell4 (hk5 _ _ _ (.inr rfl) (hk4 _ _ _ (.inr rfl) hblk)) | exact cell4 (hk4 _ _ _ (.inr rfl) hblk))
          (first | ((with_reducible refine (ho'.put d 1 hMl').mono ?_); rintro e w4 ⟨rfl, ho4, hk4⟩) | ((with_reducible refine (ho4.swap.put d _ hNl').mono ?_); rintro e w5 ⟨rfl, ho5, hk5⟩))
        have hq1 := hei_res M N d HMN.out (show (1 : Int) ≤ 1 by omega) (show (1 : Int) ≤ 12 by omega)
        go_wp2_with fail
        go_roundw
        case rel => exact ⟨k + 1, _, _, by omega, by go_num, hei_step M N d HMN.out (by omega) (by omega), Nat.le_trans (putRes_len _ _ _) (by omega), ho5.swap.less fun _ h => h.elim⟩
        case measure => simp [intOf]; omega
    · obtain rfl : k = cs.length := by omega
      go_wp2_with fail
      refine (ho.get c.key c.seq).mono ?_
      rintro e w4 ⟨rfl, ho4, _⟩
      obtain ⟨r, hr⟩ : ∃ r, getM M c.key c.seq = r := ⟨_, rfl⟩
      have hr2 : getM N c.key c.seq = r := by rw [get_fst, ← HMN.out, ← get_fst, hr]
      rw [hr]
      have HR := Lib.hid hr2
      clear hr hr2
      have ho4 := ho4.more (.cells #[.string r.1.key, .int .u64 r.1.seq, .string r.1.val, .bool r.1.gone] 25) rfl
      have hb4 : Blk (w4.alloc (.cells #[.string r.1.key, .int .u64 r.1.seq, .string r.1.val, .bool r.1.gone] 25)) w4.heap.size #[.string r.1.key, .int .u64 r.1.seq, .string r.1.val, .bool r.1.gone] 25 := Blk.new _ _ _
      go_wp2_with fail
      refine (ho4.swap.get c.key c.seq).mono ?_
      rintro e w5 ⟨rfl, ho5, hb5⟩
      rw [HR.out]
      have hb5' := (hb4.kept hb5).alloc (.cells #[.string r.1.key, .int .u64 r.1.seq, .string r.1.val, .bool r.1.gone] 25)
      have ho5 := ho5.more (.cells #[.string r.1.key, .int .u64 r.1.seq, .string r.1.val, .bool r.1.gone] 25) rfl
      have hb6 : Blk (w5.alloc (.cells #[.string r.1.key, .int .u64 r.1.seq, .string r.1.val, .bool r.1.gone] 25)) w5.heap.size #[.string r.1.key, .int .u64 r.1.seq, .string r.1.val, .bool r.1.gone] 25 := Blk.new _ _ _
      go_wp2_with fail
      refine ho5.levels.mono ?_
      rintro e w6 ⟨v, rfl, hown, hb7⟩
      have hR := Reads.of_own hown
      obtain ⟨A, cap, rfl⟩ := hR.form
      have ho7 := ho5.only hb7
      have hk5 := hb5'.kept hb7
      have hk6 := hb6.kept hb7
      have hdown := levM_down N
      have hpos := levM_pos N
      have hhead := levM_head (M := N) (fun x hx => by obtain ⟨K, hK⟩ := ho7.fst; exact (hK.pos x hx).1)
      have hll := hR.2.1
      have hNl : N.length = M.length := by
        have := congrArg List.length HMN.out
        simpa using this.symm
      generalize levM N = l at *
      have HDn := Lib.hid hdown
      have HPs := Lib.hid hpos
      have HHd := Lib.hid hhead
      have HRd := Lib.hid hR
      have HNl := Lib.hid hNl
      clear hdown hpos hhead hR hown hNl
      go_wp2_with fail
      go_loopw [19] (LevLoop w6 l.length) (fun i _ => l.length - (intOf i).toNat)
      case atStart => exact ⟨0, rfl, .inr rfl, Below.refl _ _⟩
      case round =>
        obtain ⟨m, rfl, hml, hbl⟩ := hrel
        by_cases hlt : m + 1 < l.length
        · obtain ⟨x, hx⟩ : ∃ x, l[m + 1]? = some x := ⟨_, List.getElem?_eq_getElem hlt⟩
          obtain ⟨y, hy⟩ : ∃ y, l[m]? = some y := ⟨_, List.getElem?_eq_getElem (by omega)⟩
          obtain ⟨bi, oi, rfl, hbi, ci⟩ := (HRd.out.kept hbl).int_at hx
          obtain ⟨bi', oi', he, _, ci'⟩ := (HRd.out.kept hbl).int_at hy
          obtain ⟨rfl, rfl⟩ : bi = bi' ∧ oi = oi' := by simpa using he
          have hxy : x ≤ y := down_at HDn.out hx hy
          have hx1 : 1 ≤ x := by have := HPs.out x (List.mem_of_getElem? hx); omega
          clear hx hy he
          have i0 : (0 : Int) ≤ (m : Int) + 1 := by omega
          have i1 : (m : Int) + 1 < (l.length : Int) := by omega
          have i2 : (0 : Int) ≤ (m : Int) := by omega
          have i3 : (m : Int) < (l.length : Int) := by omega
          have hw1 : IntKind.i64.wrap ((m : Int) + 1 - 1) = (m : Int) := by
            rw [show (m : Int) + 1 - 1 = (m : Int) by omega]; exact IntWalk.i64_in _ (by omega)
          have ht1 : ((m : Int) + 1).toNat = m + 1 := by omega
          have hd1 : decide (y < x) = false := by simp; omega
          have hd2 : decide (x < 1) = false := by simp; omega
          go_wp2_with fail
          go_quiet (fail)
          go_wp2_with fail
          go_roundw
          case rel => exact ⟨m + 1, by simp, .inl (by omega), below_drewN hbl nq⟩
          case measure => simp [intOf]; omega
        · obtain ⟨x0, x1, x2, x3⟩ := cell4 (hk5.kept hbl)
          obtain ⟨y0, y1, y2, y3⟩ := cell4 (hk6.kept hbl)
          have heq := cell_eql r.1 r.1
          rw [decide_eq_true rfl] at heq
          have hbeq : (r.2 == r.2) = true := by simp
          have hsz : (sizeM M == sizeM N) = true := by rw [size_fst, size_fst, HMN.out]; simp
          have hsame : decide (M.map (·.1) = N.map (·.1)) = true := decide_eq_true HMN.out
          have ho8 := (ho7.only hbl).drew.swap
          have bA := (hk5.kept hbl).drew
          have bB := (hk6.kept hbl).drew
          have hMb : M.length * 48 ≤ 140737488355328 := by omega
          have hNb : N.length * 48 ≤ 140737488355328 := by have := HNl.out; omega
          rcases HHd.out with ⟨hN, hl⟩ | ⟨hN, l', hl⟩
          · have hln : ((l.length : Int) == 0) = true := by rw [hl]; rfl
            have hNn : ((N.length : Int) == 0) = true := by rw [hN]; rfl
            clear hN hl
            go_wp2_with fail
            refine region_plan (S := fun w' => w'.cell? ⟨w4.heap.size, 0, none⟩ = some (.string r.1.key) ∧ w'.cell? ⟨w4.heap.size, 1, none⟩ = some (.int .u64 r.1.seq) ∧ w'.cell? ⟨w4.heap.size, 2, none⟩ = some (.string r.1.val) ∧ w'.cell? ⟨w4.heap.size, 3, none⟩ = some (.bool r.1.gone) ∧ w'.cell? ⟨w5.heap.size, 0, none⟩ = some (.string r.1.key) ∧ w'.cell? ⟨w5.heap.size, 1, none⟩ = some (.int .u64 r.1.seq) ∧ w'.cell? ⟨w5.heap.size, 2, none⟩ = some (.string r.1.val) ∧ w'.cell? ⟨w5.heap.size, 3, none⟩ = some (.bool r.1.gone))
              ((0, true) :: (1, true) :: (2, true) :: (3, true) :: (4, true) :: (5, true) :: (6, true) :: (7, true) :: (8, true) :: (9, true) :: (11, true) :: (10, false) :: (12, false) :: (13, false) :: (14, true) :: (15, true) :: (16, true) :: (18, true) :: (17, false) :: (19, false) :: (20, true) :: (21, true) :: (22, true) :: (23, true) :: (24, true) :: (25, true) :: (26, true) :: (27, false) :: (28, true) :: (29, true) :: (30, true) :: (31, true) :: (32, true) :: (33, true) :: (34, true) :: (35, true) :: (36, true) :: (37, true) :: (38, true) :: (39, true) :: (40, false) :: (41, true) :: (42, true) :: (43, true) :: (44, true) :: [])
              (by kernel_rfl) (by kernel_rfl) (by kernel_rfl) (by kernel_rfl) (fun _ _ _ dst _ h => by cases dst <;> exact h) ⟨x0, x1, x2, x3, y0, y1, y2, y3⟩ (fun hH => ?_)
            repeat (first | (refine plan_take (v := ?_) (by (simp only [List.getElem?_toArray, List.getElem?_cons_succ, List.getElem?_cons_zero]); exact rfl) (by rfl) ?_ ?_; rotate_left; (focus (intro w' hS; (try dsimp only at hS); go_split_ands; go_simp; (try with_reducible rfl))); simp only [Act.put, List.setIfInBounds_toArray, List.set_cons_zero, List.set_cons_succ]) | (refine plan_skip (by (simp only [List.getElem?_toArray, List.getElem?_cons_succ, List.getElem?_cons_zero]); exact rfl) (by rfl) ?_; simp only [Act.put, List.setIfInBounds_toArray, List.set_cons_zero, List.set_cons_succ]))
            refine plan_solo (by (simp only [List.getElem?_toArray, List.getElem?_cons_succ, List.getElem?_cons_zero]); exact rfl) (by rfl) (fun K hK => ?_)
            go_simp
            refine (ho8.cells hMb).mono ?_
            rintro e w8 ⟨va, rfl, hva, hb8⟩
            refine hK.out _ _ (cell8 (bA.kept hb8) (bB.kept hb8)) (fun hH => ?_)
            clear hK K
            try simp only [Act.put, List.setIfInBounds_toArray, List.set_cons_zero, List.set_cons_succ]
            repeat (first | (refine plan_take (v := ?_) (by (simp only [List.getElem?_toArray, List.getElem?_cons_succ, List.getElem?_cons_zero]); exact rfl) (by rfl) ?_ ?_; rotate_left; (focus (intro w' hS; (try dsimp only at hS); go_split_ands; go_simp; (try with_reducible rfl))); simp only [Act.put, List.setIfInBounds_toArray, List.set_cons_zero, List.set_cons_succ]) | (refine plan_skip (by (simp only [List.getElem?_toArray, List.getElem?_cons_succ, List.getElem?_cons_zero]); exact rfl) (by rfl) ?_; simp only [Act.put, List.setIfInBounds_toArray, List.set_cons_zero, List.set_cons_succ]))
            refine plan_solo (by (simp only [List.getElem?_toArray, List.getElem?_cons_succ, List.getElem?_cons_zero]); exact rfl) (by rfl) (fun K hK => ?_)
            go_simp
            refine ((ho8.only hb8).swap.cells hNb).mono ?_
            rintro e w9 ⟨vb, rfl, hvb, hb9⟩
            refine hK.out _ _ (cell8 ((bA.kept hb8).kept hb9) ((bB.kept hb8).kept hb9)) (fun hH => ?_)
            clear hK K
            try simp only [Act.put, List.setIfInBounds_toArray, List.set_cons_zero, List.set_cons_succ]
            repeat (first | (refine plan_take (v := ?_) (by (simp only [List.getElem?_toArray, List.getElem?_cons_succ, List.getElem?_cons_zero]); exact rfl) (by rfl) ?_ ?_; rotate_left; (focus (intro w' hS; (try dsimp only at hS); go_split_ands; go_simp; (try with_reducible rfl))); simp only [Act.put, List.setIfInBounds_toArray, List.set_cons_zero, List.set_cons_succ]) | (refine plan_skip (by (simp only [List.getElem?_toArray, List.getElem?_cons_succ, List.getElem?_cons_zero]); exact rfl) (by rfl) ?_; simp only [Act.put, List.setIfInBounds_toArray, List.set_cons_zero, List.set_cons_succ]))
            refine plan_solo (by (simp only [List.getElem?_toArray, List.getElem?_cons_succ, List.getElem?_cons_zero]); exact rfl) (by rfl) (fun K hK => ?_)
            go_simp
            refine (same_spec (l1 := M.map (·.1)) (l2 := N.map (·.1)) (by rw [List.length_map] at *; exact (Reads.of_own hva).kept hb9) (Reads.of_own hvb)).mono ?_
            rintro e w10 ⟨rfl, hb10⟩
            refine hK.out _ _ (cell8 (((bA.kept hb8).kept hb9).kept hb10) (((bB.kept hb8).kept hb9).kept hb10)) (fun hH => ?_)
            clear hK K
            try simp only [Act.put, List.setIfInBounds_toArray, List.set_cons_zero, List.set_cons_succ]
            have ho10 := ((ho8.only hb8).only hb9).only hb10
            repeat (first | (refine plan_take (v := ?_) (by (simp only [List.getElem?_toArray, List.getElem?_cons_succ, List.getElem?_cons_zero]); exact rfl) (by rfl) ?_ ?_; rotate_left; (focus (intro w' hS; (try dsimp only at hS); go_split_ands; go_simp; (try with_reducible rfl))); simp only [Act.put, List.setIfInBounds_toArray, List.set_cons_zero, List.set_cons_succ]) | (refine plan_skip (by (simp only [List.getElem?_toArray, List.getElem?_cons_succ, List.getElem?_cons_zero]); exact rfl) (by rfl) ?_; simp only [Act.put, List.setIfInBounds_toArray, List.set_cons_zero, List.set_cons_succ]))
            refine plan_solo (by (simp only [List.getElem?_toArray, List.getElem?_cons_succ, List.getElem?_cons_zero]); exact rfl) (by rfl) (fun K hK => ?_)
            go_simp
            refine (ho10.size).mono ?_
            rintro e w11 ⟨rfl, rfl⟩
            refine hK.out _ _ (hH) (fun hH => ?_)
            clear hK K
            try simp only [Act.put, List.setIfInBounds_toArray, List.set_cons_zero, List.set_cons_succ]
            repeat (first | (refine plan_take (v := ?_) (by (simp only [List.getElem?_toArray, List.getElem?_cons_succ, List.getElem?_cons_zero]); exact rfl) (by rfl) ?_ ?_; rotate_left; (focus (intro w' hS; (try dsimp only at hS); go_split_ands; go_simp; (try with_reducible rfl))); simp only [Act.put, List.setIfInBounds_toArray, List.set_cons_zero, List.set_cons_succ]) | (refine plan_skip (by (simp only [List.getElem?_toArray, List.getElem?_cons_succ, List.getElem?_cons_zero]); exact rfl) (by rfl) ?_; simp only [Act.put, List.setIfInBounds_toArray, List.set_cons_zero, List.set_cons_succ]))
            refine plan_solo (by (simp only [List.getElem?_toArray, List.getElem?_cons_succ, List.getElem?_cons_zero]); exact rfl) (by rfl) (fun K hK => ?_)
            go_simp
            refine (ho10.swap.size).mono ?_
            rintro e w11 ⟨rfl, rfl⟩
            refine hK.out _ _ (hH) (fun hH => ?_)
            clear hK K
            try simp only [Act.put, List.setIfInBounds_toArray, List.set_cons_zero, List.set_cons_succ]
            repeat (first | (refine plan_take (v := ?_) (by (simp only [List.getElem?_toArray, List.getElem?_cons_succ, List.getElem?_cons_zero]); exact rfl) (by rfl) ?_ ?_; rotate_left; (focus (intro w' hS; (try dsimp only at hS); go_split_ands; go_simp; (try with_reducible rfl))); simp only [Act.put, List.setIfInBounds_toArray, List.set_cons_zero, List.set_cons_succ]) | (refine plan_skip (by (simp only [List.getElem?_toArray, List.getElem?_cons_succ, List.getElem?_cons_zero]); exact rfl) (by rfl) ?_; simp only [Act.put, List.setIfInBounds_toArray, List.set_cons_zero, List.set_cons_succ]))
            refine plan_solo (by (simp only [List.getElem?_toArray, List.getElem?_cons_succ, List.getElem?_cons_zero]); exact rfl) (by rfl) (fun K hK => ?_)
            go_simp
            refine (ho10.swap.len).mono ?_
            rintro e w11 ⟨rfl, rfl⟩
            refine hK.out _ _ (hH) (fun hH => ?_)
            clear hK K
            try simp only [Act.put, List.setIfInBounds_toArray, List.set_cons_zero, List.set_cons_succ]
            repeat (first | (refine plan_take (v := ?_) (by (simp only [List.getElem?_toArray, List.getElem?_cons_succ, List.getElem?_cons_zero]); exact rfl) (by rfl) ?_ ?_; rotate_left; (focus (intro w' hS; (try dsimp only at hS); go_split_ands; go_simp; (try with_reducible rfl))); simp only [Act.put, List.setIfInBounds_toArray, List.set_cons_zero, List.set_cons_succ]) | (refine plan_skip (by (simp only [List.getElem?_toArray, List.getElem?_cons_succ, List.getElem?_cons_zero]); exact rfl) (by rfl) ?_; simp only [Act.put, List.setIfInBounds_toArray, List.set_cons_zero, List.set_cons_succ]))
            refine plan_solo_skip (by (simp only [List.getElem?_toArray, List.getElem?_cons_succ, List.getElem?_cons_zero]); exact rfl) (by rfl) hH ?_
            try simp only [Act.put, List.setIfInBounds_toArray, List.set_cons_zero, List.set_cons_succ]
            repeat (first | (refine plan_take (v := ?_) (by (simp only [List.getElem?_toArray, List.getElem?_cons_succ, List.getElem?_cons_zero]); exact rfl) (by rfl) ?_ ?_; rotate_left; (focus (intro w' hS; (try dsimp only at hS); go_split_ands; go_simp; (try with_reducible rfl))); simp only [Act.put, List.setIfInBounds_toArray, List.set_cons_zero, List.set_cons_succ]) | (refine plan_skip (by (simp only [List.getElem?_toArray, List.getElem?_cons_succ, List.getElem?_cons_zero]); exact rfl) (by rfl) ?_; simp only [Act.put, List.setIfInBounds_toArray, List.set_cons_zero, List.set_cons_succ]))
            refine plan_nil ?_
            go_wp2_with fail
            go_ret
            exact ⟨rfl, ho10.below⟩
          · have hln : ((l.length : Int) == 0) = false := by rw [hl]; simp; omega
            have hNn : ((N.length : Int) == 0) = false := by
              have := List.length_pos_iff.2 hN
              simp; omega
            have hx : l[0]? = some (N.length : Int) := by rw [hl]; rfl
            obtain ⟨bi, oi, rfl, hbi, ci⟩ := (HRd.out.kept hbl).int_at hx
            have ci0 : wr.cell? ⟨bi, oi, none⟩ = some (.int .i64 N.length) := ci
            have hl0 : 0 < l.length := by rw [hl]; simp
            have hqq : ((N.length : Int) == (N.length : Int)) = true := by simp
            clear hN hl hx ci
            go_wp2_with fail
            refine region_plan (S := fun w' => w'.cell? ⟨w4.heap.size, 0, none⟩ = some (.string r.1.key) ∧ w'.cell? ⟨w4.heap.size, 1, none⟩ = some (.int .u64 r.1.seq) ∧ w'.cell? ⟨w4.heap.size, 2, none⟩ = some (.string r.1.val) ∧ w'.cell? ⟨w4.heap.size, 3, none⟩ = some (.bool r.1.gone) ∧ w'.cell? ⟨w5.heap.size, 0, none⟩ = some (.string r.1.key) ∧ w'.cell? ⟨w5.heap.size, 1, none⟩ = some (.int .u64 r.1.seq) ∧ w'.cell? ⟨w5.heap.size, 2, none⟩ = some (.string r.1.val) ∧ w'.cell? ⟨w5.heap.size, 3, none⟩ = some (.bool r.1.gone) ∧ w'.cell? ⟨bi, oi, none⟩ = some (.int .i64 N.length))
              ((0, true) :: (1, true) :: (2, true) :: (3, true) :: (4, true) :: (5, true) :: (6, true) :: (7, true) :: (8, true) :: (9, true) :: (11, true) :: (10, false) :: (12, false) :: (13, false) :: (14, true) :: (15, true) :: (16, true) :: (18, true) :: (17, false) :: (19, false) :: (20, true) :: (21, true) :: (22, true) :: (23, true) :: (24, true) :: (25, true) :: (26, true) :: (27, false) :: (28, true) :: (29, true) :: (30, true) :: (31, true) :: (32, true) :: (33, true) :: (34, true) :: (35, true) :: (36, true) :: (37, true) :: (38, true) :: (39, true) :: (40, false) :: (41, true) :: (42, true) :: (43, true) :: (44, true) :: [])
              (by kernel_rfl) (by kernel_rfl) (by kernel_rfl) (by kernel_rfl) (fun _ _ _ dst _ h => by cases dst <;> exact h) ⟨x0, x1, x2, x3, y0, y1, y2, y3, ci0⟩ (fun hH => ?_)
            repeat (first | (refine plan_take (v := ?_) (by (simp only [List.getElem?_toArray, List.getElem?_cons_succ, List.getElem?_cons_zero]); exact rfl) (by rfl) ?_ ?_; rotate_left; (focus (intro w' hS; (try dsimp only at hS); go_split_ands; go_simp; (try with_reducible rfl))); simp only [Act.put, List.setIfInBounds_toArray, List.set_cons_zero, List.set_cons_succ]) | (refine plan_skip (by (simp only [List.getElem?_toArray, List.getElem?_cons_succ, List.getElem?_cons_zero]); exact rfl) (by rfl) ?_; simp only [Act.put, List.setIfInBounds_toArray, List.set_cons_zero, List.set_cons_succ]))
            refine plan_solo (by (simp only [List.getElem?_toArray, List.getElem?_cons_succ, List.getElem?_cons_zero]); exact rfl) (by rfl) (fun K hK => ?_)
            go_simp
            refine (ho8.cells hMb).mono ?_
            rintro e w8 ⟨va, rfl, hva, hb8⟩
            refine hK.out _ _ (cell9 (bA.kept hb8) (bB.kept hb8) (cell_keep hb8 hH.2.2.2.2.2.2.2.2)) (fun hH => ?_)
            clear hK K
            try simp only [Act.put, List.setIfInBounds_toArray, List.set_cons_zero, List.set_cons_succ]
            repeat (first | (refine plan_take (v := ?_) (by (simp only [List.getElem?_toArray, List.getElem?_cons_succ, List.getElem?_cons_zero]); exact rfl) (by rfl) ?_ ?_; rotate_left; (focus (intro w' hS; (try dsimp only at hS); go_split_ands; go_simp; (try with_reducible rfl))); simp only [Act.put, List.setIfInBounds_toArray, List.set_cons_zero, List.set_cons_succ]) | (refine plan_skip (by (simp only [List.getElem?_toArray, List.getElem?_cons_succ, List.getElem?_cons_zero]); exact rfl) (by rfl) ?_; simp only [Act.put, List.setIfInBounds_toArray, List.set_cons_zero, List.set_cons_succ]))
            refine plan_solo (by (simp only [List.getElem?_toArray, List.getElem?_cons_succ, List.getElem?_cons_zero]); exact rfl) (by rfl) (fun K hK => ?_)
            go_simp
            refine ((ho8.only hb8).swap.cells hNb).mono ?_
            rintro e w9 ⟨vb, rfl, hvb, hb9⟩
            refine hK.out _ _ (cell9 ((bA.kept hb8).kept hb9) ((bB.kept hb8).kept hb9) (cell_keep hb9 hH.2.2.2.2.2.2.2.2)) (fun hH => ?_)
            clear hK K
            try simp only [Act.put, List.setIfInBounds_toArray, List.set_cons_zero, List.set_cons_succ]
            repeat (first | (refine plan_take (v := ?_) (by (simp only [List.getElem?_toArray, List.getElem?_cons_succ, List.getElem?_cons_zero]); exact rfl) (by rfl) ?_ ?_; rotate_left; (focus (intro w' hS; (try dsimp only at hS); go_split_ands; go_simp; (try with_reducible rfl))); simp only [Act.put, List.setIfInBounds_toArray, List.set_cons_zero, List.set_cons_succ]) | (refine plan_skip (by (simp only [List.getElem?_toArray, List.getElem?_cons_succ, List.getElem?_cons_zero]); exact rfl) (by rfl) ?_; simp only [Act.put, List.setIfInBounds_toArray, List.set_cons_zero, List.set_cons_succ]))
            refine plan_solo (by (simp only [List.getElem?_toArray, List.getElem?_cons_succ, List.getElem?_cons_zero]); exact rfl) (by rfl) (fun K hK => ?_)
            go_simp
            refine (same_spec (l1 := M.map (·.1)) (l2 := N.map (·.1)) (by rw [List.length_map] at *; exact (Reads.of_own hva).kept hb9) (Reads.of_own hvb)).mono ?_
            rintro e w10 ⟨rfl, hb10⟩
            refine hK.out _ _ (cell9 (((bA.kept hb8).kept hb9).kept hb10) (((bB.kept hb8).kept hb9).kept hb10) (cell_keep hb10 hH.2.2.2.2.2.2.2.2)) (fun hH => ?_)
            clear hK K
            try simp only [Act.put, List.setIfInBounds_toArray, List.set_cons_zero, List.set_cons_succ]
            have ho10 := ((ho8.only hb8).only hb9).only hb10
            repeat (first | (refine plan_take (v := ?_) (by (simp only [List.getElem?_toArray, List.getElem?_cons_succ, List.getElem?_cons_zero]); exact rfl) (by rfl) ?_ ?_; rotate_left; (focus (intro w' hS; (try dsimp only at hS); go_split_ands; go_simp; (try with_reducible rfl))); simp only [Act.put, List.setIfInBounds_toArray, List.set_cons_zero, List.set_cons_succ]) | (refine plan_skip (by (simp only [List.getElem?_toArray, List.getElem?_cons_succ, List.getElem?_cons_zero]); exact rfl) (by rfl) ?_; simp only [Act.put, List.setIfInBounds_toArray, List.set_cons_zero, List.set_cons_succ]))
            refine plan_solo (by (simp only [List.getElem?_toArray, List.getElem?_cons_succ, List.getElem?_cons_zero]); exact rfl) (by rfl) (fun K hK => ?_)
            go_simp
            refine (ho10.size).mono ?_
            rintro e w11 ⟨rfl, rfl⟩
            refine hK.out _ _ (hH) (fun hH => ?_)
            clear hK K
            try simp only [Act.put, List.setIfInBounds_toArray, List.set_cons_zero, List.set_cons_succ]
            repeat (first | (refine plan_take (v := ?_) (by (simp only [List.getElem?_toArray, List.getElem?_cons_succ, List.getElem?_cons_zero]); exact rfl) (by rfl) ?_ ?_; rotate_left; (focus (intro w' hS; (try dsimp only at hS); go_split_ands; go_simp; (try with_reducible rfl))); simp only [Act.put, List.setIfInBounds_toArray, List.set_cons_zero, List.set_cons_succ]) | (refine plan_skip (by (simp only [List.getElem?_toArray, List.getElem?_cons_succ, List.getElem?_cons_zero]); exact rfl) (by rfl) ?_; simp only [Act.put, List.setIfInBounds_toArray, List.set_cons_zero, List.set_cons_succ]))
            refine plan_solo (by (simp only [List.getElem?_toArray, List.getElem?_cons_succ, List.getElem?_cons_zero]); exact rfl) (by rfl) (fun K hK => ?_)
            go_simp
            refine (ho10.swap.size).mono ?_
            rintro e w11 ⟨rfl, rfl⟩
            refine hK.out _ _ (hH) (fun hH => ?_)
            clear hK K
            try simp only [Act.put, List.setIfInBounds_toArray, List.set_cons_zero, List.set_cons_succ]
            repeat (first | (refine plan_take (v := ?_) (by (simp only [List.getElem?_toArray, List.getElem?_cons_succ, List.getElem?_cons_zero]); exact rfl) (by rfl) ?_ ?_; rotate_left; (focus (intro w' hS; (try dsimp only at hS); go_split_ands; go_simp; (try with_reducible rfl))); simp only [Act.put, List.setIfInBounds_toArray, List.set_cons_zero, List.set_cons_succ]) | (refine plan_skip (by (simp only [List.getElem?_toArray, List.getElem?_cons_succ, List.getElem?_cons_zero]); exact rfl) (by rfl) ?_; simp only [Act.put, List.setIfInBounds_toArray, List.set_cons_zero, List.set_cons_succ]))
            refine plan_solo (by (simp only [List.getElem?_toArray, List.getElem?_cons_succ, List.getElem?_cons_zero]); exact rfl) (by rfl) (fun K hK => ?_)
            go_simp
            refine (ho10.swap.len).mono ?_
            rintro e w11 ⟨rfl, rfl⟩
            refine hK.out _ _ (hH) (fun hH => ?_)
            clear hK K
            try simp only [Act.put, List.setIfInBounds_toArray, List.set_cons_zero, List.set_cons_succ]
            repeat (first | (refine plan_take (v := ?_) (by (simp only [List.getElem?_toArray, List.getElem?_cons_succ, List.getElem?_cons_zero]); exact rfl) (by rfl) ?_ ?_; rotate_left; (focus (intro w' hS; (try dsimp only at hS); go_split_ands; go_simp; (try with_reducible rfl))); simp only [Act.put, List.setIfInBounds_toArray, List.set_cons_zero, List.set_cons_succ]) | (refine plan_skip (by (simp only [List.getElem?_toArray, List.getElem?_cons_succ, List.getElem?_cons_zero]); exact rfl) (by rfl) ?_; simp only [Act.put, List.setIfInBounds_toArray, List.set_cons_zero, List.set_cons_succ]))
            refine plan_solo (by (simp only [List.getElem?_toArray, List.getElem?_cons_succ, List.getElem?_cons_zero]); exact rfl) (by rfl) (fun K hK => ?_)
            go_simp
            refine (ho10.swap.len).mono ?_
            rintro e w11 ⟨rfl, rfl⟩
            refine hK.out _ _ (hH) (fun hH => ?_)
            clear hK K
            try simp only [Act.put, List.setIfInBounds_toArray, List.set_cons_zero, List.set_cons_succ]
            repeat (first | (refine plan_take (v := ?_) (by (simp only [List.getElem?_toArray, List.getElem?_cons_succ, List.getElem?_cons_zero]); exact rfl) (by rfl) ?_ ?_; rotate_left; (focus (intro w' hS; (try dsimp only at hS); go_split_ands; go_simp; (try with_reducible rfl))); simp only [Act.put, List.setIfInBounds_toArray, List.set_cons_zero, List.set_cons_succ]) | (refine plan_skip (by (simp only [List.getElem?_toArray, List.getElem?_cons_succ, List.getElem?_cons_zero]); exact rfl) (by rfl) ?_; simp only [Act.put, List.setIfInBounds_toArray, List.set_cons_zero, List.set_cons_succ]))
            refine plan_nil ?_
            go_wp2_with fail
            go_ret
            exact ⟨rfl, ho10.below⟩

end Go.Proofs.Ytbcaiegglbdonaa
