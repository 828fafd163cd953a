/-
  The law's Goes over the block's iterator: it goes over just these cells, twice.
-/
import Derived.Test.YtbcaiegglbdonaaBTab
import Derived.Sort.CutIn
namespace Go.Proofs.Ytbcaiegglbdonaa
open Go.RowKit Go.Shelf
attribute [local go_sem] Oper.semAt_some
set_option linter.unusedSimpArgs false

theorem func_eql6 (x y z : Value) (W : World) : (binOp .eql 38 (.func (.func 106) #[] #[x, y, z]) .nilFunc).run Try.prog W = .ok (.bool false) W := by kernel_rfl
set_option maxRecDepth 100000 in
theorem bgoes_result {tmps : Array Value} {b : Nat} {W : World} (hp : tmps.getD 6 undef = .pointer (some ⟨b, 0, none⟩)) (hc : Blk W b #[.bool true] 4) : (results Try.f35 tmps).run Try.prog W = .ok (.bool true) W := by
  have c0 : W.cell? ⟨b, 0, none⟩ = some (.bool true) := hc.cell 0 _ rfl
  have hr : Try.f35.results = #[.cell 6 4] := rfl
  have hp' : tmps[6]?.getD undef = .pointer (some ⟨b, 0, none⟩) := by simpa using hp
  simp only [results, hr]
  simp [hp', asAddr, loadVar, Sem.run_bind, Result.andThen]
  go_simp

set_option maxRecDepth 100000 in
set_option maxHeartbeats 4000000 in
theorem bgoes_spec {w : World} {p vw : Value} {F : Nat → Prop} {cs Z : List Cell} {b0 b1 b2 : Nat} {fr to : ByteArray} (stop : Int) (x0 : Blk w b0 #[p] 68) (x1 : Blk w b1 #[.string fr] 9) (x2 : Blk w b2 #[.string to] 9) (hT : BTab p F cs w)
    (hz : Z = cs.filter (partP fr to)) (hw : Reads w vw Z.length 4 (cellVals Z)) :
    Calls Try.prog 35 #[.func (.func 106) #[] #[.pointer (some ⟨b0, 0, none⟩), .pointer (some ⟨b1, 0, none⟩), .pointer (some ⟨b2, 0, none⟩)], vw, .int .i64 stop] w fun e w' => e = .returned (.bool true) ∧ Below w.heap.size w w' := by
  have fq := func_eql6
  obtain ⟨A, cap, rfl⟩ := hw.form
  have HW := Lib.hid hw
  have hzl : Z.length ≤ 2932031007402 := by rw [hz]; exact Nat.le_trans (List.length_filter_le _ _) hT.len
  have HZ := Lib.hid hz
  clear hw hz
  refine (callsIn_wide (n := 6)).1 ?_
  refine callsIn_of_wp_marks Try.func35 rfl trivial ?_ rfl
  simp only [Try.ntmps35, List.size_toArray, List.length_cons, List.length_nil, Nat.reduceAdd, Nat.reduceSub, Array.replicate_succ, Array.replicate_zero, List.push_toArray, List.append_toArray, List.nil_append, List.cons_append]
  gi_wp2_with fail
  obtain ⟨W0, hW0⟩ : ∃ W0, W0 = ((((w.alloc (.cells #[.slice A Z.length cap] 22)).alloc (.cells #[.int .i64 stop] 3)).alloc (.cells #[.bool false] 4)).alloc (.cells #[.int .i64 0] 3)) := ⟨_, rfl⟩
  have hk0 : Keep w [(w.heap.size + 1 + 1 + 1, #[.int .i64 0], 3), (w.heap.size, #[.slice A Z.length cap], 22), (w.heap.size + 1, #[.int .i64 stop], 3), (w.heap.size + 1 + 1, #[.bool false], 4)] [] W0 := by
    rw [hW0]
    refine ⟨fun x hx => ?_, (((((Below.refl _ _).alloc (Nat.le_refl _) _).alloc (by simp) _).alloc (by simp; omega) _).alloc (by simp; omega) _), fun D hD => by cases hD⟩
    simp only [List.mem_cons, List.not_mem_nil, or_false] at hx
    rcases hx with rfl | rfl | rfl | rfl
    · exact Blk.new' _ _ _ (by simp)
    · exact (((Blk.new _ _ _).alloc _).alloc _).alloc _
    · exact ((Blk.new' _ _ _ (by simp)).alloc _).alloc _
    · exact (Blk.new' _ _ _ (by simp)).alloc _
  rw [← hW0]
  clear hW0
  obtain ⟨b7, hb7⟩ : ∃ b7, b7 = w.heap.size + 1 + 1 + 1 := ⟨_, rfl⟩
  rw [← hb7] at hk0 ⊢
  have hge7 : w.heap.size + 2 < b7 := by omega
  clear hb7
  refine wpIn_loop_rounds 3 ?_
  rw [roundsIn_succ]
  have d7 := hk0.blk (b7, #[.int .i64 0], 3) (by simp)
  have c7 := d7.cell 0 _ rfl
  have l7 := d7.lt
  have hlt7 : w.heap.size + 2 < W0.heap.size := (hk0.blk (w.heap.size + 1 + 1, #[.bool false], 4) (by simp)).lt
  have hlt0 : ∀ x ∈ ([(b7, #[.int .i64 0], 3), (w.heap.size, #[.slice A Z.length cap], 22), (w.heap.size + 1, #[.int .i64 stop], 3), (w.heap.size + 1 + 1, #[.bool false], 4)] : List (Nat × Array Value × TypeId)), x.1 ≠ W0.heap.size := fun x hx e => by have := (hk0.blk x hx).lt; omega
  gi_wp2_with fail
  clear c7 l7 d7
  have hk1 : Keep w ((W0.heap.size, #[.int .i64 (([] : List Cell).length : Int)], 3) :: [(b7, #[.int .i64 0], 3), (w.heap.size, #[.slice A Z.length cap], 22), (w.heap.size + 1, #[.int .i64 stop], 3), (w.heap.size + 1 + 1, #[.bool false], 4)]) [] (W0.alloc (.cells #[.int .i64 0] 3)) := (hk0.kept ((Below.refl _ _).alloc (Nat.le_refl _) _)).add (Blk.new _ _ _)
  obtain ⟨b8, hb8⟩ : ∃ b8, b8 = W0.heap.size := ⟨_, rfl⟩
  obtain ⟨W1, hW1⟩ : ∃ W1, W1 = W0.alloc (.cells #[.int .i64 0] 3) := ⟨_, rfl⟩
  have hge8 : w.heap.size ≤ b8 := by rw [hb8]; exact hk0.below.size
  rw [← hb8] at hk1 hlt0
  rw [← hW1] at hk1
  rw [← hW1, ← hb8]
  have hgs : w.heap.size + 3 ≤ W1.heap.size := by have := hlt7; rw [hW1, World.size_alloc]; omega
  have hgw : W0.heap.size < W1.heap.size := by rw [hW1, World.size_alloc]; omega
  clear hb8 hW1 hk0 hlt7
  have e8 := hk1.blk (b8, #[.int .i64 (([] : List Cell).length : Int)], 3) (by simp)
  have nsx : ∀ b, Sx (fun k => k = b8) b8 W1 b → b = b8 := by
    rintro b (h | ⟨o, n, c, h⟩)
    · exact h
    · rw [e8.cell 0 _ rfl] at h; cases h
  have hseq := btab_stops 5 (by omega) (X := fun k => k = b8) (pb := b8) (x0.kept hk1.below) (x1.kept hk1.below) (x2.kept hk1.below) (fun h => by have := nsx _ h; have := x1.lt; omega) (fun h => by have := nsx _ h; have := x2.lt; omega) (fun b h => by rw [nsx b h]; exact e8.lt) e8.lt (hT.only (Only.of_below hk1.below))
  rw [← HZ.out] at hseq
  have hown : OwnFrom W1.heap.size (fun (pre : List Cell) W => Keep w ((b8, #[.int .i64 (pre.length : Int)], 3) :: [(b7, #[.int .i64 0], 3), (w.heap.size, #[.slice A Z.length cap], 22), (w.heap.size + 1, #[.int .i64 stop], 3), (w.heap.size + 1 + 1, #[.bool false], 4)]) [] W ∧ W1.heap.size ≤ W.heap.size) :=
    OwnFrom.and (keep_own (fun (pre : List Cell) => (b8, #[.int .i64 (pre.length : Int)], 3) :: [(b7, #[.int .i64 0], 3), (w.heap.size, #[.slice A Z.length cap], 22), (w.heap.size + 1, #[.int .i64 stop], 3), (w.heap.size + 1 + 1, #[.bool false], 4)]) hk1.below.size (fun D hD => (Array.getElem?_eq_some_iff.1 (hk1.marks D hD)).1)) (fun _ _ _ _ h hg _ => Nat.le_trans h hg.size)
  refine range_meet6 (p := 17) (q := 9) (by omega) rfl hseq e8.lt (fun pre W => Keep w ((b8, #[.int .i64 (pre.length : Int)], 3) :: [(b7, #[.int .i64 0], 3), (w.heap.size, #[.slice A Z.length cap], 22), (w.heap.size + 1, #[.int .i64 stop], 3), (w.heap.size + 1 + 1, #[.bool false], 4)]) [] W ∧ W1.heap.size ≤ W.heap.size)
    (fun c pre W => (c = .ret ∧ ¬ pre <+: Z) ∨ (c = .exit 2 ∧ (0 = 0) ∧ (pre.length : Int) = stop ∧ Keep w ((b8, #[.int .i64 (pre.length : Int)], 3) :: [(b7, #[.int .i64 0], 3), (w.heap.size, #[.slice A Z.length cap], 22), (w.heap.size + 1, #[.int .i64 stop], 3), (w.heap.size + 1 + 1, #[.bool false], 4)]) [] W ∧ W1.heap.size ≤ W.heap.size))
    hown (fun c s A B row hs hg hr => hs.imp id fun ⟨h1, h2, h3, h4⟩ => ⟨h1, h2, h3, hown s A B row h4 hg hr⟩) ⟨hk1, Nat.le_refl _⟩ ?assign ?body
    (fun Dn W => W1.heap.size ≤ Dn ∧ ∃ k : Nat, k ≤ Z.length ∧ (k = Z.length ∨ ((0 = 0) ∧ (k : Int) = stop)) ∧ Keep w ((b8, #[.int .i64 (k : Int)], 3) :: [(b7, #[.int .i64 0], 3), (w.heap.size, #[.slice A Z.length cap], 22), (w.heap.size + 1, #[.int .i64 stop], 3), (w.heap.size + 1 + 1, #[.bool false], 4)]) (Dn :: []) W) 2
    (fun D W hD hi hk => ⟨hD, Z.length, Nat.le_refl _, .inl rfl, hi.1.mark hk⟩)
    (fun D c pre W hD hp hi hk => by
      rcases hi with ⟨_, hn⟩ | ⟨rfl, h2, h3, h4, _⟩
      · exact absurd hp hn
      · exact ⟨rfl, hD, pre.length, hp.length_le, .inr ⟨h2, h3⟩, h4.mark hk⟩) (fun pre W h => h.2) (by intro a w h; simpa [Exit.inBlock] using h) ?meet
  case assign =>
    intro l x W K hK
    unfold cellA at hK ⊢
    simp only [List.setIfInBounds_toArray, List.set_cons_succ, List.set_cons_zero] at hK ⊢
    gi_wp2
    exact hK
  case body =>
    rintro l pre x Bx W ⟨hk, hsz⟩ hB _ hlt
    clear hseq hown e8 nsx hk1
    unfold cellA at hB ⊢
    simp only [List.setIfInBounds_toArray, List.set_cons_succ, List.set_cons_zero]
    obtain ⟨y0, y1, y2, y3⟩ := cell4 hB
    have hBl := hB.lt
    clear hB
    have g8 := hk.blk (b8, #[.int .i64 (pre.length : Int)], 3) (by simp)
    have g7 := hk.blk (b7, #[.int .i64 0], 3) (by simp)
    have gw := hk.blk (w.heap.size, #[.slice A Z.length cap], 22) (by simp)
    have gs := hk.blk (w.heap.size + 1, #[.int .i64 stop], 3) (by simp)
    have g6 := hk.blk (w.heap.size + 1 + 1, #[.bool false], 4) (by simp)
    have a1 := g8.cell 0 _ rfl
    have a2 := g8.lt
    have a3 := g8.frozen 0
    have a4 := g7.cell 0 _ rfl
    have a5 := g7.lt
    have a6 := gw.cell 0 _ rfl
    have a7 := gw.lt
    have a8 := gs.cell 0 _ rfl
    have a9 := gs.lt
    have a10 := g6.cell 0 _ rfl
    have a11 := g6.lt
    have a12 := g6.frozen 0
    have hn7 : b7 ≠ b8 := hlt0 (b7, #[.int .i64 0], 3) (by simp)
    have hns : w.heap.size + 1 ≠ b8 := hlt0 (w.heap.size + 1, #[.int .i64 stop], 3) (by simp)
    obtain ⟨z, hz⟩ : ∃ z, Z[pre.length]? = some z := ⟨_, List.getElem?_eq_getElem hlt⟩
    obtain ⟨b, o, hA, hbl, z0, z1, z2, z3⟩ := (HW.out.kept hk.below).cell_at hz
    subst hA
    have i0 : (0 : Int) ≤ (pre.length : Int) := by omega
    have i1 : (pre.length : Int) < (Z.length : Int) := by omega
    have i3 : ¬ (Z.length ≤ pre.length) := by omega
    have i4 : decide (Z.length ≤ pre.length) = false := by simp; omega
    have i2 : IntKind.i64.wrap ((pre.length : Int) + 1) = (pre.length : Int) + 1 := IntWalk.i64_in _ (by omega)
    have HZz := Lib.hid hz
    have hne := cell_neq x z
    clear hz g8 g7 gw gs g6
    by_cases hxz : x = z
    · have hb : decide (x = z) = true := by simp [hxz]
      rw [hb] at hne
      clear hb hxz
      gi_wp2_with fail
      have he : (((pre ++ [x]).length : Nat) : Int) = (pre.length : Int) + 1 := by simp
      have HE := Lib.hid he
      clear he
      by_cases hst : (pre.length : Int) + 1 = stop
      · have hsb : ((pre.length : Int) + 1 == stop) = true := by simpa using hst
        have HST := Lib.hid hst
        clear hst
        gi_wp2_with fail
        (refine region_quiet_round (F := Fence.wide) rfl (by kernel_rfl) (by kernel_rfl) (by kernel_rfl) ?_; (repeat (gi_big_quiet_step (fail))); refine wpQuietIn_nil ?_; intro _ hw'; obtain ⟨nq, hw''⟩ := hw'; subst hw'')
        have hkq := (hk.kept (below_drewN (Below.refl _ _) nq)).set (fun y hy => hlt0 y hy) hge8 (.int .i64 ((pre.length : Int) + 1))
        gi_wp2_with fail
        exact ⟨(((keeps_drewN W nq).trans (KeepsOthers.setCell _ _ _)).from _), .inr ⟨rfl, by simp, by rw [HE.out]; exact HST.out, by rw [HE.out]; exact hkq, by simpa using hsz⟩⟩
      · have hsb : ((pre.length : Int) + 1 == stop) = false := by simpa using hst
        clear hst
        gi_wp2_with fail
        (refine region_quiet_round (F := Fence.wide) rfl (by kernel_rfl) (by kernel_rfl) (by kernel_rfl) ?_; (repeat (gi_big_quiet_step (fail))); refine wpQuietIn_nil ?_; intro _ hw'; obtain ⟨nq, hw''⟩ := hw'; subst hw'')
        have hkq := (hk.kept (below_drewN (Below.refl _ _) nq)).set (fun y hy => hlt0 y hy) hge8 (.int .i64 ((pre.length : Int) + 1))
        have hkp : KpC (fun k => k = b8) b8 W ((W.drewN nq).setCell ⟨b8, 0, none⟩ (.int .i64 ((pre.length : Int) + 1))) :=
          (KpC.of_below (below_drewN (Below.refl _ _) nq) a2).trans (KpC.setInt (X := fun k => k = b8) (b := b8) rfl _ _ ((hk.blk (b8, #[.int .i64 (pre.length : Int)], 3) (by simp)).kept (below_drewN (Below.refl _ _) nq)))
        gi_wp2_with fail
        exact ⟨(((keeps_drewN W nq).trans (KeepsOthers.setCell _ _ _)).from _), hkp, by rw [HE.out]; exact hkq, by simpa using hsz⟩
    · have hb : decide (x = z) = false := by simp [hxz]
      rw [hb] at hne
      have hnp : ¬ (pre ++ [x]) <+: Z := by
        rintro ⟨t, ht⟩
        have h1 := HZz.out
        rw [← ht] at h1
        simp at h1
        exact hxz h1
      have HNP := Lib.hid hnp
      clear hb hxz hnp
      gi_wp2_with fail
      (refine region_quiet_round (F := Fence.wide) rfl (by kernel_rfl) (by kernel_rfl) (by kernel_rfl) ?_; (repeat (gi_big_quiet_step (fail))); refine wpQuietIn_nil ?_; intro _ hw'; obtain ⟨nq, hw''⟩ := hw'; subst hw'')
      gi_wp2_with fail
      exact ⟨(((keeps_drewN W nq).trans (KeepsOthers.setCell _ _ _)).from _), .inl ⟨rfl, HNP.out⟩⟩
  case meet =>
    rintro D W ⟨hD, k, hkZ, hor, hk⟩
    have hk1s := Nat.le_trans hgs hD
    clear hseq hown e8 nsx hk1
    have g8 := hk.blk (b8, #[.int .i64 (k : Int)], 3) (by simp)
    have g7 := hk.blk (b7, #[.int .i64 0], 3) (by simp)
    have gw := hk.blk (w.heap.size, #[.slice A Z.length cap], 22) (by simp)
    have gs := hk.blk (w.heap.size + 1, #[.int .i64 stop], 3) (by simp)
    have g6 := hk.blk (w.heap.size + 1 + 1, #[.bool false], 4) (by simp)
    have a1 := g8.cell 0 _ rfl
    have a2 := g8.lt
    have a4 := g7.cell 0 _ rfl
    have a5 := g7.lt
    have a6 := gw.cell 0 _ rfl
    have a7 := gw.lt
    have a8 := gs.cell 0 _ rfl
    have a9 := gs.lt
    have a10 := g6.cell 0 _ rfl
    have a11 := g6.lt
    clear g8 g7 gw gs g6
    gi_upto_region 13 with fail
    gi_cut [51] from 39 (fun v wx => wx = W ∧ v = .bool false)
    case first =>
      by_cases hkz : k = Z.length
      · subst hkz
        gi_wp2_with fail
        gi_meet
        exact ⟨rfl, rfl⟩
      · obtain ⟨_, hks⟩ := hor.resolve_left hkz
        have m1 : ((k : Int) != (Z.length : Int)) = true := by simp; omega
        have m2 : ((k : Int) != stop) = false := by simp [hks]
        clear hks hkz
        gi_wp2_with fail
        gi_meet
        exact ⟨rfl, rfl⟩
    case rest =>
      obtain ⟨rfl, rfl⟩ := hcut
      gi_wp2_with fail
      obtain ⟨b7', hb7⟩ : ∃ b7', b7' = wc.heap.size := ⟨_, rfl⟩
      have hk0 : Keep w [(b7', #[.int .i64 1], 3), (w.heap.size, #[.slice A Z.length cap], 22), (w.heap.size + 1, #[.int .i64 stop], 3), (w.heap.size + 1 + 1, #[.bool false], 4)] [D] (wc.alloc (.cells #[.int .i64 1] 3)) := ((hk.kept ((Below.refl _ _).alloc (Nat.le_refl _) _)).less (fun y hy => List.mem_cons_of_mem _ (List.mem_cons_of_mem _ hy))).add (by rw [hb7]; exact Blk.new _ _ _)
      obtain ⟨W2, hW2⟩ : ∃ W2, W2 = wc.alloc (.cells #[.int .i64 1] 3) := ⟨_, rfl⟩
      rw [← hW2] at hk0
      rw [← hW2, ← hb7]
      have hge9 : w.heap.size + 2 < D := by have := hk1s; omega
      have hlD : D < W2.heap.size := (Array.getElem?_eq_some_iff.1 (hk0.marks D (by simp))).1
      clear hb7 hW2 hk hor hkZ a1 a2 a4 a5 a6 a7 a8 a9 a10 a11 hlt0 hge8 hD hgw hgs hk1s
      rw [roundsIn_succ]
      have d7 := hk0.blk (b7', #[.int .i64 1], 3) (by simp)
      have c7 := d7.cell 0 _ rfl
      have l7 := d7.lt
      have hlt7 : w.heap.size + 2 < W2.heap.size := (hk0.blk (w.heap.size + 1 + 1, #[.bool false], 4) (by simp)).lt
      have hlt0 : ∀ x ∈ ([(b7', #[.int .i64 1], 3), (w.heap.size, #[.slice A Z.length cap], 22), (w.heap.size + 1, #[.int .i64 stop], 3), (w.heap.size + 1 + 1, #[.bool false], 4)] : List (Nat × Array Value × TypeId)), x.1 ≠ W2.heap.size := fun x hx e => by have := (hk0.blk x hx).lt; omega
      gi_wp2_with fail
      clear c7 l7 d7
      have hk1 : Keep w ((W2.heap.size, #[.int .i64 (([] : List Cell).length : Int)], 3) :: [(b7', #[.int .i64 1], 3), (w.heap.size, #[.slice A Z.length cap], 22), (w.heap.size + 1, #[.int .i64 stop], 3), (w.heap.size + 1 + 1, #[.bool false], 4)]) [D] (W2.alloc (.cells #[.int .i64 0] 3)) := (hk0.kept ((Below.refl _ _).alloc (Nat.le_refl _) _)).add (Blk.new _ _ _)
      obtain ⟨b8, hb8⟩ : ∃ b8, b8 = W2.heap.size := ⟨_, rfl⟩
      obtain ⟨W1, hW1⟩ : ∃ W1, W1 = W2.alloc (.cells #[.int .i64 0] 3) := ⟨_, rfl⟩
      have hge8 : w.heap.size ≤ b8 := by rw [hb8]; exact hk0.below.size
      rw [← hb8] at hk1 hlt0
      rw [← hW1] at hk1
      rw [← hW1, ← hb8]
      have hgs : w.heap.size + 3 ≤ W1.heap.size := by have := hlt7; rw [hW1, World.size_alloc]; omega
      have hgw : W2.heap.size < W1.heap.size := by rw [hW1, World.size_alloc]; omega
      clear hb8 hW1 hk0 hlt7
      have e8 := hk1.blk (b8, #[.int .i64 (([] : List Cell).length : Int)], 3) (by simp)
      have nsx : ∀ b, Sx (fun k => k = b8) b8 W1 b → b = b8 := by
        rintro b (h | ⟨o, n, c, h⟩)
        · exact h
        · rw [e8.cell 0 _ rfl] at h; cases h
      have hseq := btab_stops 5 (by omega) (X := fun k => k = b8) (pb := b8) (x0.kept hk1.below) (x1.kept hk1.below) (x2.kept hk1.below) (fun h => by have := nsx _ h; have := x1.lt; omega) (fun h => by have := nsx _ h; have := x2.lt; omega) (fun b h => by rw [nsx b h]; exact e8.lt) e8.lt (hT.only (Only.of_below hk1.below))
      rw [← HZ.out] at hseq
      have hown : OwnFrom W1.heap.size (fun (pre : List Cell) W => Keep w ((b8, #[.int .i64 (pre.length : Int)], 3) :: [(b7', #[.int .i64 1], 3), (w.heap.size, #[.slice A Z.length cap], 22), (w.heap.size + 1, #[.int .i64 stop], 3), (w.heap.size + 1 + 1, #[.bool false], 4)]) [D] W ∧ W1.heap.size ≤ W.heap.size) :=
        OwnFrom.and (keep_own (fun (pre : List Cell) => (b8, #[.int .i64 (pre.length : Int)], 3) :: [(b7', #[.int .i64 1], 3), (w.heap.size, #[.slice A Z.length cap], 22), (w.heap.size + 1, #[.int .i64 stop], 3), (w.heap.size + 1 + 1, #[.bool false], 4)]) hk1.below.size (fun D hD => (Array.getElem?_eq_some_iff.1 (hk1.marks D hD)).1)) (fun _ _ _ _ h hg _ => Nat.le_trans h hg.size)
      refine range_meet6 (p := 17) (q := 9) (by omega) rfl hseq e8.lt (fun pre W => Keep w ((b8, #[.int .i64 (pre.length : Int)], 3) :: [(b7', #[.int .i64 1], 3), (w.heap.size, #[.slice A Z.length cap], 22), (w.heap.size + 1, #[.int .i64 stop], 3), (w.heap.size + 1 + 1, #[.bool false], 4)]) [D] W ∧ W1.heap.size ≤ W.heap.size)
        (fun c pre W => (c = .ret ∧ ¬ pre <+: Z) ∨ (c = .exit 2 ∧ (1 = 0) ∧ (pre.length : Int) = stop ∧ Keep w ((b8, #[.int .i64 (pre.length : Int)], 3) :: [(b7', #[.int .i64 1], 3), (w.heap.size, #[.slice A Z.length cap], 22), (w.heap.size + 1, #[.int .i64 stop], 3), (w.heap.size + 1 + 1, #[.bool false], 4)]) [D] W ∧ W1.heap.size ≤ W.heap.size))
        hown (fun c s A B row hs hg hr => hs.imp id fun ⟨h1, h2, h3, h4⟩ => ⟨h1, h2, h3, hown s A B row h4 hg hr⟩) ⟨hk1, Nat.le_refl _⟩ ?assign ?body
        (fun Dn W => W1.heap.size ≤ Dn ∧ ∃ k : Nat, k ≤ Z.length ∧ (k = Z.length ∨ ((1 = 0) ∧ (k : Int) = stop)) ∧ Keep w ((b8, #[.int .i64 (k : Int)], 3) :: [(b7', #[.int .i64 1], 3), (w.heap.size, #[.slice A Z.length cap], 22), (w.heap.size + 1, #[.int .i64 stop], 3), (w.heap.size + 1 + 1, #[.bool false], 4)]) (Dn :: [D]) W) 2
        (fun D W hD hi hk => ⟨hD, Z.length, Nat.le_refl _, .inl rfl, hi.1.mark hk⟩)
        (fun D c pre W hD hp hi hk => by
          rcases hi with ⟨_, hn⟩ | ⟨rfl, h2, h3, h4, _⟩
          · exact absurd hp hn
          · exact ⟨rfl, hD, pre.length, hp.length_le, .inr ⟨h2, h3⟩, h4.mark hk⟩) (fun pre W h => h.2) (by intro a w h; simpa [Exit.inBlock] using h) ?meet
      case assign =>
        intro l x W K hK
        unfold cellA at hK ⊢
        simp only [List.setIfInBounds_toArray, List.set_cons_succ, List.set_cons_zero] at hK ⊢
        gi_wp2
        exact hK
      case body =>
        rintro l pre x Bx W ⟨hk, hsz⟩ hB _ hlt
        clear hseq hown e8 nsx hk1
        unfold cellA at hB ⊢
        simp only [List.setIfInBounds_toArray, List.set_cons_succ, List.set_cons_zero]
        obtain ⟨y0, y1, y2, y3⟩ := cell4 hB
        have hBl := hB.lt
        clear hB
        have g8 := hk.blk (b8, #[.int .i64 (pre.length : Int)], 3) (by simp)
        have g7 := hk.blk (b7', #[.int .i64 1], 3) (by simp)
        have gw := hk.blk (w.heap.size, #[.slice A Z.length cap], 22) (by simp)
        have gs := hk.blk (w.heap.size + 1, #[.int .i64 stop], 3) (by simp)
        have g6 := hk.blk (w.heap.size + 1 + 1, #[.bool false], 4) (by simp)
        have a1 := g8.cell 0 _ rfl
        have a2 := g8.lt
        have a3 := g8.frozen 0
        have a4 := g7.cell 0 _ rfl
        have a5 := g7.lt
        have a6 := gw.cell 0 _ rfl
        have a7 := gw.lt
        have a8 := gs.cell 0 _ rfl
        have a9 := gs.lt
        have a10 := g6.cell 0 _ rfl
        have a11 := g6.lt
        have a12 := g6.frozen 0
        have hn7 : b7' ≠ b8 := hlt0 (b7', #[.int .i64 1], 3) (by simp)
        have hns : w.heap.size + 1 ≠ b8 := hlt0 (w.heap.size + 1, #[.int .i64 stop], 3) (by simp)
        obtain ⟨z, hz⟩ : ∃ z, Z[pre.length]? = some z := ⟨_, List.getElem?_eq_getElem hlt⟩
        obtain ⟨b, o, hA, hbl, z0, z1, z2, z3⟩ := (HW.out.kept hk.below).cell_at hz
        subst hA
        have i0 : (0 : Int) ≤ (pre.length : Int) := by omega
        have i1 : (pre.length : Int) < (Z.length : Int) := by omega
        have i3 : ¬ (Z.length ≤ pre.length) := by omega
        have i4 : decide (Z.length ≤ pre.length) = false := by simp; omega
        have i2 : IntKind.i64.wrap ((pre.length : Int) + 1) = (pre.length : Int) + 1 := IntWalk.i64_in _ (by omega)
        have HZz := Lib.hid hz
        have hne := cell_neq x z
        clear hz g8 g7 gw gs g6
        by_cases hxz : x = z
        · have hb : decide (x = z) = true := by simp [hxz]
          rw [hb] at hne
          clear hb hxz
          gi_wp2_with fail
          have he : (((pre ++ [x]).length : Nat) : Int) = (pre.length : Int) + 1 := by simp
          have HE := Lib.hid he
          clear he
          gi_wp2_with fail
          (refine region_quiet_round (F := Fence.wide) rfl (by kernel_rfl) (by kernel_rfl) (by kernel_rfl) ?_; (repeat (gi_big_quiet_step (fail))); refine wpQuietIn_nil ?_; intro _ hw'; obtain ⟨nq, hw''⟩ := hw'; subst hw'')
          have hkq := (hk.kept (below_drewN (Below.refl _ _) nq)).set (fun y hy => hlt0 y hy) hge8 (.int .i64 ((pre.length : Int) + 1))
          have hkp : KpC (fun k => k = b8) b8 W ((W.drewN nq).setCell ⟨b8, 0, none⟩ (.int .i64 ((pre.length : Int) + 1))) :=
            (KpC.of_below (below_drewN (Below.refl _ _) nq) a2).trans (KpC.setInt (X := fun k => k = b8) (b := b8) rfl _ _ ((hk.blk (b8, #[.int .i64 (pre.length : Int)], 3) (by simp)).kept (below_drewN (Below.refl _ _) nq)))
          gi_wp2_with fail
          exact ⟨(((keeps_drewN W nq).trans (KeepsOthers.setCell _ _ _)).from _), hkp, by rw [HE.out]; exact hkq, by simpa using hsz⟩
        · have hb : decide (x = z) = false := by simp [hxz]
          rw [hb] at hne
          have hnp : ¬ (pre ++ [x]) <+: Z := by
            rintro ⟨t, ht⟩
            have h1 := HZz.out
            rw [← ht] at h1
            simp at h1
            exact hxz h1
          have HNP := Lib.hid hnp
          clear hb hxz hnp
          gi_wp2_with fail
          (refine region_quiet_round (F := Fence.wide) rfl (by kernel_rfl) (by kernel_rfl) (by kernel_rfl) ?_; (repeat (gi_big_quiet_step (fail))); refine wpQuietIn_nil ?_; intro _ hw'; obtain ⟨nq, hw''⟩ := hw'; subst hw'')
          gi_wp2_with fail
          exact ⟨(((keeps_drewN W nq).trans (KeepsOthers.setCell _ _ _)).from _), .inl ⟨rfl, HNP.out⟩⟩
      case meet =>
        rintro D2 W ⟨hD, k, hkZ, hor, hk⟩
        have hk1s := Nat.le_trans hgs hD
        clear hseq hown e8 nsx hk1
        have g8 := hk.blk (b8, #[.int .i64 (k : Int)], 3) (by simp)
        have g7 := hk.blk (b7', #[.int .i64 1], 3) (by simp)
        have gw := hk.blk (w.heap.size, #[.slice A Z.length cap], 22) (by simp)
        have gs := hk.blk (w.heap.size + 1, #[.int .i64 stop], 3) (by simp)
        have g6 := hk.blk (w.heap.size + 1 + 1, #[.bool false], 4) (by simp)
        have a1 := g8.cell 0 _ rfl
        have a2 := g8.lt
        have a4 := g7.cell 0 _ rfl
        have a5 := g7.lt
        have a6 := gw.cell 0 _ rfl
        have a7 := gw.lt
        have a8 := gs.cell 0 _ rfl
        have a9 := gs.lt
        have a10 := g6.cell 0 _ rfl
        have a11 := g6.lt
        clear g8 g7 gw gs g6
        gi_upto_region 13 with fail
        gi_cut [51] from 39 (fun v wx => wx = W ∧ v = .bool false)
        case first =>
          by_cases hkz : k = Z.length
          · subst hkz
            gi_wp2_with fail
            gi_meet
            exact ⟨rfl, rfl⟩
          · exact absurd (hor.resolve_left hkz).1 (by decide)
        case rest =>
          obtain ⟨rfl, rfl⟩ := hcut
          gi_wp2_with fail
          rw [roundsIn_succ]
          have g7 := (hk.kept ((Below.refl _ _).alloc (Nat.le_refl _) (.cells #[.int .i64 2] 3)))
          have g6 := g7.blk (w.heap.size + 1 + 1, #[.bool false], 4) (by simp)
          have f1 := g6.lt
          have f2 := g6.frozen 0
          have f3 := g6.cell 0 _ rfl
          have hkF := ((hk.less (Bs' := [(w.heap.size + 1 + 1, #[.bool false], 4)]) (by simp)).set (by simp) (by omega) (.bool true)).kept ((Below.refl _ _).alloc (Nat.le_refl _) (.cells #[.int .i64 2] 3))
          gi_wp2_with fail
          refine leaves_marks (B := w.heap.size + 3) [D2, D] _ ?_ ?_ ?_ (fun W' hb => ⟨_, bgoes_result (b := w.heap.size + 1 + 1) rfl ((hkF.blk (w.heap.size + 1 + 1, #[.bool true], 4) (by simp)).below hb (by omega)), rfl, hkF.below.trans (hb.mono (by omega))⟩)
          · simp; omega
          · intro d hd
            refine ⟨hkF.marks d hd, ?_⟩
            simp at hd
            rcases hd with rfl | rfl <;> omega
          · have := (hkF.blk (w.heap.size + 1 + 1, #[.bool true], 4) (by simp)).lt
            omega

end Go.Proofs.Ytbcaiegglbdonaa
