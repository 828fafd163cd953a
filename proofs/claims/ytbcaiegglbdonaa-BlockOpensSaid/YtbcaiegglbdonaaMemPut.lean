/-
  mem.Put.
-/
import Derived.Test.YtbcaiegglbdonaaMemRaise
namespace Go.Proofs.Ytbcaiegglbdonaa
open Go.RowKit

def PutPost (w : World) (a hb : Nat) (A B : List Node) (c : Cell) (h : Nat) (sz : Int) (e : Ending) (w' : World) : Prop :=
  ∃ nb, e = .returned (.int .i64 0) ∧ w.heap.size ≤ nb ∧ Skip w' a hb (A ++ ⟨nb, c, h⟩ :: B) (sz + (c.key.size + c.val.size + 16 : Nat)) ∧ Only (foot a hb (A ++ B)) w w'

def cellArr (c : Cell) : Array Value := #[.string c.key, .int .u64 c.seq, .string c.val, .bool c.gone]
def PutRel (w : World) (a hb : Nat) (A B : List Node) (c : Cell) (h : Nat) (sz : Int) (cb lk nb : Nat) (v : Value) (wr : World) : Prop :=
  ∃ i : Nat, i ≤ h ∧ v = .int .i64 i ∧ Skip wr a hb (A ++ ⟨nb, c, i⟩ :: B) sz ∧ Blk wr lk (arr12 (outp hb A)) 103 ∧ Blk wr cb (cellArr c) 25 ∧ Only (foot a hb (A ++ B)) w wr
theorem tall_get (i : Nat) (A B : List Node) (nb : Nat) (c : Cell) (hl : (A ++ B).length ≤ 4611686018427387904) :
    ∃ t : Int, Hid (tall i (A ++ ⟨nb, c, i⟩ :: B) = t) ∧ 0 ≤ t ∧ t ≤ 4611686018427387905 := by
  refine ⟨_, Lib.hid rfl, by unfold tall; omega, ?_⟩
  have h := List.length_filter_le (fun n : Node => decide (i < n.h)) (A ++ ⟨nb, c, i⟩ :: B)
  simp only [List.length_append, List.length_cons] at h hl
  unfold tall
  omega
theorem put_lt {w : World} {a hb : Nat} {A B : List Node} {sz : Int} (hs : Skip w a hb (A ++ B) sz) (i : Nat) : lastAt i hb A < w.heap.size := by
  rcases lastAt_foot i hb A with h | ⟨n, hn, h⟩
  · rw [h]; exact hs.head.lt
  · rw [← h]; exact hs.foot_lt (.inr (.inr ⟨n, by simp [hn], rfl⟩))
theorem Blk.drewN {w : World} {b : Nat} {arr : Array Value} {t : TypeId} (h : Blk w b arr t) (n : Nat) : Blk (w.drewN n) b arr t := h
theorem Blk.new' (w : World) (arr : Array Value) (t : TypeId) {n : Nat} (hn : n = w.heap.size) : Blk (w.alloc (.cells arr t)) n arr t := by subst hn; exact Blk.new ..
theorem Skip.drew {w : World} {a hb : Nat} {L : List Node} {sz : Int} (h : Skip w a hb L sz) : Skip w.drew a hb L sz := ⟨h.mem, h.head, h.nodes.imp fun _ _ _ hB => hB, h.nodup, h.hts⟩
theorem PutRel.drew {w : World} {a hb : Nat} {A B : List Node} {c : Cell} {h : Nat} {sz : Int} {cb lk nb : Nat} {v : Value} {wr : World} (hr : PutRel w a hb A B c h sz cb lk nb v wr) : PutRel w a hb A B c h sz cb lk nb v wr.drew := by
  obtain ⟨i, h1, h2, h3, h4, h5, h6⟩ := hr
  exact ⟨i, h1, h2, h3.drew, h4, h5, h6.drew⟩
theorem put_close {w wr : World} {a hb : Nat} {A B : List Node} {c : Cell} {h : Nat} {sz : Int} {cb lk nb i : Nat} {t : Int} (hs : Skip w a hb (A ++ B) sz) (hsk : Skip wr a hb (A ++ ⟨nb, c, i⟩ :: B) sz) (hlk : Blk wr lk (arr12 (outp hb A)) 103) (hcb : Blk wr cb (cellArr c) 25)
    (hon : Only (foot a hb (A ++ B)) w wr) (hih : i < h) (h12 : h ≤ 12) (hcw : w.heap.size ≤ cb) (hlw : w.heap.size ≤ lk) (hnw : w.heap.size ≤ nb) (hln : lk ≠ nb) (hcn : cb ≠ nb) (ht : tall i (A ++ ⟨nb, c, i⟩ :: B) = t) :
    PutRel w a hb A B c h sz cb lk nb (.int .i64 ((i : Int) + 1)) (((wr.setCell ⟨nb, 4 + i, none⟩ (.pointer (Option.map (fun b => ⟨b, 0, none⟩) (nxt i B)))).setCell ⟨lastAt i hb A, 4 + i, none⟩ (.pointer (some ⟨nb, 0, none⟩))).setCell ⟨a, 1 + i, none⟩ (.int .i64 (t + 1))) := by
  have hp := put_lt hs i
  have ha : a < w.heap.size := hs.mem.lt
  subst ht
  refine ⟨i + 1, by omega, by simp, hsk.raise (by omega), ((hlk.setCell_ne hln _ _).setCell_ne (by omega) _ _).setCell_ne (by omega) _ _, ((hcb.setCell_ne hcn _ _).setCell_ne (by omega) _ _).setCell_ne (by omega) _ _, ?_⟩
  refine ((hon.setCell (.inr hnw) _ _).setCell (.inl ?_) _ _).setCell (.inl (.inl rfl)) _ _
  rcases lastAt_foot i hb A with h | ⟨n, hn, h⟩
  · exact .inr (.inl h)
  · exact .inr (.inr ⟨n, by simp [hn], h⟩)
theorem put_end {wr : World} {a hb : Nat} {L : List Node} {c : Cell} {sz : Int} (hsk : Skip wr a hb L sz) :
    Skip (wr.setCell ⟨a, 13, none⟩ (.int .i64 (sz + ((c.key.size : Int) + c.val.size + 16)))).drew a hb L (sz + (c.key.size + c.val.size + 16 : Nat)) := by
  have nd := hsk.nodup
  simp only [List.nodup_cons, List.mem_cons, List.mem_map] at nd
  refine ⟨?_, hsk.head.setCell_ne (fun e => nd.1 (.inl e.symm)) _ _, hsk.nodes.imp fun n hn _ hB => hB.setCell_ne (fun e => nd.1 (.inr ⟨n, hn, e⟩)) _ _, hsk.nodup, hsk.hts⟩
  have h := hsk.mem.setCell 13 (.int .i64 (sz + ((c.key.size : Int) + c.val.size + 16)))
  rw [memArr_size] at h
  rw [show sz + (c.key.size + c.val.size + 16 : Nat) = sz + ((c.key.size : Int) + c.val.size + 16) by omega]
  exact h
theorem check_sizes {c : Cell} (h : checkN c = 0) : c.key.size ≤ 128 ∧ c.val.size ≤ 1024 := by
  unfold checkN at h
  split at h
  · rename_i h'; exact ⟨h'.2.1, h'.2.2.1⟩
  · cases h
theorem put_two {w w1 w2 : World} {o : Obj} (h1 : Below (w.alloc o).heap.size (w.alloc o) w1) (h2 : Below w1.heap.size w1 w2) : Below w.heap.size w w2 :=
  (((Below.refl _ _).alloc (Nat.le_refl _) o).trans (h1.mono (by simp))).trans (h2.mono (by have := h1.size; simp at this; omega))
theorem put_three {w w1 w2 w3 : World} {o o' : Obj} (h1 : Below (w.alloc o).heap.size (w.alloc o) w1) (h2 : Below w1.heap.size w1 w2) (h3 : Below (w2.alloc o').drew.heap.size (w2.alloc o').drew w3) : Below w.heap.size w w3 :=
  ((put_two h1 h2).alloc (put_two h1 h2).size o').drew.trans (h3.mono (by have := (put_two h1 h2).size; simp; omega))
/-- A region that draws: n operations that read, then a tail in one order. -/
theorem region_tail {P : Program} {id : Nat} {Q : Exit → Act → World → Prop} {a : Act} {w : World} {l : List Oper} (n : Nat) (hm : P.follows .mixedOrders = true) (hB : Region.lexTailB .any l.toArray n = true)
    (h : wpStill P l.toArray w.drew (fun a' => wpList P l.toArray Q (l.drop n) a' w.drew) (l.take n) a) : (Code.region id l.toArray true).wp P Q a w := wp_region_still_tail n hm hB h
theorem cell4 {w : World} {b : Nat} {v0 v1 v2 v3 : Value} {t : TypeId} (h : Blk w b #[v0, v1, v2, v3] t) :
    w.cell? ⟨b, 0, none⟩ = some v0 ∧ w.cell? ⟨b, 1, none⟩ = some v1 ∧ w.cell? ⟨b, 2, none⟩ = some v2 ∧ w.cell? ⟨b, 3, none⟩ = some v3 :=
  ⟨h.cell 0 _ rfl, h.cell 1 _ rfl, h.cell 2 _ rfl, h.cell 3 _ rfl⟩
set_option maxRecDepth 100000 in
set_option maxHeartbeats 1000000 in
theorem put_new {w : World} {a hb : Nat} {A B : List Node} {sz : Int} (hs : Skip w a hb (A ++ B) sz) (hh : ∀ n ∈ A ++ B, 1 ≤ n.h) (c : Cell) (hc : checkN c = 0) (h : Nat) (h1 : 1 ≤ h) (h12 : h ≤ 12)
    (hA : ∀ n ∈ A, lessC n.c c.key c.seq < 0) (hB : ∀ n ∈ B, 0 < lessC n.c c.key c.seq) (hz0 : 0 ≤ sz) (hz1 : sz ≤ 4611686018427387904) (hl1 : (A ++ B).length ≤ 4611686018427387904) :
    Calls Try.prog 22 #[.pointer (some ⟨a, 0, none⟩), .agg #[.string c.key, .int .u64 c.seq, .string c.val, .bool c.gone], .int .i64 h] w (PutPost w a hb A B c h sz) := by
  have hm0 : w.cell? ⟨a, 0, none⟩ = some (.pointer (some ⟨hb, 0, none⟩)) := hs.mem.cell 0 _ rfl
  have ha : a < w.heap.size := hs.mem.lt
  obtain ⟨cp, fp, hbp, hfp⟩ := lastAt_blk hs (l := 0) (by omega)
  have hcn := hbp.cell 4 _ (nodeArr_get cp fp (i := 0) (by omega))
  have hpl := hbp.lt
  rw [hfp, nxt0 fun n hn => hh n (by simp [hn])] at hcn
  clear hfp hbp
  have hout : outAgg hb A = .agg #[.pointer (some ⟨lastAt 0 hb A, 0, none⟩), .pointer (some ⟨lastAt 1 hb A, 0, none⟩), .pointer (some ⟨lastAt 2 hb A, 0, none⟩), .pointer (some ⟨lastAt 3 hb A, 0, none⟩), .pointer (some ⟨lastAt 4 hb A, 0, none⟩), .pointer (some ⟨lastAt 5 hb A, 0, none⟩), .pointer (some ⟨lastAt 6 hb A, 0, none⟩), .pointer (some ⟨lastAt 7 hb A, 0, none⟩), .pointer (some ⟨lastAt 8 hb A, 0, none⟩), .pointer (some ⟨lastAt 9 hb A, 0, none⟩), .pointer (some ⟨lastAt 10 hb A, 0, none⟩), .pointer (some ⟨lastAt 11 hb A, 0, none⟩)] := rfl
  have hahead := fun W hsk => @ahead_spec W a hb A B sz hsk c.key c.seq hA (fun n hn => Int.le_of_lt (hB n hn))
  rw [hout] at hahead
  clear hout
  have HA := Lib.hid hahead
  clear hahead
  have hcheck := fun W => check_spec c W
  rw [hc] at hcheck
  have HC := Lib.hid hcheck
  obtain ⟨hks, hvs⟩ := check_sizes hc
  clear hcheck hc
  have hi1 : (1 : Int) ≤ (h : Int) := by omega
  have hi12 : (h : Int) ≤ 12 := by omega
  cases B with
  | nil =>
    have hcn' : w.cell? ⟨lastAt 0 hb A, 4, none⟩ = some (.pointer none) := hcn
    have HN : ∀ w2, Below w.heap.size w w2 → w2.cell? ⟨lastAt 0 hb A, 4, none⟩ = some (.pointer none) := fun w2 hb2 => (hb2.cell (p := ⟨lastAt 0 hb A, 4, none⟩) hpl).trans hcn'
    clear hcn hcn'
    have HN' := Lib.hid HN
    clear HN
    go_enter Try.func22, Try.ntmps22
    go_wp2_with (first | (go_at_call 73; refine (made_yes (p := ⟨hb, 0, none⟩) ?_).mono ?_; (go_simp); rintro e w' ⟨rfl, rfl⟩) | (go_at_call 74; refine (HC.out _).mono ?_; rintro e w1 ⟨rfl, hb1⟩; obtain ⟨x0, x1, x2, x3⟩ := cell4 ((Blk.new w _ _).kept hb1)) | (go_at_call 75; refine (HA.out _ ((hs.kept ((Below.refl _ _).alloc (Nat.le_refl _) _)).kept hb1)).mono ?_; rintro e w2 ⟨rfl, hb2⟩; obtain ⟨x0, x1, x2, x3⟩ := cell4 (((Blk.new w _ _).kept hb1).kept hb2); have hcn2 := HN'.out w2 (put_two hb1 hb2); have hpl2 := Nat.lt_of_lt_of_le hpl (put_two hb1 hb2).size; have hsz2 : w.heap.size < w2.heap.size := (((Blk.new w _ _).kept hb1).kept hb2).lt))
    go_quiet (fail)
    go_wp2
    go_loopw [56] (PutRel w a hb A [] c h sz w.heap.size w2.heap.size (w2.heap.size + 1)) (fun i _ => h - (intOf i).toNat)
    case atStart =>
      exact ⟨0, by omega, rfl, (hs.add_zero ((below_drewN ((put_two hb1 hb2).alloc (by omega) _) nq).alloc (by simp; omega) _) (by omega) c (Blk.new' _ _ _ (by simp))), ((Blk.new w2 (arr12 (outp hb A)) 103).drewN nq).alloc _, ((((((Blk.new w (cellArr c) 25).kept hb1).kept hb2)).alloc _).drewN nq).alloc _,
        Only.of_below ((below_drewN ((put_two hb1 hb2).alloc (by omega) _) nq).alloc (by simp; omega) _)⟩
    case round =>
      obtain ⟨i, hi, rfl, hsk, hlk, hcb, hon⟩ := hrel
      by_cases hih : i < h
      · obtain ⟨n1, n2, n3, n4, n5⟩ := hsk.ne i
        obtain ⟨cq, fq, hbq, hfq⟩ := lastAt_blk hsk (l := i) (by omega)
        have hq := hbq.cell (4 + i) _ (nodeArr_get cq fq (i := i) (by omega))
        have hqf := hbq.frozen
        have hql := hbq.lt
        rw [hfq, nxt_cons, if_neg (Nat.lt_irrefl i)] at hq
        unfold ptrv at hq
        clear hbq hfq
        have hn0 := hsk.nodes.at_.cell (4 + i) _ (nodeArr_get _ _ (i := i) (by omega))
        have hnf := hsk.nodes.at_.frozen
        have hl0 : wr.cell? ⟨w2.heap.size, i, none⟩ = some (.pointer (some ⟨lastAt i hb A, 0, none⟩)) := hlk.cell i _ (arr12_get _ (by omega))
        have hc0 : wr.cell? ⟨a, 1 + i, none⟩ = some (.int .i64 (tall i (A ++ ⟨w2.heap.size + 1, c, i⟩ :: []))) := hsk.mem.cell (1 + i) _ (memArr_get _ _ _ (i := i) (by omega))
        have hcf := hsk.mem.frozen
        have hi' : (i : Int) < (h : Int) := by omega
        have hi12' : i < 12 := by omega
        have hi12i : (i : Int) < 12 := by omega
        have hi0i : (0 : Int) ≤ (i : Int) := by omega
        have e1 : w2.heap.size ≠ w2.heap.size + 1 := by omega
        have hpw := put_lt hs i
        have e2 : w2.heap.size ≠ lastAt i hb A := by omega
        have e3 : w2.heap.size ≠ a := by omega
        obtain ⟨t, HT, ht0, ht1⟩ := tall_get i A [] (w2.heap.size + 1) c hl1
        rw [HT.out] at hc0
        have hts : IntKind.i64.wrap (t + 1) = t + 1 := IntWalk.i64_in _ (by omega)
        go_wp2
        refine region_tail 12 (by kernel_rfl) (by kernel_rfl) ?_
        simp only [List.take_succ_cons, List.take_zero, List.drop_succ_cons, List.drop_zero]
        repeat still_step
        refine wpStill_nil ?_
        go_wp2
        refine region_tail 9 (by kernel_rfl) (by kernel_rfl) ?_
        simp only [List.take_succ_cons, List.take_zero, List.drop_succ_cons, List.drop_zero]
        repeat still_step
        refine wpStill_nil ?_
        go_wp2
        go_roundw
        case rel => exact (put_close (t := t) hs hsk hlk hcb hon hih h12 (by omega) (by omega) (by omega) e1 (by omega) HT.out).drew.drew
        case measure => simp [intOf]; omega
      · obtain rfl : i = h := by omega
        obtain ⟨z0, z1, z2, z3⟩ := cell4 hcb
        have hsz : wr.cell? ⟨a, 13, none⟩ = some (.int .i64 sz) := hsk.mem.cell 13 _ rfl
        have hcf := hsk.mem.frozen
        have hs1 : IntKind.i64.wrap ((c.key.size : Int) + c.val.size) = (c.key.size : Int) + c.val.size := IntWalk.i64_in _ (by omega)
        have hs2 : IntKind.i64.wrap ((c.key.size : Int) + c.val.size + 16) = (c.key.size : Int) + c.val.size + 16 := IntWalk.i64_in _ (by omega)
        have hs3 : IntKind.i64.wrap (sz + ((c.key.size : Int) + c.val.size + 16)) = sz + ((c.key.size : Int) + c.val.size + 16) := IntWalk.i64_in _ (by omega)
        go_wp2
        refine region_tail 13 (by kernel_rfl) (by kernel_rfl) ?_
        simp only [List.take_succ_cons, List.take_zero, List.drop_succ_cons, List.drop_zero]
        repeat still_step
        refine wpStill_nil ?_
        go_wp2
        go_ret
        exact ⟨w2.heap.size + 1, rfl, by omega, put_end hsk, (hon.setCell (.inl (.inl rfl)) _ _).drew⟩
  | cons n B =>
    have hcn' : w.cell? ⟨lastAt 0 hb A, 4, none⟩ = some (.pointer (some ⟨n.b, 0, none⟩)) := hcn
    have hnB := hs.nodes.at_
    have hlB := hB n (by simp)
    have hneq : (cellCmp n.c.key n.c.seq c.key c.seq == 0) = false := by
      have : cellCmp n.c.key n.c.seq c.key c.seq ≠ 0 := by unfold lessC at hlB; omega
      simpa using this
    clear hlB
    have HN : ∀ w2, Below w.heap.size w w2 → w2.cell? ⟨lastAt 0 hb A, 4, none⟩ = some (.pointer (some ⟨n.b, 0, none⟩)) := fun w2 hb2 => (hb2.cell (p := ⟨lastAt 0 hb A, 4, none⟩) hpl).trans hcn'
    clear hcn hcn'
    have HN' := Lib.hid HN
    clear HN
    go_enter Try.func22, Try.ntmps22
    go_wp2_with (first | (go_at_call 73; refine (made_yes (p := ⟨hb, 0, none⟩) ?_).mono ?_; (go_simp); rintro e w' ⟨rfl, rfl⟩) | (go_at_call 74; refine (HC.out _).mono ?_; rintro e w1 ⟨rfl, hb1⟩; obtain ⟨x0, x1, x2, x3⟩ := cell4 ((Blk.new w _ _).kept hb1)) | (go_at_call 75; refine (HA.out _ ((hs.kept ((Below.refl _ _).alloc (Nat.le_refl _) _)).kept hb1)).mono ?_; rintro e w2 ⟨rfl, hb2⟩; obtain ⟨x0, x1, x2, x3⟩ := cell4 (((Blk.new w _ _).kept hb1).kept hb2); have hcn2 := HN'.out w2 (put_two hb1 hb2); have hpl2 := Nat.lt_of_lt_of_le hpl (put_two hb1 hb2).size; have hsz2 : w.heap.size < w2.heap.size := (((Blk.new w _ _).kept hb1).kept hb2).lt; obtain ⟨k0, k1, k2, k3⟩ := nodeArr_cells (hnB.kept (put_two hb1 hb2)); have hnl := (hnB.kept (put_two hb1 hb2)).lt))
    refine region_tail 11 (by kernel_rfl) (by kernel_rfl) ?_
    simp only [List.take_succ_cons, List.take_zero, List.drop_succ_cons, List.drop_zero]
    repeat still_step
    refine wpStill_nil ?_
    go_wp2_with (go_at_call 76; refine (mem_compare _ _ _ _ _ _ _).mono ?_; rintro e w3 ⟨rfl, hb3⟩; have hb3' := put_three hb1 hb2 hb3; obtain ⟨x0, x1, x2, x3⟩ := cell4 (((((Blk.new w _ _).kept hb1).kept hb2).alloc _).drew.kept hb3); have hsz3 := hb3.size; simp only [World.size_drew, World.size_alloc] at hsz3)
    go_loopw [56] (PutRel w a hb A (n :: B) c h sz w.heap.size w2.heap.size (w3.heap.size)) (fun i _ => h - (intOf i).toNat)
    case atStart =>
      exact ⟨0, by omega, rfl, (hs.add_zero (hb3'.alloc (by omega) _) (by omega) c (Blk.new _ _ _)), ((Blk.new w2 (arr12 (outp hb A)) 103).drew.kept hb3).alloc _, (((((Blk.new w (cellArr c) 25).kept hb1).kept hb2).alloc _).drew.kept hb3).alloc _,
        Only.of_below (hb3'.alloc (by omega) _)⟩
    case round =>
      obtain ⟨i, hi, rfl, hsk, hlk, hcb, hon⟩ := hrel
      by_cases hih : i < h
      · obtain ⟨n1, n2, n3, n4, n5⟩ := hsk.ne i
        obtain ⟨cq, fq, hbq, hfq⟩ := lastAt_blk hsk (l := i) (by omega)
        have hq := hbq.cell (4 + i) _ (nodeArr_get cq fq (i := i) (by omega))
        have hqf := hbq.frozen
        have hql := hbq.lt
        rw [hfq, nxt_cons, if_neg (Nat.lt_irrefl i)] at hq
        unfold ptrv at hq
        clear hbq hfq
        have hn0 := hsk.nodes.at_.cell (4 + i) _ (nodeArr_get _ _ (i := i) (by omega))
        have hnf := hsk.nodes.at_.frozen
        have hl0 : wr.cell? ⟨w2.heap.size, i, none⟩ = some (.pointer (some ⟨lastAt i hb A, 0, none⟩)) := hlk.cell i _ (arr12_get _ (by omega))
        have hc0 : wr.cell? ⟨a, 1 + i, none⟩ = some (.int .i64 (tall i (A ++ ⟨w3.heap.size, c, i⟩ :: n :: B))) := hsk.mem.cell (1 + i) _ (memArr_get _ _ _ (i := i) (by omega))
        have hcf := hsk.mem.frozen
        have hi' : (i : Int) < (h : Int) := by omega
        have hi12' : i < 12 := by omega
        have hi12i : (i : Int) < 12 := by omega
        have hi0i : (0 : Int) ≤ (i : Int) := by omega
        have e1 : w2.heap.size ≠ w3.heap.size := by omega
        have hpw := put_lt hs i
        have e2 : w2.heap.size ≠ lastAt i hb A := by omega
        have e3 : w2.heap.size ≠ a := by omega
        obtain ⟨t, HT, ht0, ht1⟩ := tall_get i A (n :: B) (w3.heap.size) c hl1
        rw [HT.out] at hc0
        have hts : IntKind.i64.wrap (t + 1) = t + 1 := IntWalk.i64_in _ (by omega)
        go_wp2
        refine region_tail 12 (by kernel_rfl) (by kernel_rfl) ?_
        simp only [List.take_succ_cons, List.take_zero, List.drop_succ_cons, List.drop_zero]
        repeat still_step
        refine wpStill_nil ?_
        go_wp2
        refine region_tail 9 (by kernel_rfl) (by kernel_rfl) ?_
        simp only [List.take_succ_cons, List.take_zero, List.drop_succ_cons, List.drop_zero]
        repeat still_step
        refine wpStill_nil ?_
        go_wp2
        go_roundw
        case rel => exact (put_close (t := t) hs hsk hlk hcb hon hih h12 (by omega) (by omega) (by omega) e1 (by omega) HT.out).drew.drew
        case measure => simp [intOf]; omega
      · obtain rfl : i = h := by omega
        obtain ⟨z0, z1, z2, z3⟩ := cell4 hcb
        have hsz : wr.cell? ⟨a, 13, none⟩ = some (.int .i64 sz) := hsk.mem.cell 13 _ rfl
        have hcf := hsk.mem.frozen
        have hs1 : IntKind.i64.wrap ((c.key.size : Int) + c.val.size) = (c.key.size : Int) + c.val.size := IntWalk.i64_in _ (by omega)
        have hs2 : IntKind.i64.wrap ((c.key.size : Int) + c.val.size + 16) = (c.key.size : Int) + c.val.size + 16 := IntWalk.i64_in _ (by omega)
        have hs3 : IntKind.i64.wrap (sz + ((c.key.size : Int) + c.val.size + 16)) = sz + ((c.key.size : Int) + c.val.size + 16) := IntWalk.i64_in _ (by omega)
        go_wp2
        refine region_tail 13 (by kernel_rfl) (by kernel_rfl) ?_
        simp only [List.take_succ_cons, List.take_zero, List.drop_succ_cons, List.drop_zero]
        repeat still_step
        refine wpStill_nil ?_
        go_wp2
        go_ret
        exact ⟨w3.heap.size, rfl, by omega, put_end hsk, (hon.setCell (.inl (.inl rfl)) _ _).drew⟩

end Go.Proofs.Ytbcaiegglbdonaa
