/-
  mem.Scan's iterator: what it goes over, for every loop body that leaves alone the memory that is not its own.
-/
import Derived.Test.YtbcaiegglbdonaaMemSame
import Derived.RangeFuncNested
import Derived.RangeFuncBound
import Derived.RangeFuncCalls
import Derived.RangeFuncLeaves
import Derived.Shelf.Abstract
import Derived.WalkKit
import Derived.OwnWalkIn
import Derived.TacticsInMore
import Derived.LoopNIn
import Derived.LoopIn
namespace Go.Proofs.Ytbcaiegglbdonaa
open Go.RowKit Go.Shelf
attribute [local go_sem] Oper.semAt_some

/-! ### What a round keeps -/
/-- The caller's own blocks: those of X, and the block of the slice that the variable pb holds. -/
def Sx (X : Nat → Prop) (pb : Nat) (W : World) (b : Nat) : Prop := X b ∨ ∃ o n c, W.cell? ⟨pb, 0, none⟩ = some (.slice (some ⟨b, o, none⟩) n c)
structure KpC (X : Nat → Prop) (pb : Nat) (W W' : World) : Prop where
  size : W.heap.size ≤ W'.heap.size
  block : ∀ b o, ¬ Sx X pb W b → W.heap[b]? = some o → o.isCells = true → W'.heap[b]? = some o
  sub : ∀ b, b < W.heap.size → Sx X pb W' b → Sx X pb W b
theorem KpC.refl (X : Nat → Prop) (pb : Nat) (W : World) : KpC X pb W W := ⟨Nat.le_refl _, fun _ _ _ h _ => h, fun _ _ h => h⟩
theorem KpC.trans {X : Nat → Prop} {pb : Nat} {A B C : World} (h : KpC X pb A B) (k : KpC X pb B C) : KpC X pb A C :=
  ⟨Nat.le_trans h.size k.size, fun b o hn hb ho => k.block b o (fun hs => hn (h.sub b (lt_of_block hb) hs)) (h.block b o hn hb ho) ho, fun b hb hs => h.sub b hb (k.sub b (Nat.lt_of_lt_of_le hb h.size) hs)⟩
theorem KpC.of_below {X : Nat → Prop} {pb : Nat} {W W' : World} (hb : Below W.heap.size W W') (hp : pb < W.heap.size) : KpC X pb W W' :=
  ⟨hb.size, fun b o _ h _ => (hb.block b (lt_of_block h)).trans h, fun b _ hs => hs.imp id fun ⟨o, n, c, h⟩ => ⟨o, n, c, by rw [← hb.cell (p := ⟨pb, 0, none⟩) hp]; exact h⟩⟩
theorem kpC_b {X : Nat → Prop} {pb : Nat} {w : World} (hp : pb < w.heap.size) (W : World) (l : Nat) (o o' : Obj) (hl : w.heap.size ≤ l) (h : W.heap[l]? = some o) (ho : o.isCells = false) (_ : o.isWalk = false) : KpC X pb W (W.putObj l o') := by
  have hg := grownBy_putObj' W l o'
  refine ⟨hg.size, fun b o2 _ hb hc => (hg.block b (lt_of_block hb) (fun e => ?_)).trans hb, fun b _ hs => hs.imp id fun ⟨x, n, c, h⟩ => ⟨x, n, c, ?_⟩⟩
  · cases e; rw [h] at hb; cases hb; rw [ho] at hc; cases hc
  · have : (W.putObj l o').heap[pb]? = W.heap[pb]? := World.putObj_heap_other (by omega)
    simpa [World.cell?, this] using h
theorem Blk.kp {X : Nat → Prop} {pb : Nat} {W W' : World} {b : Nat} {arr : Array Value} {t : TypeId} (h : Blk W b arr t) (hk : KpC X pb W W') (hn : ¬ Sx X pb W b) : Blk W' b arr t := hk.block b _ hn h rfl
theorem KpC.own {X : Nat → Prop} {pb : Nat} {W W' : World} {B e k n : Nat} {v : Value} {xs : List Value} (h : W.ownsRow B e k v n xs) (hk : KpC X pb W W') (hn : ∀ g, v.ownBlock = some g → ¬ Sx X pb W g) : W'.ownsRow B e k v n xs := by
  obtain ⟨h1, h2⟩ := h
  refine ⟨h1, h2.imp id ?_⟩
  rintro ⟨g, cap, cur, rfl, hB, hg, hr⟩
  exact ⟨g, cap, cur, rfl, hB, hk.block g _ (hn g rfl) hg rfl, hr⟩

/-! ### What it goes over -/
def scanL (fr to : ByteArray) : List Cell → List Cell
  | [] => []
  | c :: cs => if Op.bytesLess c.key.toList fr.toList = true then scanL fr to cs else if to.toList ≠ [] ∧ Op.bytesLess c.key.toList to.toList = false then [] else c :: scanL fr to cs
def ScanRel (J : List Cell → World → Prop) (X : Nat → Prop) (pb b1 b2 : Nat) (fr to : ByteArray) (cs : List Cell) (v : Value) (i : Value) (wr : World) : Prop :=
  ∃ (k : Nat) (pre : List Cell), k ≤ cs.length ∧ i = .int .i64 k ∧ scanL fr to cs = pre ++ scanL fr to (cs.drop k) ∧ J pre wr ∧ Blk wr b1 #[.string fr] 9 ∧ Blk wr b2 #[.string to] 9 ∧ ¬ Sx X pb wr b1 ∧ ¬ Sx X pb wr b2 ∧
    pb < wr.heap.size ∧
    (∃ B, wr.ownsRow B 25 4 v cs.length (cellVals cs)) ∧ ∀ g, v.ownBlock = some g → ¬ Sx X pb wr g

set_option maxRecDepth 100000 in
set_option maxHeartbeats 1000000 in
theorem scan1_any (n : Nat) (hn : 1 ≤ n) (l : Nat) (X : Nat → Prop) (pb b0 b1 b2 : Nat) (p : Value) (cs : List Cell) (fr to : ByteArray) (J Jx : List Cell → World → Prop) (W : World)
    (hJ : AbidesFrom W.heap.size J)
    (hY : ∀ pre x W1, J pre W1 → pre.length < (scanL fr to cs).length → YieldAt Fence.wide (n - 1) Try.prog l #[.agg #[.string x.key, .int .u64 x.seq, .string x.val, .bool x.gone]] W1 fun e W' =>
      (e = .returned (.bool true) ∧ J (pre ++ [x]) W' ∧ KpC X pb W1 W') ∨ (e = .returned (.bool false) ∧ Jx (pre ++ [x]) W'))
    (h0 : Blk W b0 #[p] 26) (h1 : Blk W b1 #[.string fr] 9) (h2 : Blk W b2 #[.string to] 9) (n1 : ¬ Sx X pb W b1) (n2 : ¬ Sx X pb W b2) (hS : ∀ b, Sx X pb W b → b < W.heap.size) (hpb : pb < W.heap.size)
    (hcs : Calls Try.prog 24 #[p] W (CellsPost W cs)) (hcb : cs.length ≤ 2932031007403) (hp1 : ∃ q, p = .pointer q) (hj0 : J [] W) :
    CallsIn Fence.wide n Try.prog 77 #[.func (.yield l) #[] #[], .pointer (some ⟨b0, 0, none⟩), .pointer (some ⟨b1, 0, none⟩), .pointer (some ⟨b2, 0, none⟩)] W fun e W' => (∃ v, e = .returned v) ∧
      ((∃ ys, ys = scanL fr to cs ∧ J ys W') ∨ (∃ pre, pre <+: scanL fr to cs ∧ Jx pre W')) := by
  obtain ⟨q, rfl⟩ := hp1
  have c0 : W.cell? ⟨b0, 0, none⟩ = some (.pointer q) := h0.cell 0 _ rfl
  have l0 := h0.lt
  refine callsIn_of_wp Try.func77 rfl trivial ?_ rfl
  simp only [Try.ntmps77, List.size_toArray, List.length_cons, List.length_nil, Nat.reduceAdd, Nat.reduceSub, Array.replicate_succ, Array.replicate_zero, List.push_toArray, List.append_toArray, List.nil_append, List.cons_append]
  have hn1 : 1 ≤ n - 1 + 1 := by omega
  gi_wp2_with (first | (refine ⟨trivial, ?_⟩; gi_at_call 24; refine (callsIn_wide.2 hcs).mono ?_; rintro e w' ⟨v, rfl, hown, hbel⟩; obtain ⟨A, cap, rfl⟩ := (Reads.of_own hown).form))
  have hsx : ∀ b, Sx X pb w' b → b < W.heap.size := fun b hs => hS b (hs.imp id fun ⟨o, x, c, h⟩ => ⟨o, x, c, by rw [← hbel.cell (p := ⟨pb, 0, none⟩) hpb]; exact h⟩)
  have hk0 : KpC X pb W w' := KpC.of_below hbel hpb
  gi_loopw [10] (ScanRel J X pb b1 b2 fr to cs (.slice A cs.length cap)) (fun i _ => cs.length - (intOf i).toNat)
  case atStart =>
    exact ⟨0, [], Nat.zero_le _, rfl, rfl, hJ _ _ _ none hj0 ⟨hbel.os, hbel.tape, hbel.output, hbel.size, fun k hk _ => hbel.block k hk⟩ (fun r e => by cases e), h1.kept hbel, h2.kept hbel, fun h => n1 (hk0.sub _ h1.lt h), fun h => n2 (hk0.sub _ h2.lt h), Nat.lt_of_lt_of_le hpb hbel.size, ⟨_, hown⟩,
      fun g hg h => by have := hsx g h; have := (hown.lt g hg).1; omega⟩
  case round =>
    obtain ⟨k, pre, hk, rfl, hsc, hJr, r1, r2, m1, m2, hpw, ⟨B, how⟩, hAo⟩ := hrel
    by_cases hlt : k < cs.length
    · obtain ⟨x, hx⟩ : ∃ x, cs[k]? = some x := ⟨_, List.getElem?_eq_getElem hlt⟩
      obtain ⟨b, o, rfl, g1, p0, p1, p2, p3⟩ := (Reads.of_own how).cell_at hx
      have i1 : (k : Int) < (cs.length : Int) := by omega
      have i0 : (0 : Int) ≤ (k : Int) := by omega
      have hJ1 : J pre (wr.alloc (.cells #[.string x.key, .int .u64 x.seq, .string x.val, .bool x.gone] 25)) := hJ _ _ _ none hJr (World.grownBy_alloc _ _ none) (fun r e => by cases e)
      have hka : KpC X pb wr (wr.alloc (.cells #[.string x.key, .int .u64 x.seq, .string x.val, .bool x.gone] 25)) := KpC.of_below ((Below.refl _ _).alloc (Nat.le_refl _) _) hpw
      have hdr : cs.drop k = x :: cs.drop (k + 1) := by rw [List.drop_eq_getElem_cons hlt]; congr; simpa [List.getElem?_eq_getElem hlt] using hx
      have HX := Lib.hid hx
      have HD := Lib.hid hdr
      have HS := Lib.hid hsc
      have e1 : wr.cell? ⟨b1, 0, none⟩ = some (.string fr) := r1.cell 0 _ rfl
      have e2 : wr.cell? ⟨b2, 0, none⟩ = some (.string to) := r2.cell 0 _ rfl
      have d1 := r1.lt
      have d2 := r2.lt
      clear hx hdr hsc
      by_cases hlow : Op.bytesLess x.key.toList fr.toList = true
      · have hsl := Lib.hid (show scanL fr to (x :: cs.drop (k + 1)) = scanL fr to (cs.drop (k + 1)) by rw [scanL, if_pos hlow])
        gi_wp2_with fail
        go_roundw
        case rel =>
          exact ⟨k + 1, pre, by omega, by go_num, by rw [HS.out, HD.out, hsl.out], hJ1, r1.kp hka m1, r2.kp hka m2, fun h => m1 (hka.sub _ d1 h), fun h => m2 (hka.sub _ d2 h), Nat.lt_of_lt_of_le hpw hka.size, ⟨B, KpC.own how hka hAo⟩, fun g hg h => hAo g hg (hka.sub _ (how.lt g hg).2 h)⟩
        case measure => simp [intOf]; omega
      have hlow : Op.bytesLess x.key.toList fr.toList = false := by simpa using hlow
      by_cases hto : to.toList = []
      · have hsl := Lib.hid (show scanL fr to (x :: cs.drop (k + 1)) = x :: scanL fr to (cs.drop (k + 1)) by rw [scanL, if_neg (by simp [hlow]), if_neg (by simp [hto])])
        obtain ⟨fn, tmps, assign, body, hy, hR⟩ := hY pre x _ hJ1 (by rw [HS.out, HD.out, hsl.out]; simp)
        gi_wp2_with fail
        refine hR.mono ?_
        rintro e W3 (⟨rfl, hJ3, hk3⟩ | ⟨rfl, hJx3⟩)
        · gi_wp2_with fail
          go_roundw
          case rel =>
            have hk4 := hka.trans hk3
            exact ⟨k + 1, pre ++ [x], by omega, by go_num, by rw [HS.out, HD.out, hsl.out]; simp, hJ3, r1.kp hk4 m1, r2.kp hk4 m2, fun h => m1 (hk4.sub _ d1 h), fun h => m2 (hk4.sub _ d2 h), Nat.lt_of_lt_of_le hpw hk4.size, ⟨B, KpC.own how hk4 hAo⟩, fun g hg h => hAo g hg (hk4.sub _ (how.lt g hg).2 h)⟩
          case measure => simp [intOf]; omega
        · gi_wp2_with fail
          refine bodyPost_ret (results_none rfl _ _ _) rfl ?_
          exact ⟨⟨_, rfl⟩, .inr ⟨pre ++ [x], by rw [HS.out, HD.out, hsl.out]; exact ⟨_, by rw [List.append_assoc]; rfl⟩, hJx3⟩⟩
      by_cases hhi : Op.bytesLess x.key.toList to.toList = true
      · have hsl := Lib.hid (show scanL fr to (x :: cs.drop (k + 1)) = x :: scanL fr to (cs.drop (k + 1)) by rw [scanL, if_neg (by simp [hlow]), if_neg (by simp [hhi])])
        obtain ⟨fn, tmps, assign, body, hy, hR⟩ := hY pre x _ hJ1 (by rw [HS.out, HD.out, hsl.out]; simp)
        gi_wp2_with fail
        refine hR.mono ?_
        rintro e W3 (⟨rfl, hJ3, hk3⟩ | ⟨rfl, hJx3⟩)
        · gi_wp2_with fail
          go_roundw
          case rel =>
            have hk4 := hka.trans hk3
            exact ⟨k + 1, pre ++ [x], by omega, by go_num, by rw [HS.out, HD.out, hsl.out]; simp, hJ3, r1.kp hk4 m1, r2.kp hk4 m2, fun h => m1 (hk4.sub _ d1 h), fun h => m2 (hk4.sub _ d2 h), Nat.lt_of_lt_of_le hpw hk4.size, ⟨B, KpC.own how hk4 hAo⟩, fun g hg h => hAo g hg (hk4.sub _ (how.lt g hg).2 h)⟩
          case measure => simp [intOf]; omega
        · gi_wp2_with fail
          refine bodyPost_ret (results_none rfl _ _ _) rfl ?_
          exact ⟨⟨_, rfl⟩, .inr ⟨pre ++ [x], by rw [HS.out, HD.out, hsl.out]; exact ⟨_, by rw [List.append_assoc]; rfl⟩, hJx3⟩⟩
      have hhi : Op.bytesLess x.key.toList to.toList = false := by simpa using hhi
      have hsl := Lib.hid (show scanL fr to (x :: cs.drop (k + 1)) = [] by rw [scanL, if_neg (by simp [hlow]), if_pos ⟨hto, hhi⟩])
      gi_wp2_with fail
      refine ⟨fun _ h => (by cases h), ?_⟩
      gi_wp2_with fail
      refine bodyPost_ret (results_none rfl _ _ _) rfl ?_
      exact ⟨⟨_, rfl⟩, .inl ⟨pre, by rw [HS.out, HD.out, hsl.out]; simp, hJ1⟩⟩
    · obtain rfl : k = cs.length := by omega
      have HS := Lib.hid hsc
      clear hsc
      gi_wp2_with fail
      go_end0
      exact ⟨⟨_, rfl⟩, .inl ⟨pre, by rw [HS.out]; simp [scanL], hJr⟩⟩

theorem scan1_in (n : Nat) (hn : 1 ≤ n) (l : Nat) (X : Nat → Prop) (pb b0 b1 b2 : Nat) (a : Nat) (F : Nat → Prop) (M : MM) (fr to : ByteArray) (J Jx : List Cell → World → Prop) (W : World)
    (hJ : AbidesFrom W.heap.size J) (_ : AbidesFrom W.heap.size Jx)
    (hY : ∀ pre x W1, J pre W1 → pre.length < (scanL fr to (M.map (·.1))).length → YieldAt Fence.wide (n - 1) Try.prog l #[.agg #[.string x.key, .int .u64 x.seq, .string x.val, .bool x.gone]] W1 fun e W' =>
      (e = .returned (.bool true) ∧ J (pre ++ [x]) W' ∧ KpC X pb W1 W') ∨ (e = .returned (.bool false) ∧ Jx (pre ++ [x]) W'))
    (h0 : Blk W b0 #[.pointer (some ⟨a, 0, none⟩)] 26) (h1 : Blk W b1 #[.string fr] 9) (h2 : Blk W b2 #[.string to] 9) (n1 : ¬ Sx X pb W b1) (n2 : ¬ Sx X pb W b2) (hS : ∀ b, Sx X pb W b → b < W.heap.size) (hpb : pb < W.heap.size)
    (hm : MemIs W a F M) (hl : M.length * 48 ≤ 140737488355328) (hj0 : J [] W) :
    CallsIn Fence.wide n Try.prog 77 #[.func (.yield l) #[] #[], .pointer (some ⟨b0, 0, none⟩), .pointer (some ⟨b1, 0, none⟩), .pointer (some ⟨b2, 0, none⟩)] W fun e W' => (∃ v, e = .returned v) ∧
      ((∃ ys, ys = scanL fr to (M.map (·.1)) ∧ J ys W') ∨ (∃ pre, pre <+: scanL fr to (M.map (·.1)) ∧ Jx pre W')) :=
  scan1_any n hn l X pb b0 b1 b2 (.pointer (some ⟨a, 0, none⟩)) (M.map (·.1)) fr to J Jx W hJ hY h0 h1 h2 n1 n2 hS hpb (cells_model hm hl) (by rw [List.length_map]; omega) ⟨_, rfl⟩ hj0

end Go.Proofs.Ytbcaiegglbdonaa
