/-
  A made table's May and Shape; the walk of the law TableBack.
-/
import Derived.Test.YtbcaiegglbdonaaTbI
import Derived.RangeFuncNested
import Derived.Sort.CutIn
import Derived.StillTailTactics
import Derived.Deep.CutRange
import Derived.Deep.CutBlock
/-
  A loop over an iterator that itself goes over an iterator: what such an iterator is told of a round, and the loop's law.
-/
namespace Go.Proofs.Ytbcaiegglbdonaa
open Go Go.RowKit

/-- The iterator's word, where the loop's own word abides whatever is no cells and was laid since: a round keeps what is no cells and was laid since the iterator began. -/
def SeqO {α : Type} (n : Nat) (g : Nat) (lb : Array Value) (encs : α → Array Value) (Kp : World → World → Prop) (Z : List α) (w : World) : Prop :=
  ∀ (l : Nat) (J Jx : List α → World → Prop) (W : World), Below w.heap.size w W → OwnFrom W.heap.size J → OwnFrom W.heap.size Jx →
    (∀ pre x W1, J pre W1 → pre.length < Z.length → YieldAt Fence.wide (n - 1) Try.prog l (encs x) W1 fun e W' =>
      KeepsFrom W.heap.size W1 W' ∧ ((e = .returned (.bool true) ∧ J (pre ++ [x]) W' ∧ Kp W1 W') ∨ (e = .returned (.bool false) ∧ Jx (pre ++ [x]) W'))) →
    J [] W → CallsIn Fence.wide n Try.prog g (#[.func (.yield l) #[] #[]] ++ lb) W fun e W' => (∃ v, e = .returned v) ∧ (J Z W' ∨ ∃ pre, pre <+: Z ∧ Jx pre W')

theorem laid_other {A B : World} {row : Option Nat} {k : Nat} {o : Obj} {N : Nat} (hg : A.grownBy B row) (hr : ∀ r, row = some r → N ≤ r ∧ ∃ o : Obj, A.heap[r]? = some o ∧ o.isCells = false) (hk : k < N) (h : A.heap[k]? = some o) : B.heap[k]? = some o :=
  (hg.block k (lt_of_block h) (fun e => by have := (hr k e.symm).1; omega)).trans h
theorem keeps_put {B l : Nat} {W : World} (o' : Obj) (hl : l < B) : KeepsFrom B W (W.putObj l o') :=
  ⟨by simp, fun k o hk h _ => (World.putObj_heap_other (by omega)).trans h⟩

set_option maxHeartbeats 1000000 in
theorem range_O {α : Type} {n : Nat} {g : Operand} {ps : Array Tmp} {assign body : Code} {Q : Exit → Act → World → Prop} {a : Act} {w : World}
    (h1 : 1 ≤ n) {gf : Nat} {lb : Array Value} (hg : a.eval g = .func (.func gf) #[] lb) (eg : ∀ args w, (callFunc gf args).run Try.prog w = .ok (.enter gf args) w)
    {encs : α → Array Value} {Kp : World → World → Prop} {Z : List α} (hseq : SeqO (n - 1) gf lb encs Kp Z w)
    (hKt : ∀ {A B C : World}, Kp A B → Kp B C → Kp A C) (hKb : ∀ (W : World) (l : Nat) (o o' : Obj), w.heap.size ≤ l → W.heap[l]? = some o → o.isCells = false → o.isWalk = false → Kp W (W.putObj l o')) (hps : ∀ x, (encs x).size = ps.size)
    (I : List α → World → Prop) (Ix : Code → List α → World → Prop) (hI : OwnFrom w.heap.size I) (hIx : ∀ c, OwnFrom w.heap.size (Ix c)) (h0 : I [] w) (Ax : α → Act → World → Prop) (hAx : ∀ x a', OwnFrom w.heap.size (fun (_ : Unit) W => Ax x a' W))
    (hassign : ∀ (l : Nat) (pre : List α) (x : α) (W : World) (K : Act → World → Prop), I pre W → (∀ a' W', KeepsFrom w.heap.size W W' → Kp W W' → I pre W' → Ax x a' W' → K a' W') →
      assign.wpIn (Fence.wide.inRound l) (n - 1 - 1) Try.prog (Exit.then K (fun _ _ _ => False)) { tmps := (ps.zip (encs x)).foldl (fun t (p, v) => t.setIfInBounds p v) a.tmps, defers := [] } W)
    (hbody : ∀ (l : Nat) (pre : List α) (x : α) (a' : Act) (W : World), w.heap.size ≤ l → I pre W → Ax x a' W → pre.length < Z.length → body.wpIn (Fence.wide.inRound l) (n - 1 - 1) Try.prog (ownPostG w.heap.size Kp I Ix (pre ++ [x]) W) a' W)
    (hdone : ∀ (D : Nat) (W : World), w.heap.size ≤ D → I Z W → W.heap[D]? = some (.deferred (some [])) → Q .normal { a with defers := { target := .collected D, args := #[] } :: a.defers } W)
    (hstop : ∀ (D : Nat) (c : Code) (pre : List α) (W : World), w.heap.size ≤ D → pre <+: Z → Ix c pre W → W.heap[D]? = some (.deferred (some [])) → c.wpIn Fence.wide n Try.prog Q { a with defers := { target := .collected D, args := #[] } :: a.defers } W) :
    (Code.rangeFunc g ps assign body).wpIn Fence.wide n Try.prog Q a w := by
  refine wpIn_rangeFunc fun fn hfn => ?_
  obtain ⟨N, hN⟩ : ∃ N, w.heap.size = N := ⟨_, rfl⟩
  obtain ⟨R, hR⟩ : ∃ R : LoopState → Option Code → Loop, R = fun s p => { state := s, pending := p, fn, tmps := a.tmps, params := ps, assign, body, defers := N } := ⟨_, rfl⟩
  obtain ⟨W1, hW1⟩ : ∃ W1, (w.alloc (.deferred (some []))).alloc (.loop (R .ready none)) = W1 := ⟨_, rfl⟩
  have hs1 : W1.heap.size = N + 2 := by rw [← hW1, ← hN]; simp
  have hl1 : W1.heap[N + 1]? = some (.loop (R .ready none)) := by
    rw [← hW1, ← hN]; have := World.alloc_heap_new (w.alloc (.deferred (some []))) (.loop (R .ready none)); rwa [World.size_alloc] at this
  have hd1 : W1.heap[N]? = some (.deferred (some [])) := by
    rw [← hW1, ← hN]; exact (Below.heap_alloc _ _ _ (by simp)).trans (World.alloc_heap_new w _)
  have hi1 : I [] W1 := by rw [← hW1]; exact hI.alloc _ (hI.alloc _ h0)
  have hb1 : Below w.heap.size w W1 := by rw [← hW1]; exact ((Below.refl _ w).alloc (Nat.le_refl _) _).alloc (by simp) _
  rw [hN] at hI hIx hAx hKb hassign hbody hdone hstop hb1
  refine ⟨N + 1, [{ target := .collected N, args := #[] }], W1, { target := .fn (.func gf) lb, args := #[.func (.yield (N + 1)) #[] #[]] }, W1, gf, #[.func (.yield (N + 1)) #[] #[]] ++ lb, W1, ?_, ?_, ?_, ?_, fun _ => h1, ?_⟩
  · rw [← hW1, hR, ← hN]; exact run_enterLoop_outer _ _ _ _ _
  · simp only [resolve, hg]
    simp [go_sem]
  · intro f' _; trivial
  · simp [invoke, go_sem, eg]
  have hw : ∀ {A B : World} {row : Option Nat}, (∀ r, row = some r → W1.heap.size ≤ r ∧ ∃ o : Obj, A.heap[r]? = some o ∧ o.isCells = false) → (∀ r, row = some r → N ≤ r ∧ ∃ o : Obj, A.heap[r]? = some o ∧ o.isCells = false) :=
    fun hr r e => ⟨by have := (hr r e).1; omega, (hr r e).2⟩
  refine (hseq (N + 1)
    (fun pre W => I pre W ∧ W.heap[N + 1]? = some (.loop (R .ready none)) ∧ W.heap[N]? = some (.deferred (some [])))
    (fun pre W => ∃ c, Ix c pre W ∧ W.heap[N + 1]? = some (.loop (R .done (some c))) ∧ W.heap[N]? = some (.deferred (some []))) W1 (by rw [hN]; exact hb1)
    (fun s A B row hs hgr hr => ⟨hI s A B row hs.1 hgr (hw (B := B) hr), laid_other hgr hr (by omega) hs.2.1, laid_other hgr hr (by omega) hs.2.2⟩)
    (fun s A B row ⟨c, hc, hl, hd⟩ hgr hr => ⟨c, hIx c s A B row hc hgr (hw (B := B) hr), laid_other hgr hr (by omega) hl, laid_other hgr hr (by omega) hd⟩)
    ?_ ⟨hi1, hl1, hd1⟩).mono ?_
  · rintro pre x W ⟨hi, hl, hd⟩ hlen
    have hy := run_yield (P := Try.prog) (args := encs x) hl (by rw [hR]; exact hps x)
    rw [hR] at hy
    refine ⟨fn, _, assign, body, hy, roundIn_of_wpIn hfn (hassign _ pre x W _ hi ?_)⟩
    clear hy hi
    intro a' V hka hpa hi hax
    have hl := hka.same _ _ (by omega) hl rfl
    have hd := hka.same _ _ (Nat.le_refl _) hd rfl
    have hlt := lt_of_block hl
    refine ⟨_, run_beginRound hl (by rw [hR]), ?_⟩
    obtain ⟨V2, hV2⟩ : ∃ V2, V.putObj (N + 1) (.loop { R .ready none with state := .busy }) = V2 := ⟨_, rfl⟩
    have hl2 : V2.heap[N + 1]? = some (.loop { R .ready none with state := .busy }) := by rw [← hV2]; exact World.putObj_heap_same hlt
    have hd2 : V2.heap[N]? = some (.deferred (some [])) := by rw [← hV2]; exact (World.putObj_heap_other (by omega)).trans hd
    have hp2 : Kp V V2 := by rw [← hV2]; exact hKb _ _ _ _ (by omega) hl rfl rfl
    have hk2 : KeepsFrom W1.heap.size V V2 := by rw [← hV2]; exact keeps_put _ (by omega)
    have hi2 : I pre V2 := by rw [← hV2]; exact hI.putObj _ hi (by omega) hl rfl
    have ha2 : Ax x a' V2 := by rw [← hV2]; exact (hAx x a').putObj (s := ()) _ hax (by omega) hl rfl
    have hkA : KeepsFrom W1.heap.size W V2 := ⟨Nat.le_trans hka.size hk2.size, fun k o hk h0 ho => hk2.same k o hk (hka.same k o (by omega) h0 ho) ho⟩
    rw [hV2]
    refine wpIn_mono (hbody _ pre x a' _ (by omega) hi2 ha2 hlen) ?_
    have fin : ∀ (jump : Option Code) (V3 : World), KeepsFrom N V2 V3 → ∃ V4, V4 = V3.putObj (N + 1) (.loop (R (if jump.isNone then .ready else .done) jump)) ∧ (Instr.endRound (N + 1) jump).run Try.prog V3 = .ok (.bool jump.isNone) V4 ∧
        V3.heap[N + 1]? = some (.loop { R .ready none with state := .busy }) ∧ V4.heap[N + 1]? = some (.loop (R (if jump.isNone then .ready else .done) jump)) ∧ V4.heap[N]? = some (.deferred (some [])) ∧ KeepsFrom W1.heap.size W V4 := fun jump V3 hk3 => by
      have hl3 := hk3.same _ _ (by omega) hl2 rfl
      have := run_endRound (P := Try.prog) jump hl3
      refine ⟨_, rfl, ?_, hl3, World.putObj_heap_same (lt_of_block hl3), (World.putObj_heap_other (by omega)).trans (hk3.same _ _ (Nat.le_refl _) hd2 rfl), ?_⟩
      · rw [hR] at this ⊢
        exact this
      · have h4 := keeps_put (B := W1.heap.size) (W := V3) (.loop (R (if jump.isNone then .ready else .done) jump)) (l := N + 1) (by omega)
        exact ⟨Nat.le_trans hkA.size (Nat.le_trans hk3.size h4.size), fun k o hk h0 ho => h4.same k o hk (hk3.same k o (by omega) (hkA.same k o hk h0 ho) ho) ho⟩
    rintro e a3 V3 hp
    cases e with
    | normal =>
      obtain ⟨hk3, hkp3, hi3⟩ := hp
      obtain ⟨V4, rfl, hr, hl3, hl4, hd4, hk4⟩ := fin none V3 hk3
      exact ⟨_, _, hr, hk4, .inl ⟨rfl, ⟨hI.putObj _ hi3 (by omega) hl3 rfl, hl4, hd4⟩, hKt hpa (hKt (hKt hp2 hkp3) (hKb _ _ _ _ (by omega) hl3 rfl rfl))⟩⟩
    | ret =>
      obtain ⟨hk3, hi3⟩ := hp
      obtain ⟨V4, rfl, hr, hl3, hl4, hd4, hk4⟩ := fin (some .ret) V3 hk3
      exact ⟨_, _, hr, hk4, .inr ⟨rfl, .ret, (hIx _).putObj _ hi3 (by omega) hl3 rfl, hl4, hd4⟩⟩
    | exit id =>
      obtain ⟨hk3, hi3⟩ := hp
      obtain ⟨V4, rfl, hr, hl3, hl4, hd4, hk4⟩ := fin (some (.exit id)) V3 hk3
      exact ⟨_, _, hr, hk4, .inr ⟨rfl, .exit id, (hIx _).putObj _ hi3 (by omega) hl3 rfl, hl4, hd4⟩⟩
    | goto t =>
      obtain ⟨hk3, hi3⟩ := hp
      obtain ⟨V4, rfl, hr, hl3, hl4, hd4, hk4⟩ := fin (some (.goto t)) V3 hk3
      exact ⟨_, _, hr, hk4, .inr ⟨rfl, .goto t, (hIx _).putObj _ hi3 (by omega) hl3 rfl, hl4, hd4⟩⟩
    | panic ch => exact hp.elim
    | outgrown => exact hp.elim
  · rintro e W2 ⟨⟨v, rfl⟩, (⟨hi, hl, hd⟩ | ⟨pre, hpre, c, hi, hl, hd⟩)⟩
    · have hend := run_endLoop (P := Try.prog) hl (by rw [hR]; simp)
      rw [hR] at hend
      exact ⟨none, _, hend, hdone _ _ (Nat.le_refl _) (hI.putObj _ hi (by omega) hl rfl) ((World.putObj_heap_other (by omega)).trans hd)⟩
    · have hend := run_endLoop (P := Try.prog) hl (by rw [hR]; simp)
      rw [hR] at hend
      exact ⟨some c, _, hend, hstop _ c pre _ (Nat.le_refl _) hpre ((hIx c).putObj _ hi (by omega) hl rfl) ((World.putObj_heap_other (by omega)).trans hd)⟩
end Go.Proofs.Ytbcaiegglbdonaa

/-
  The law's Goes over the block's iterator: it goes over just these cells, twice.
-/
namespace Go.Proofs.Ytbcaiegglbdonaa
open Go.RowKit Go.Shelf
attribute [local go_sem] Oper.semAt_some
set_option linter.unusedSimpArgs false

set_option maxRecDepth 100000 in
theorem bgoes_result {tmps : Array Value} {b : Nat} {W : World} (hp : tmps.getD 6 undef = .pointer (some ⟨b, 0, none⟩)) (hc : Blk W b #[.bool true] 4) : (results Try.f35 tmps).run Try.prog W = .ok (.bool true) W := by
  have c0 : W.cell? ⟨b, 0, none⟩ = some (.bool true) := hc.cell 0 _ rfl
  have hr : Try.f35.results = #[.cell 6 4] := rfl
  have hp' : tmps[6]?.getD undef = .pointer (some ⟨b, 0, none⟩) := by simpa using hp
  simp only [results, hr]
  simp [hp', asAddr, loadVar, Sem.run_bind, Result.andThen]
  go_simp

set_option maxRecDepth 100000 in
set_option maxHeartbeats 4000000 in
theorem bgoes_spec {w : World} {p vw : Value} {F : Nat → Prop} {cs Z : List Cell} {b0 b1 b2 : Nat} {fr «to» : ByteArray} (stop : Int) (x0 : Blk w b0 #[p] 68) (x1 : Blk w b1 #[.string fr] 9) (x2 : Blk w b2 #[.string «to»] 9) (hT : BTab p F cs w)
    (hz : Z = cs.filter (partP fr «to»)) (hw : Reads w vw Z.length 4 (cellVals Z)) :
    Calls Try.prog 35 #[.func (.func 106) #[] #[.pointer (some ⟨b0, 0, none⟩), .pointer (some ⟨b1, 0, none⟩), .pointer (some ⟨b2, 0, none⟩)], vw, .int .i64 stop] w fun e w' => e = .returned (.bool true) ∧ Below w.heap.size w w' := by
  have fq := func_eql6
  obtain ⟨A, cap, rfl⟩ := hw.form
  have HW := Lib.hid hw
  have hzl : Z.length ≤ 2932031007402 := by rw [hz]; exact Nat.le_trans (List.length_filter_le _ _) hT.len
  have HZ := Lib.hid hz
  clear hw hz
  refine (callsIn_wide (n := 6)).1 ?_
  refine callsIn_of_wp_marks Try.func35 rfl trivial ?_ rfl
  simp only [Try.ntmps35, List.size_toArray, List.length_cons, List.length_nil, Nat.reduceAdd, Nat.reduceSub, Array.replicate_succ, Array.replicate_zero, List.push_toArray, List.append_toArray, List.nil_append, List.cons_append]
  gi_wp2_with fail
  obtain ⟨W0, hW0⟩ : ∃ W0, W0 = ((((w.alloc (.cells #[.slice A Z.length cap] 22)).alloc (.cells #[.int .i64 stop] 3)).alloc (.cells #[.bool false] 4)).alloc (.cells #[.int .i64 0] 3)) := ⟨_, rfl⟩
  have hk0 : Keep w [(w.heap.size + 1 + 1 + 1, #[.int .i64 0], 3), (w.heap.size, #[.slice A Z.length cap], 22), (w.heap.size + 1, #[.int .i64 stop], 3), (w.heap.size + 1 + 1, #[.bool false], 4)] [] W0 := by
    rw [hW0]
    refine ⟨fun x hx => ?_, (((((Below.refl _ _).alloc (Nat.le_refl _) _).alloc (by simp) _).alloc (by simp; omega) _).alloc (by simp; omega) _), fun D hD => by cases hD⟩
    simp only [List.mem_cons, List.not_mem_nil, or_false] at hx
    rcases hx with rfl | rfl | rfl | rfl
    · exact Blk.new' _ _ _ (by simp)
    · exact (((Blk.new _ _ _).alloc _).alloc _).alloc _
    · exact ((Blk.new' _ _ _ (by simp)).alloc _).alloc _
    · exact (Blk.new' _ _ _ (by simp)).alloc _
  rw [← hW0]
  clear hW0
  obtain ⟨b7, hb7⟩ : ∃ b7, b7 = w.heap.size + 1 + 1 + 1 := ⟨_, rfl⟩
  rw [← hb7] at hk0 ⊢
  have hge7 : w.heap.size + 2 < b7 := by omega
  clear hb7
  refine wpIn_loop_rounds 3 ?_
  rw [roundsIn_succ]
  have d7 := hk0.blk (b7, #[.int .i64 0], 3) (by simp)
  have c7 := d7.cell 0 _ rfl
  have l7 := d7.lt
  have hlt7 : w.heap.size + 2 < W0.heap.size := (hk0.blk (w.heap.size + 1 + 1, #[.bool false], 4) (by simp)).lt
  have hlt0 : ∀ x ∈ ([(b7, #[.int .i64 0], 3), (w.heap.size, #[.slice A Z.length cap], 22), (w.heap.size + 1, #[.int .i64 stop], 3), (w.heap.size + 1 + 1, #[.bool false], 4)] : List (Nat × Array Value × TypeId)), x.1 ≠ W0.heap.size := fun x hx e => by have := (hk0.blk x hx).lt; omega
  gi_wp2_with fail
  clear c7 l7 d7
  have hk1 : Keep w ((W0.heap.size, #[.int .i64 (([] : List Cell).length : Int)], 3) :: [(b7, #[.int .i64 0], 3), (w.heap.size, #[.slice A Z.length cap], 22), (w.heap.size + 1, #[.int .i64 stop], 3), (w.heap.size + 1 + 1, #[.bool false], 4)]) [] (W0.alloc (.cells #[.int .i64 0] 3)) := (hk0.kept ((Below.refl _ _).alloc (Nat.le_refl _) _)).add (Blk.new _ _ _)
  obtain ⟨b8, hb8⟩ : ∃ b8, b8 = W0.heap.size := ⟨_, rfl⟩
  obtain ⟨W1, hW1⟩ : ∃ W1, W1 = W0.alloc (.cells #[.int .i64 0] 3) := ⟨_, rfl⟩
  have hge8 : w.heap.size ≤ b8 := by rw [hb8]; exact hk0.below.size
  rw [← hb8] at hk1 hlt0
  rw [← hW1] at hk1
  rw [← hW1, ← hb8]
  have hgs : w.heap.size + 3 ≤ W1.heap.size := by have := hlt7; rw [hW1, World.size_alloc]; omega
  have hgw : W0.heap.size < W1.heap.size := by rw [hW1, World.size_alloc]; omega
  clear hb8 hW1 hk0 hlt7
  have e8 := hk1.blk (b8, #[.int .i64 (([] : List Cell).length : Int)], 3) (by simp)
  have nsx : ∀ b, Sx (fun k => k = b8) b8 W1 b → b = b8 := by
    rintro b (h | ⟨o, n, c, h⟩)
    · exact h
    · rw [e8.cell 0 _ rfl] at h; cases h
  have hseq := btab_stops 5 (by omega) (X := fun k => k = b8) (pb := b8) (x0.kept hk1.below) (x1.kept hk1.below) (x2.kept hk1.below) (fun h => by have := nsx _ h; have := x1.lt; omega) (fun h => by have := nsx _ h; have := x2.lt; omega) (fun b h => by rw [nsx b h]; exact e8.lt) e8.lt (hT.only (Only.of_below hk1.below))
  rw [← HZ.out] at hseq
  have hown : OwnFrom W1.heap.size (fun (pre : List Cell) W => Keep w ((b8, #[.int .i64 (pre.length : Int)], 3) :: [(b7, #[.int .i64 0], 3), (w.heap.size, #[.slice A Z.length cap], 22), (w.heap.size + 1, #[.int .i64 stop], 3), (w.heap.size + 1 + 1, #[.bool false], 4)]) [] W ∧ W1.heap.size ≤ W.heap.size) :=
    OwnFrom.and (keep_own (fun (pre : List Cell) => (b8, #[.int .i64 (pre.length : Int)], 3) :: [(b7, #[.int .i64 0], 3), (w.heap.size, #[.slice A Z.length cap], 22), (w.heap.size + 1, #[.int .i64 stop], 3), (w.heap.size + 1 + 1, #[.bool false], 4)]) hk1.below.size (fun D hD => (Array.getElem?_eq_some_iff.1 (hk1.marks D hD)).1)) (fun _ _ _ _ h hg _ => Nat.le_trans h hg.size)
  refine range_meet6 (p := 17) (q := 9) (by omega) rfl hseq e8.lt (fun pre W => Keep w ((b8, #[.int .i64 (pre.length : Int)], 3) :: [(b7, #[.int .i64 0], 3), (w.heap.size, #[.slice A Z.length cap], 22), (w.heap.size + 1, #[.int .i64 stop], 3), (w.heap.size + 1 + 1, #[.bool false], 4)]) [] W ∧ W1.heap.size ≤ W.heap.size)
    (fun c pre W => (c = .ret ∧ ¬ pre <+: Z) ∨ (c = .exit 2 ∧ (0 = 0) ∧ (pre.length : Int) = stop ∧ Keep w ((b8, #[.int .i64 (pre.length : Int)], 3) :: [(b7, #[.int .i64 0], 3), (w.heap.size, #[.slice A Z.length cap], 22), (w.heap.size + 1, #[.int .i64 stop], 3), (w.heap.size + 1 + 1, #[.bool false], 4)]) [] W ∧ W1.heap.size ≤ W.heap.size))
    hown (fun c s A B row hs hg hr => hs.imp id fun ⟨h1, h2, h3, h4⟩ => ⟨h1, h2, h3, hown s A B row h4 hg hr⟩) ⟨hk1, Nat.le_refl _⟩ ?assign ?body
    (fun Dn W => W1.heap.size ≤ Dn ∧ ∃ k : Nat, k ≤ Z.length ∧ (k = Z.length ∨ ((0 = 0) ∧ (k : Int) = stop)) ∧ Keep w ((b8, #[.int .i64 (k : Int)], 3) :: [(b7, #[.int .i64 0], 3), (w.heap.size, #[.slice A Z.length cap], 22), (w.heap.size + 1, #[.int .i64 stop], 3), (w.heap.size + 1 + 1, #[.bool false], 4)]) (Dn :: []) W) 2
    (fun D W hD hi hk => ⟨hD, Z.length, Nat.le_refl _, .inl rfl, hi.1.mark hk⟩)
    (fun D c pre W hD hp hi hk => by
      rcases hi with ⟨_, hn⟩ | ⟨rfl, h2, h3, h4, _⟩
      · exact absurd hp hn
      · exact ⟨rfl, hD, pre.length, hp.length_le, .inr ⟨h2, h3⟩, h4.mark hk⟩) (fun pre W h => h.2) (by intro a w h; simpa [Exit.inBlock] using h) ?meet
  case assign =>
    intro l x W K hK
    unfold cellA at hK ⊢
    simp only [List.setIfInBounds_toArray, List.set_cons_succ, List.set_cons_zero] at hK ⊢
    gi_wp2
    exact hK
  case body =>
    rintro l pre x Bx W ⟨hk, hsz⟩ hB _ hlt
    clear hseq hown e8 nsx hk1
    unfold cellA at hB ⊢
    simp only [List.setIfInBounds_toArray, List.set_cons_succ, List.set_cons_zero]
    obtain ⟨y0, y1, y2, y3⟩ := cell4 hB
    have hBl := hB.lt
    clear hB
    have g8 := hk.blk (b8, #[.int .i64 (pre.length : Int)], 3) (by simp)
    have g7 := hk.blk (b7, #[.int .i64 0], 3) (by simp)
    have gw := hk.blk (w.heap.size, #[.slice A Z.length cap], 22) (by simp)
    have gs := hk.blk (w.heap.size + 1, #[.int .i64 stop], 3) (by simp)
    have g6 := hk.blk (w.heap.size + 1 + 1, #[.bool false], 4) (by simp)
    have a1 := g8.cell 0 _ rfl
    have a2 := g8.lt
    have a3 := g8.frozen 0
    have a4 := g7.cell 0 _ rfl
    have a5 := g7.lt
    have a6 := gw.cell 0 _ rfl
    have a7 := gw.lt
    have a8 := gs.cell 0 _ rfl
    have a9 := gs.lt
    have a10 := g6.cell 0 _ rfl
    have a11 := g6.lt
    have a12 := g6.frozen 0
    have hn7 : b7 ≠ b8 := hlt0 (b7, #[.int .i64 0], 3) (by simp)
    have hns : w.heap.size + 1 ≠ b8 := hlt0 (w.heap.size + 1, #[.int .i64 stop], 3) (by simp)
    obtain ⟨z, hz⟩ : ∃ z, Z[pre.length]? = some z := ⟨_, List.getElem?_eq_getElem hlt⟩
    obtain ⟨b, o, hA, hbl, z0, z1, z2, z3⟩ := (HW.out.kept hk.below).cell_at hz
    subst hA
    have i0 : (0 : Int) ≤ (pre.length : Int) := by omega
    have i1 : (pre.length : Int) < (Z.length : Int) := by omega
    have i3 : ¬ (Z.length ≤ pre.length) := by omega
    have i4 : decide (Z.length ≤ pre.length) = false := by simp; omega
    have i2 : IntKind.i64.wrap ((pre.length : Int) + 1) = (pre.length : Int) + 1 := IntWalk.i64_in _ (by omega)
    have HZz := Lib.hid hz
    have hne := cell_neq x z
    clear hz g8 g7 gw gs g6
    by_cases hxz : x = z
    · have hb : decide (x = z) = true := by simp [hxz]
      rw [hb] at hne
      clear hb hxz
      gi_wp2_with fail
      have he : (((pre ++ [x]).length : Nat) : Int) = (pre.length : Int) + 1 := by simp
      have HE := Lib.hid he
      clear he
      by_cases hst : (pre.length : Int) + 1 = stop
      · have hsb : ((pre.length : Int) + 1 == stop) = true := by simpa using hst
        have HST := Lib.hid hst
        clear hst
        gi_wp2_with fail
        (refine region_quiet_round (F := Fence.wide) rfl (by kernel_rfl) (by kernel_rfl) (by kernel_rfl) ?_; (repeat (gi_big_quiet_step (fail))); refine wpQuietIn_nil ?_; intro _ hw'; obtain ⟨nq, hw''⟩ := hw'; subst hw'')
        have hkq := (hk.kept (below_drewN (Below.refl _ _) nq)).set (fun y hy => hlt0 y hy) hge8 (.int .i64 ((pre.length : Int) + 1))
        gi_wp2_with fail
        exact ⟨(((keeps_drewN W nq).trans (KeepsOthers.setCell _ _ _)).from _), .inr ⟨rfl, by simp, by rw [HE.out]; exact HST.out, by rw [HE.out]; exact hkq, by simpa using hsz⟩⟩
      · have hsb : ((pre.length : Int) + 1 == stop) = false := by simpa using hst
        clear hst
        gi_wp2_with fail
        (refine region_quiet_round (F := Fence.wide) rfl (by kernel_rfl) (by kernel_rfl) (by kernel_rfl) ?_; (repeat (gi_big_quiet_step (fail))); refine wpQuietIn_nil ?_; intro _ hw'; obtain ⟨nq, hw''⟩ := hw'; subst hw'')
        have hkq := (hk.kept (below_drewN (Below.refl _ _) nq)).set (fun y hy => hlt0 y hy) hge8 (.int .i64 ((pre.length : Int) + 1))
        have hkp : KpC (fun k => k = b8) b8 W ((W.drewN nq).setCell ⟨b8, 0, none⟩ (.int .i64 ((pre.length : Int) + 1))) :=
          (KpC.of_below (below_drewN (Below.refl _ _) nq) a2).trans (KpC.setInt (X := fun k => k = b8) (b := b8) rfl _ _ ((hk.blk (b8, #[.int .i64 (pre.length : Int)], 3) (by simp)).kept (below_drewN (Below.refl _ _) nq)))
        gi_wp2_with fail
        exact ⟨(((keeps_drewN W nq).trans (KeepsOthers.setCell _ _ _)).from _), hkp, by rw [HE.out]; exact hkq, by simpa using hsz⟩
    · have hb : decide (x = z) = false := by simp [hxz]
      rw [hb] at hne
      have hnp : ¬ (pre ++ [x]) <+: Z := by
        rintro ⟨t, ht⟩
        have h1 := HZz.out
        rw [← ht] at h1
        simp at h1
        exact hxz h1
      have HNP := Lib.hid hnp
      clear hb hxz hnp
      gi_wp2_with fail
      (refine region_quiet_round (F := Fence.wide) rfl (by kernel_rfl) (by kernel_rfl) (by kernel_rfl) ?_; (repeat (gi_big_quiet_step (fail))); refine wpQuietIn_nil ?_; intro _ hw'; obtain ⟨nq, hw''⟩ := hw'; subst hw'')
      gi_wp2_with fail
      exact ⟨(((keeps_drewN W nq).trans (KeepsOthers.setCell _ _ _)).from _), .inl ⟨rfl, HNP.out⟩⟩
  case meet =>
    rintro D W ⟨hD, k, hkZ, hor, hk⟩
    have hk1s := Nat.le_trans hgs hD
    clear hseq hown e8 nsx hk1
    have g8 := hk.blk (b8, #[.int .i64 (k : Int)], 3) (by simp)
    have g7 := hk.blk (b7, #[.int .i64 0], 3) (by simp)
    have gw := hk.blk (w.heap.size, #[.slice A Z.length cap], 22) (by simp)
    have gs := hk.blk (w.heap.size + 1, #[.int .i64 stop], 3) (by simp)
    have g6 := hk.blk (w.heap.size + 1 + 1, #[.bool false], 4) (by simp)
    have a1 := g8.cell 0 _ rfl
    have a2 := g8.lt
    have a4 := g7.cell 0 _ rfl
    have a5 := g7.lt
    have a6 := gw.cell 0 _ rfl
    have a7 := gw.lt
    have a8 := gs.cell 0 _ rfl
    have a9 := gs.lt
    have a10 := g6.cell 0 _ rfl
    have a11 := g6.lt
    clear g8 g7 gw gs g6
    gi_upto_region 13 with fail
    gi_cut [51] from 39 (fun v wx => wx = W ∧ v = .bool false)
    case first =>
      by_cases hkz : k = Z.length
      · subst hkz
        gi_wp2_with fail
        gi_meet
        exact ⟨rfl, rfl⟩
      · obtain ⟨_, hks⟩ := hor.resolve_left hkz
        have m1 : ((k : Int) != (Z.length : Int)) = true := by simp; omega
        have m2 : ((k : Int) != stop) = false := by simp [hks]
        clear hks hkz
        gi_wp2_with fail
        gi_meet
        exact ⟨rfl, rfl⟩
    case rest =>
      obtain ⟨rfl, rfl⟩ := hcut
      gi_wp2_with fail
      obtain ⟨b7', hb7⟩ : ∃ b7', b7' = wc.heap.size := ⟨_, rfl⟩
      have hk0 : Keep w [(b7', #[.int .i64 1], 3), (w.heap.size, #[.slice A Z.length cap], 22), (w.heap.size + 1, #[.int .i64 stop], 3), (w.heap.size + 1 + 1, #[.bool false], 4)] [D] (wc.alloc (.cells #[.int .i64 1] 3)) := ((hk.kept ((Below.refl _ _).alloc (Nat.le_refl _) _)).less (fun y hy => List.mem_cons_of_mem _ (List.mem_cons_of_mem _ hy))).add (by rw [hb7]; exact Blk.new _ _ _)
      obtain ⟨W2, hW2⟩ : ∃ W2, W2 = wc.alloc (.cells #[.int .i64 1] 3) := ⟨_, rfl⟩
      rw [← hW2] at hk0
      rw [← hW2, ← hb7]
      have hge9 : w.heap.size + 2 < D := by have := hk1s; omega
      have hlD : D < W2.heap.size := (Array.getElem?_eq_some_iff.1 (hk0.marks D (by simp))).1
      clear hb7 hW2 hk hor hkZ a1 a2 a4 a5 a6 a7 a8 a9 a10 a11 hlt0 hge8 hD hgw hgs hk1s
      rw [roundsIn_succ]
      have d7 := hk0.blk (b7', #[.int .i64 1], 3) (by simp)
      have c7 := d7.cell 0 _ rfl
      have l7 := d7.lt
      have hlt7 : w.heap.size + 2 < W2.heap.size := (hk0.blk (w.heap.size + 1 + 1, #[.bool false], 4) (by simp)).lt
      have hlt0 : ∀ x ∈ ([(b7', #[.int .i64 1], 3), (w.heap.size, #[.slice A Z.length cap], 22), (w.heap.size + 1, #[.int .i64 stop], 3), (w.heap.size + 1 + 1, #[.bool false], 4)] : List (Nat × Array Value × TypeId)), x.1 ≠ W2.heap.size := fun x hx e => by have := (hk0.blk x hx).lt; omega
      gi_wp2_with fail
      clear c7 l7 d7
      have hk1 : Keep w ((W2.heap.size, #[.int .i64 (([] : List Cell).length : Int)], 3) :: [(b7', #[.int .i64 1], 3), (w.heap.size, #[.slice A Z.length cap], 22), (w.heap.size + 1, #[.int .i64 stop], 3), (w.heap.size + 1 + 1, #[.bool false], 4)]) [D] (W2.alloc (.cells #[.int .i64 0] 3)) := (hk0.kept ((Below.refl _ _).alloc (Nat.le_refl _) _)).add (Blk.new _ _ _)
      obtain ⟨b8, hb8⟩ : ∃ b8, b8 = W2.heap.size := ⟨_, rfl⟩
      obtain ⟨W1, hW1⟩ : ∃ W1, W1 = W2.alloc (.cells #[.int .i64 0] 3) := ⟨_, rfl⟩
      have hge8 : w.heap.size ≤ b8 := by rw [hb8]; exact hk0.below.size
      rw [← hb8] at hk1 hlt0
      rw [← hW1] at hk1
      rw [← hW1, ← hb8]
      have hgs : w.heap.size + 3 ≤ W1.heap.size := by have := hlt7; rw [hW1, World.size_alloc]; omega
      have hgw : W2.heap.size < W1.heap.size := by rw [hW1, World.size_alloc]; omega
      clear hb8 hW1 hk0 hlt7
      have e8 := hk1.blk (b8, #[.int .i64 (([] : List Cell).length : Int)], 3) (by simp)
      have nsx : ∀ b, Sx (fun k => k = b8) b8 W1 b → b = b8 := by
        rintro b (h | ⟨o, n, c, h⟩)
        · exact h
        · rw [e8.cell 0 _ rfl] at h; cases h
      have hseq := btab_stops 5 (by omega) (X := fun k => k = b8) (pb := b8) (x0.kept hk1.below) (x1.kept hk1.below) (x2.kept hk1.below) (fun h => by have := nsx _ h; have := x1.lt; omega) (fun h => by have := nsx _ h; have := x2.lt; omega) (fun b h => by rw [nsx b h]; exact e8.lt) e8.lt (hT.only (Only.of_below hk1.below))
      rw [← HZ.out] at hseq
      have hown : OwnFrom W1.heap.size (fun (pre : List Cell) W => Keep w ((b8, #[.int .i64 (pre.length : Int)], 3) :: [(b7', #[.int .i64 1], 3), (w.heap.size, #[.slice A Z.length cap], 22), (w.heap.size + 1, #[.int .i64 stop], 3), (w.heap.size + 1 + 1, #[.bool false], 4)]) [D] W ∧ W1.heap.size ≤ W.heap.size) :=
        OwnFrom.and (keep_own (fun (pre : List Cell) => (b8, #[.int .i64 (pre.length : Int)], 3) :: [(b7', #[.int .i64 1], 3), (w.heap.size, #[.slice A Z.length cap], 22), (w.heap.size + 1, #[.int .i64 stop], 3), (w.heap.size + 1 + 1, #[.bool false], 4)]) hk1.below.size (fun D hD => (Array.getElem?_eq_some_iff.1 (hk1.marks D hD)).1)) (fun _ _ _ _ h hg _ => Nat.le_trans h hg.size)
      refine range_meet6 (p := 17) (q := 9) (by omega) rfl hseq e8.lt (fun pre W => Keep w ((b8, #[.int .i64 (pre.length : Int)], 3) :: [(b7', #[.int .i64 1], 3), (w.heap.size, #[.slice A Z.length cap], 22), (w.heap.size + 1, #[.int .i64 stop], 3), (w.heap.size + 1 + 1, #[.bool false], 4)]) [D] W ∧ W1.heap.size ≤ W.heap.size)
        (fun c pre W => (c = .ret ∧ ¬ pre <+: Z) ∨ (c = .exit 2 ∧ (1 = 0) ∧ (pre.length : Int) = stop ∧ Keep w ((b8, #[.int .i64 (pre.length : Int)], 3) :: [(b7', #[.int .i64 1], 3), (w.heap.size, #[.slice A Z.length cap], 22), (w.heap.size + 1, #[.int .i64 stop], 3), (w.heap.size + 1 + 1, #[.bool false], 4)]) [D] W ∧ W1.heap.size ≤ W.heap.size))
        hown (fun c s A B row hs hg hr => hs.imp id fun ⟨h1, h2, h3, h4⟩ => ⟨h1, h2, h3, hown s A B row h4 hg hr⟩) ⟨hk1, Nat.le_refl _⟩ ?assign ?body
        (fun Dn W => W1.heap.size ≤ Dn ∧ ∃ k : Nat, k ≤ Z.length ∧ (k = Z.length ∨ ((1 = 0) ∧ (k : Int) = stop)) ∧ Keep w ((b8, #[.int .i64 (k : Int)], 3) :: [(b7', #[.int .i64 1], 3), (w.heap.size, #[.slice A Z.length cap], 22), (w.heap.size + 1, #[.int .i64 stop], 3), (w.heap.size + 1 + 1, #[.bool false], 4)]) (Dn :: [D]) W) 2
        (fun D W hD hi hk => ⟨hD, Z.length, Nat.le_refl _, .inl rfl, hi.1.mark hk⟩)
        (fun D c pre W hD hp hi hk => by
          rcases hi with ⟨_, hn⟩ | ⟨rfl, h2, h3, h4, _⟩
          · exact absurd hp hn
          · exact ⟨rfl, hD, pre.length, hp.length_le, .inr ⟨h2, h3⟩, h4.mark hk⟩) (fun pre W h => h.2) (by intro a w h; simpa [Exit.inBlock] using h) ?meet
      case assign =>
        intro l x W K hK
        unfold cellA at hK ⊢
        simp only [List.setIfInBounds_toArray, List.set_cons_succ, List.set_cons_zero] at hK ⊢
        gi_wp2
        exact hK
      case body =>
        rintro l pre x Bx W ⟨hk, hsz⟩ hB _ hlt
        clear hseq hown e8 nsx hk1
        unfold cellA at hB ⊢
        simp only [List.setIfInBounds_toArray, List.set_cons_succ, List.set_cons_zero]
        obtain ⟨y0, y1, y2, y3⟩ := cell4 hB
        have hBl := hB.lt
        clear hB
        have g8 := hk.blk (b8, #[.int .i64 (pre.length : Int)], 3) (by simp)
        have g7 := hk.blk (b7', #[.int .i64 1], 3) (by simp)
        have gw := hk.blk (w.heap.size, #[.slice A Z.length cap], 22) (by simp)
        have gs := hk.blk (w.heap.size + 1, #[.int .i64 stop], 3) (by simp)
        have g6 := hk.blk (w.heap.size + 1 + 1, #[.bool false], 4) (by simp)
        have a1 := g8.cell 0 _ rfl
        have a2 := g8.lt
        have a3 := g8.frozen 0
        have a4 := g7.cell 0 _ rfl
        have a5 := g7.lt
        have a6 := gw.cell 0 _ rfl
        have a7 := gw.lt
        have a8 := gs.cell 0 _ rfl
        have a9 := gs.lt
        have a10 := g6.cell 0 _ rfl
        have a11 := g6.lt
        have a12 := g6.frozen 0
        have hn7 : b7' ≠ b8 := hlt0 (b7', #[.int .i64 1], 3) (by simp)
        have hns : w.heap.size + 1 ≠ b8 := hlt0 (w.heap.size + 1, #[.int .i64 stop], 3) (by simp)
        obtain ⟨z, hz⟩ : ∃ z, Z[pre.length]? = some z := ⟨_, List.getElem?_eq_getElem hlt⟩
        obtain ⟨b, o, hA, hbl, z0, z1, z2, z3⟩ := (HW.out.kept hk.below).cell_at hz
        subst hA
        have i0 : (0 : Int) ≤ (pre.length : Int) := by omega
        have i1 : (pre.length : Int) < (Z.length : Int) := by omega
        have i3 : ¬ (Z.length ≤ pre.length) := by omega
        have i4 : decide (Z.length ≤ pre.length) = false := by simp; omega
        have i2 : IntKind.i64.wrap ((pre.length : Int) + 1) = (pre.length : Int) + 1 := IntWalk.i64_in _ (by omega)
        have HZz := Lib.hid hz
        have hne := cell_neq x z
        clear hz g8 g7 gw gs g6
        by_cases hxz : x = z
        · have hb : decide (x = z) = true := by simp [hxz]
          rw [hb] at hne
          clear hb hxz
          gi_wp2_with fail
          have he : (((pre ++ [x]).length : Nat) : Int) = (pre.length : Int) + 1 := by simp
          have HE := Lib.hid he
          clear he
          gi_wp2_with fail
          (refine region_quiet_round (F := Fence.wide) rfl (by kernel_rfl) (by kernel_rfl) (by kernel_rfl) ?_; (repeat (gi_big_quiet_step (fail))); refine wpQuietIn_nil ?_; intro _ hw'; obtain ⟨nq, hw''⟩ := hw'; subst hw'')
          have hkq := (hk.kept (below_drewN (Below.refl _ _) nq)).set (fun y hy => hlt0 y hy) hge8 (.int .i64 ((pre.length : Int) + 1))
          have hkp : KpC (fun k => k = b8) b8 W ((W.drewN nq).setCell ⟨b8, 0, none⟩ (.int .i64 ((pre.length : Int) + 1))) :=
            (KpC.of_below (below_drewN (Below.refl _ _) nq) a2).trans (KpC.setInt (X := fun k => k = b8) (b := b8) rfl _ _ ((hk.blk (b8, #[.int .i64 (pre.length : Int)], 3) (by simp)).kept (below_drewN (Below.refl _ _) nq)))
          gi_wp2_with fail
          exact ⟨(((keeps_drewN W nq).trans (KeepsOthers.setCell _ _ _)).from _), hkp, by rw [HE.out]; exact hkq, by simpa using hsz⟩
        · have hb : decide (x = z) = false := by simp [hxz]
          rw [hb] at hne
          have hnp : ¬ (pre ++ [x]) <+: Z := by
            rintro ⟨t, ht⟩
            have h1 := HZz.out
            rw [← ht] at h1
            simp at h1
            exact hxz h1
          have HNP := Lib.hid hnp
          clear hb hxz hnp
          gi_wp2_with fail
          (refine region_quiet_round (F := Fence.wide) rfl (by kernel_rfl) (by kernel_rfl) (by kernel_rfl) ?_; (repeat (gi_big_quiet_step (fail))); refine wpQuietIn_nil ?_; intro _ hw'; obtain ⟨nq, hw''⟩ := hw'; subst hw'')
          gi_wp2_with fail
          exact ⟨(((keeps_drewN W nq).trans (KeepsOthers.setCell _ _ _)).from _), .inl ⟨rfl, HNP.out⟩⟩
      case meet =>
        rintro D2 W ⟨hD, k, hkZ, hor, hk⟩
        have hk1s := Nat.le_trans hgs hD
        clear hseq hown e8 nsx hk1
        have g8 := hk.blk (b8, #[.int .i64 (k : Int)], 3) (by simp)
        have g7 := hk.blk (b7', #[.int .i64 1], 3) (by simp)
        have gw := hk.blk (w.heap.size, #[.slice A Z.length cap], 22) (by simp)
        have gs := hk.blk (w.heap.size + 1, #[.int .i64 stop], 3) (by simp)
        have g6 := hk.blk (w.heap.size + 1 + 1, #[.bool false], 4) (by simp)
        have a1 := g8.cell 0 _ rfl
        have a2 := g8.lt
        have a4 := g7.cell 0 _ rfl
        have a5 := g7.lt
        have a6 := gw.cell 0 _ rfl
        have a7 := gw.lt
        have a8 := gs.cell 0 _ rfl
        have a9 := gs.lt
        have a10 := g6.cell 0 _ rfl
        have a11 := g6.lt
        clear g8 g7 gw gs g6
        gi_upto_region 13 with fail
        gi_cut [51] from 39 (fun v wx => wx = W ∧ v = .bool false)
        case first =>
          by_cases hkz : k = Z.length
          · subst hkz
            gi_wp2_with fail
            gi_meet
            exact ⟨rfl, rfl⟩
          · exact absurd (hor.resolve_left hkz).1 (by decide)
        case rest =>
          obtain ⟨rfl, rfl⟩ := hcut
          gi_wp2_with fail
          rw [roundsIn_succ]
          have g7 := (hk.kept ((Below.refl _ _).alloc (Nat.le_refl _) (.cells #[.int .i64 2] 3)))
          have g6 := g7.blk (w.heap.size + 1 + 1, #[.bool false], 4) (by simp)
          have f1 := g6.lt
          have f2 := g6.frozen 0
          have f3 := g6.cell 0 _ rfl
          have hkF := ((hk.less (Bs' := [(w.heap.size + 1 + 1, #[.bool false], 4)]) (by simp)).set (by simp) (by omega) (.bool true)).kept ((Below.refl _ _).alloc (Nat.le_refl _) (.cells #[.int .i64 2] 3))
          gi_wp2_with fail
          refine leaves_marks (B := w.heap.size + 3) [D2, D] _ ?_ ?_ ?_ (fun W' hb => ⟨_, bgoes_result (b := w.heap.size + 1 + 1) rfl ((hkF.blk (w.heap.size + 1 + 1, #[.bool true], 4) (by simp)).below hb (by omega)), rfl, hkF.below.trans (hb.mono (by omega))⟩)
          · simp; omega
          · intro d hd
            refine ⟨hkF.marks d hd, ?_⟩
            simp at hd
            rcases hd with rfl | rfl <;> omega
          · have := (hkF.blk (w.heap.size + 1 + 1, #[.bool true], 4) (by simp)).lt
            omega

end Go.Proofs.Ytbcaiegglbdonaa

/-
  The walk of the law BlockNobody.
-/
namespace Go.Proofs.Ytbcaiegglbdonaa
open Go Go.RowKit
set_option linter.unusedSimpArgs false

/-- Of a block that stays as it lies Cells tells the same. -/
theorem BlkIs.tab {w : World} {p : Nat} {s : ByteArray} {l : List Cell} {r : Int} {m : Bool} (h : BlkIs w p s l r m) : ∃ F, BTab (.pointer (some ⟨p, 0, none⟩)) F l w := by
  obtain ⟨v, B, hb, ho⟩ := h.ex
  refine ⟨fun k => k = p ∨ v.ownBlock = some k, ⟨fun W' hW => ?_, by have := h.len; omega, ⟨_, rfl⟩⟩⟩
  refine blk_cells (s := s) (r := r) (m := m) ⟨⟨v, B, hb.only hW (by simp), own_only ho hW (fun g hg => .inr hg)⟩, h.len⟩
/-- A pointer to no block that Open made. -/
def NB (a : Option Addr) (W : World) : Prop := a = none ∨ ∃ p, a = some ⟨p, 0, none⟩ ∧ BlkIs W p ⟨#[]⟩ [] 0 false
theorem NB.kept {a : Option Addr} {W W' : World} (h : NB a W) (hb : Below W.heap.size W W') : NB a W' := h.imp id fun ⟨p, e, h⟩ => ⟨p, e, h.kept hb⟩
theorem nb_seek {a : Option Addr} {w : World} (h : NB a w) (k : ByteArray) (q : Int) : Calls Try.prog 45 #[.pointer a, .string k, .int .u64 q] w (CellPost w (Cell.zero, false)) :=
  no_seek a k q w (h.imp id fun ⟨p, e, h⟩ => ⟨p, _, _, _, e, h⟩)
theorem nb_get {a : Option Addr} {w : World} (h : NB a w) (k : ByteArray) (q : Int) : Calls Try.prog 44 #[.pointer a, .string k, .int .u64 q] w (CellPost w (Cell.zero, false)) := by
  have := get_of_seek (w := w) (a := a) (k := k) (q := q) (x := (Cell.zero, false)) fun W hW => nb_seek (h.kept hW) k q
  unfold getS at this
  rwa [if_neg (by simp)] at this
theorem nb_cells {a : Option Addr} {w : World} (h : NB a w) : Calls Try.prog 43 #[.pointer a] w (CellsPost w []) := by
  rcases h with rfl | ⟨p, rfl, h⟩
  · exact blk_cells_nil w
  · exact blk_cells h
theorem nb_len {a : Option Addr} {w : World} (h : NB a w) : Calls Try.prog 49 #[.pointer a] w fun e w' => e = .returned (.int .i64 0) ∧ w = w' := by
  rcases h with rfl | ⟨p, rfl, h⟩
  · exact blk_len_nil w
  · exact blk_len h
theorem nb_bytes {a : Option Addr} {w : World} (h : NB a w) : Calls Try.prog 50 #[.pointer a] w fun e w' => e = .returned (.string ⟨#[]⟩) ∧ w = w' := by
  rcases h with rfl | ⟨p, rfl, h⟩
  · exact blk_bytes_nil w
  · exact blk_bytes h
theorem nb_restarts {a : Option Addr} {w : World} (h : NB a w) : Calls Try.prog 51 #[.pointer a] w fun e w' => e = .returned (.int .i64 0) ∧ w = w' := by
  rcases h with rfl | ⟨p, rfl, h⟩
  · exact blk_restarts_nil w
  · exact blk_restarts_no h
theorem nb_tab {a : Option Addr} {w : World} (h : NB a w) : ∃ F, BTab (.pointer a) F [] w := by
  rcases h with rfl | ⟨p, rfl, h⟩
  · exact ⟨fun _ => False, ⟨fun W' _ => blk_cells_nil W', by simp, ⟨_, rfl⟩⟩⟩
  · exact h.tab
def NoRel (wo : World) (i : Value) (W : World) : Prop := ∃ n : Nat, i = .int .i64 n ∧ n ≤ 2 ∧ Below wo.heap.size wo W
theorem nb_goes {a : Option Addr} {w : World} (h : NB a w) {b0 b1 b2 : Nat} (h0 : Blk w b0 #[.pointer a] 68) (h1 : Blk w b1 #[.string ⟨#[]⟩] 9) (h2 : Blk w b2 #[.string ⟨#[]⟩] 9) :
    Calls Try.prog 35 #[.func (.func 106) #[] #[.pointer (some ⟨b0, 0, none⟩), .pointer (some ⟨b1, 0, none⟩), .pointer (some ⟨b2, 0, none⟩)], .slice none 0 0, .int .i64 1] w fun e w' => e = .returned (.bool true) ∧ Below w.heap.size w w' := by
  obtain ⟨F, hT⟩ := nb_tab h
  exact bgoes_spec (cs := []) (Z := []) 1 h0 h1 h2 hT rfl ⟨rfl, by simp, _, _, rfl, .inl rfl⟩
set_option maxRecDepth 100000 in
set_option maxHeartbeats 4000000 in
theorem nobody8_walk (key : ByteArray) (seq : Int) (w : World) : Calls Try.prog 14 #[.string key, .int .u64 seq] w fun e w' => e = .returned (.bool true) ∧ Below w.heap.size w w' := by
  have hne := cell_neq Cell.zero Cell.zero
  rw [decide_eq_true rfl] at hne
  have hne : ∀ W, (binOp .neq 25 (.agg #[.string ⟨#[]⟩, .int .u64 0, .string ⟨#[]⟩, .bool false]) (.agg #[.string ⟨#[]⟩, .int .u64 0, .string ⟨#[]⟩, .bool false])).run Try.prog W = .ok (.bool false) W := hne
  go_enter Try.func14, Try.ntmps14
  go_wp2_with (go_at_call 36; refine (awake8 _).mono ?_; rintro e w1 ⟨rfl, b1⟩)
  obtain ⟨w3, hw3⟩ : ∃ w3, w3 = ((w1.alloc (.cells #[.string ⟨#[]⟩, .slice none 0 0, .int .i64 0, .bool false] 85)).alloc (.cells #[.pointer none, .pointer (some ⟨w1.heap.size, 0, none⟩)] 68)) := ⟨_, rfl⟩
  have b3 : Below w1.heap.size w1 w3 := by rw [hw3]; exact ((Below.refl _ _).alloc (Nat.le_refl _) _).alloc (by simp) _
  have B3 : BlkIs w3 w1.heap.size ⟨#[]⟩ [] 0 false := by rw [hw3]; exact ⟨⟨_, 0, (Blk.new w1 _ _).alloc _, World.ownsRow_nil _ _ _ _⟩, by simp⟩
  have R3 : Blk w3 (w1.heap.size + 1) #[.pointer none, .pointer (some ⟨w1.heap.size, 0, none⟩)] 68 := by rw [hw3]; exact Blk.new' _ _ _ (by simp)
  rw [← hw3]
  clear hw3
  have c3 := b1.trans (b3.mono b1.size)
  go_loopw [17] (NoRel w3) (fun i _ => 2 - (intOf i).toNat)
  case atStart => exact ⟨0, rfl, by omega, Below.refl _ _⟩
  case round =>
    obtain ⟨n, rfl, hn, hb⟩ := hrel
    have cb := c3.trans (hb.mono c3.size)
    by_cases hlt : n < 2
    · obtain ⟨a, ha, hNB⟩ : ∃ a, wr.cell? ⟨w1.heap.size + 1, n, none⟩ = some (.pointer a) ∧ NB a w3 := by
        have h1 := R3.kept hb
        rcases (by omega : n = 0 ∨ n = 1) with rfl | rfl
        · exact ⟨none, h1.cell 0 _ rfl, .inl rfl⟩
        · exact ⟨_, h1.cell 1 _ rfl, .inr ⟨_, rfl, B3⟩⟩
      have al := (R3.kept hb).lt
      have j0 : (0 : Int) ≤ (n : Int) := by omega
      have j1 : (n : Int) < 2 := by omega
      have HNB := Lib.hid (fun (W : World) (hW : Below w3.heap.size w3 W) => hNB.kept hW)
      clear hNB
      have z25 : True := trivial
      go_wp2_with (first
        | (go_at_call 44; refine (nb_get (HNB.out _ hb) _ _).mono ?_; rintro e w4 ⟨he, hb4⟩; obtain rfl : e = .returned (.tuple #[.agg #[.string ⟨#[]⟩, .int .u64 0, .string ⟨#[]⟩, .bool false], .bool false]) := he
           have e4 := hb.trans (hb4.mono hb.size)
           have f4 := e4.alloc e4.size (.cells #[.string ⟨#[]⟩, .int .u64 0, .string ⟨#[]⟩, .bool false] 25))
        | (go_at_call 45; refine (nb_seek (HNB.out _ f4) _ _).mono ?_; rintro e w5 ⟨he, hb5⟩; obtain rfl : e = .returned (.tuple #[.agg #[.string ⟨#[]⟩, .int .u64 0, .string ⟨#[]⟩, .bool false], .bool false]) := he
           have e5 := f4.trans (hb5.mono f4.size)
           have hbx := (Blk.new w4 #[.string ⟨#[]⟩, .int .u64 0, .string ⟨#[]⟩, .bool false] 25).kept hb5
           obtain ⟨y0, y1, y2, y3⟩ := cell4 hbx
           have yl := hbx.lt
           have f5 := e5.alloc e5.size (.cells #[.string ⟨#[]⟩, .int .u64 0, .string ⟨#[]⟩, .bool false] 25))
        | (go_at_call 43; refine (nb_cells (HNB.out _ f5)).mono ?_; rintro e w6 ⟨v6, rfl, own6, hb6⟩; obtain ⟨A6, k6, rfl⟩ := (Reads.of_own own6).form; have e6 := f5.trans (hb6.mono f5.size); clear own6)
        | (go_at_call 49; refine (nb_len (HNB.out _ e6)).mono ?_; rintro e w7 ⟨rfl, rfl⟩)
        | (go_at_call 51; refine (nb_restarts (HNB.out _ e6)).mono ?_; rintro e w7 ⟨rfl, rfl⟩)
        | (go_at_call 50; refine (nb_bytes (HNB.out _ e6)).mono ?_; rintro e w7 ⟨rfl, rfl⟩)
        | (go_at_call 52; refine (blk_scan _ _ _ _ ⟨_, rfl⟩).mono ?_; rintro e w8 ⟨rfl, s0, s1, s2, hb8⟩; have e8 := e6.trans (hb8.mono e6.size))
        | (go_at_call 35; refine (nb_goes (HNB.out _ e8) s0 s1 s2).mono ?_; rintro e w9 ⟨rfl, hb9⟩; have e9 := e8.trans (hb9.mono e8.size)))
      go_roundw
      case rel => exact ⟨n + 1, by go_num, by omega, e9⟩
      case measure => simp [intOf]; omega
    · obtain rfl : n = 2 := by omega
      go_wp2_with fail
      go_ret
      exact ⟨rfl, cb⟩
end Go.Proofs.Ytbcaiegglbdonaa

/-
  The table's Scan: what its iterator goes over.
-/
namespace Go.Proofs.Ytbcaiegglbdonaa
open Go Go.RowKit Go.Shelf
attribute [local go_sem] Oper.semAt_some
set_option linter.unusedSimpArgs false

/-! ### What a round keeps -/
def LtX (X : Nat → Prop) (pb : Nat) (W : World) : Prop := ∀ b, Sx X pb W b → b < W.heap.size
def KpS (X : Nat → Prop) (pb : Nat) (W W' : World) : Prop := KpC X pb W W' ∧ (LtX X pb W → LtX X pb W')
theorem KpS.trans {X : Nat → Prop} {pb : Nat} {A B C : World} (h : KpS X pb A B) (k : KpS X pb B C) : KpS X pb A C := ⟨h.1.trans k.1, fun hl => k.2 (h.2 hl)⟩
theorem KpS.of_below {X : Nat → Prop} {pb : Nat} {W W' : World} (hb : Below W.heap.size W W') (hp : pb < W.heap.size) : KpS X pb W W' :=
  ⟨.of_below hb hp, fun hl b hs => Nat.lt_of_lt_of_le (hl b (hs.imp id fun ⟨o, n, c, h⟩ => ⟨o, n, c, by rw [← hb.cell (p := ⟨pb, 0, none⟩) hp]; exact h⟩)) hb.size⟩
theorem sx_grown {X : Nat → Prop} {pb N : Nat} {A B : World} {row : Option Nat} (hg : A.grownBy B row) (hr : ∀ r, row = some r → N ≤ r ∧ ∃ o : Obj, A.heap[r]? = some o ∧ o.isCells = false) (hp : pb < A.heap.size) (hN : pb < N) (b : Nat) (h : Sx X pb B b) : Sx X pb A b := by
  have e : B.heap[pb]? = A.heap[pb]? := hg.block pb hp (fun e => by have := (hr pb e.symm).1; omega)
  exact h.imp id fun ⟨o, n, c, h⟩ => ⟨o, n, c, by simpa [World.cell?, e] using h⟩
theorem kpS_b {X : Nat → Prop} {pb : Nat} {w : World} (hp : pb < w.heap.size) (W : World) (l : Nat) (o o' : Obj) (hl : w.heap.size ≤ l) (h : W.heap[l]? = some o) (ho : o.isCells = false) (hw : o.isWalk = false) : KpS X pb W (W.putObj l o') := by
  refine ⟨kpC_b hp W l o o' hl h ho hw, fun hlt b hs => ?_⟩
  have hl2 := lt_of_block h
  have := hlt b (sx_grown (N := w.heap.size) (grownBy_putObj' W l o') (fun r e => by cases e; exact ⟨hl, o, h, ho⟩) (by omega) hp b hs)
  simpa using this
/-- What lay in w0 lies as it lay, and no round writes there; the box b4 lies, and no round writes it. -/
structure Old (X : Nat → Prop) (pb : Nat) (w0 : World) (b4 : Nat) (y : Value) (W : World) : Prop where
  size : w0.heap.size ≤ W.heap.size
  same : ∀ (b : Nat) (o : Obj), w0.heap[b]? = some o → o.isCells = true → W.heap[b]? = some o
  sx : ∀ b, Sx X pb W b → w0.heap.size ≤ b
  lt : LtX X pb W
  box : Blk W b4 #[y] 110
  nb : ¬ Sx X pb W b4
  pb : pb < W.heap.size
theorem Old.kp {X : Nat → Prop} {pb : Nat} {w0 : World} {b4 : Nat} {y : Value} {W W' : World} (h : Old X pb w0 b4 y W) (hk : KpS X pb W W') : Old X pb w0 b4 y W' :=
  ⟨Nat.le_trans h.size hk.1.size, fun b o hb ho => hk.1.block b o (fun hs => by have := h.sx b hs; have := lt_of_block hb; omega) (h.same b o hb ho) ho,
    fun b hs => by
      by_cases hb : b < w0.heap.size
      · exact h.sx b (hk.1.sub b (Nat.lt_of_lt_of_le hb h.size) hs)
      · omega,
    hk.2 h.lt, h.box.kp hk.1 h.nb, fun hs => h.nb (hk.1.sub _ h.box.lt hs), Nat.lt_of_lt_of_le h.pb hk.1.size⟩
theorem Old.below {X : Nat → Prop} {pb : Nat} {w0 : World} {b4 : Nat} {y : Value} {W W' : World} (h : Old X pb w0 b4 y W) (hb : Below W.heap.size W W') : Old X pb w0 b4 y W' := h.kp (.of_below hb h.pb)
theorem Old.own {X : Nat → Prop} {pb : Nat} {w0 : World} {b4 : Nat} {y : Value} {N : Nat} (hp : pb < N) {β : Type} : OwnFrom N (fun (_ : β) W => Old X pb w0 b4 y W) := fun _ A B row h hg hr => by
  have hc : ∀ (b : Nat) (o : Obj), A.heap[b]? = some o → o.isCells = true → B.heap[b]? = some o := fun b o hb ho => (hg.block b (lt_of_block hb) (fun e => by
    obtain ⟨_, o2, h2, h3⟩ := hr b e.symm
    rw [h2] at hb; cases hb; rw [h3] at ho; cases ho)).trans hb
  have hs := fun b => sx_grown (X := X) hg hr h.pb hp b
  exact ⟨Nat.le_trans h.size hg.size, fun b o hb ho => hc b o (h.same b o hb ho) ho, fun b h2 => h.sx b (hs b h2), fun b h2 => Nat.lt_of_lt_of_le (h.lt b (hs b h2)) hg.size, hc _ _ h.box rfl, fun h2 => h.nb (hs _ h2), Nat.lt_of_lt_of_le h.pb hg.size⟩
theorem Old.blk {X : Nat → Prop} {pb : Nat} {w0 : World} {b4 : Nat} {y : Value} {W : World} (h : Old X pb w0 b4 y W) {b : Nat} {arr : Array Value} {t : TypeId} (hb : Blk w0 b arr t) : Blk W b arr t := h.same b _ hb rfl
theorem Old.stay {X : Nat → Prop} {pb : Nat} {w0 : World} {b4 : Nat} {y : Value} {W : World} (h : Old X pb w0 b4 y W) : Stay (fun _ => True) w0 W := ⟨h.size, fun _ _ _ _ hb => h.blk hb⟩
theorem Old.cell {X : Nat → Prop} {pb : Nat} {w0 : World} {b4 : Nat} {y : Value} {W : World} (h : Old X pb w0 b4 y W) {p : Addr} {v : Value} (hc : w0.cell? p = some v) : W.cell? p = some v := by
  unfold World.cell? at hc ⊢
  cases hb : w0.heap[p.block]? with
  | none => rw [hb] at hc; cases hc
  | some o =>
    rw [hb] at hc
    cases o with
    | cells arr t => rw [h.same _ _ hb rfl]; exact hc
    | _ => cases hc
theorem Old.reads {X : Nat → Prop} {pb : Nat} {w0 : World} {b4 : Nat} {y : Value} {W : World} (h : Old X pb w0 b4 y W) {v : Value} {n k : Nat} {xs : List Value} (hr : Reads w0 v n k xs) : Reads W v n k xs := by
  obtain ⟨h1, h2, A, cap, rfl, h3⟩ := hr
  refine ⟨h1, h2, A, cap, rfl, h3.imp id ?_⟩
  rintro ⟨b, o, rfl, hb, hc⟩
  exact ⟨b, o, rfl, Nat.lt_of_lt_of_le hb h.size, fun j u hj => h.cell (hc j u hj)⟩
theorem round_any {n m l l' : Nat} {P : Program} {f : FuncId} {tmps : Array Value} {assign body : Code} {w : World} {R : Ending → World → Prop} (h : RoundIn Fence.wide n P l f tmps assign body w R) : RoundIn (Fence.wide.inRound l') m P l f tmps assign body w R :=
  ⟨trivial, fun c cs _ => h.2 c cs (room_wide _)⟩
theorem leaves_marks_own {F : Fence} {n : Nat} {P : Program} {fn : Func} {tmps : Array Value} {R : Ending → World → Prop} {B : Nat} {J : World → Prop} (hJ : OwnFrom B (fun (_ : Unit) W => J W)) : ∀ (Ds : List Nat) (W : World), Ds.Nodup → (∀ D ∈ Ds, W.heap[D]? = some (.deferred (some [])) ∧ B ≤ D) → J W →
    (∀ W', J W' → LeavesInM F n P fn tmps R [] .returning W') → LeavesInM F n P fn tmps R (Ds.map fun D => { target := .collected D, args := #[] }) .returning W := by
  intro Ds
  induction Ds with
  | nil => intro W _ _ hj h; exact h W hj
  | cons D Ds ih =>
    intro W hnd hk hj h
    obtain ⟨hn1, hn2⟩ := List.nodup_cons.1 hnd
    obtain ⟨hD, hDB⟩ := hk D (by simp)
    refine ⟨by simp, .inl ⟨D, _, rfl, run_takeDeferred hD, ih _ hn2 (fun D' hD' => ⟨(World.putObj_heap_other (fun e => hn1 (by subst e; exact hD'))).trans (hk D' (by simp [hD'])).1, (hk D' (by simp [hD'])).2⟩) (hJ.putObj (s := ()) _ hj hDB hD rfl) h⟩⟩
/-! ### The walk -/
def calm (Q : Exit → Act → World → Prop) : Exit → Act → World → Prop
  | .panic _, _, _ => False
  | e, a, w => Q e a w
/-- A plan of a region in which nothing panics. -/
theorem region_plan_calm {P : Program} {ops : Array Oper} {Q : Exit → Act → World → Prop} {S : World → Prop} {id : Nat} {a : Act} {w : World} (plan : List (Nat × Bool)) (hm : P.follows .mixedOrders = true) (hl : plan.length = ops.size) (hs : Region.noSelect ops = true) (hp : planOK ops plan (Array.replicate ops.size false) = true)
    (hS : S w.drew) (h : S w.drew → wpPlan P ops (calm Q) S plan a w.drew) : (Code.region id ops true).wp P Q a w :=
  wp_mono (region_plan (Q := calm Q) plan hm hl hs hp (fun _ _ _ _ _ h => h.elim) hS h) (fun e _ _ h => by cases e <;> first | exact h | exact h.elim)
def cellE (x : Cell) : Array Value := #[.agg #[.string x.key, .int .u64 x.seq, .string x.val, .bool x.gone]]
def TsRel (X : Nat → Prop) (pb : Nat) (w0 : World) (b4 l B : Nat) (R : List Ent) (fr up : ByteArray) (J : List Cell → World → Prop) (ds : List Deferred) (i : Value) (W : World) : Prop :=
  ∃ (k : Nat) (Ds : List Nat), k ≤ R.length ∧ i = .int .i64 k ∧ ds = marksOf Ds ∧ Ds.Nodup ∧ (∀ D ∈ Ds, W.heap[D]? = some (.deferred (some [])) ∧ B ≤ D) ∧ J ((allC (R.take k)).filter (partP fr up)) W ∧ Old X pb w0 b4 (.func (.yield l) #[] #[]) W ∧ B ≤ W.heap.size
set_option maxRecDepth 100000 in
set_option maxHeartbeats 4000000 in
theorem tscan_seq {w0 w : World} {X : Nat → Prop} {pb b0 b1 b2 tp : Nat} {b : ByteArray} {x : FootN} {es : List Ent} {fr up : ByteArray} (hT : TabIs w0 tp b x es) (hne : es ≠ []) (hel : es.length ≤ 4611686018427387904) (hr : RisingE es)
    (x0 : Blk w0 b0 #[.pointer (some ⟨tp, 0, none⟩)] 95) (x1 : Blk w0 b1 #[.string fr] 9) (x2 : Blk w0 b2 #[.string up] 9) (hw : Below w0.heap.size w0 w) (hX : ∀ b, Sx X pb w b → w0.heap.size ≤ b ∧ b < w.heap.size) (hpb : pb < w.heap.size) :
    SeqO 6 124 #[.pointer (some ⟨b0, 0, none⟩), .pointer (some ⟨b1, 0, none⟩), .pointer (some ⟨b2, 0, none⟩)] cellE (KpS X pb) ((allC (es.drop (fromN es fr))).filter (partP fr up)) w := by
  intro l J Jx W hW hJ hJx hY hj0
  have hwW := hw.trans (hW.mono hw.size)
  have bA := (Below.refl W.heap.size W).alloc (Nat.le_refl _) (.cells #[.func (.yield l) #[] #[]] 110)
  obtain ⟨V, hV⟩ : ∃ V, W.alloc (.cells #[.func (.yield l) #[] #[]] 110) = V := ⟨_, rfl⟩
  rw [hV] at bA
  have bV := hwW.trans (bA.mono hwW.size)
  have hsz : V.heap.size = W.heap.size + 1 := by rw [← hV]; simp
  have hpW : pb < W.heap.size := Nat.lt_of_lt_of_le hpb hW.size
  have hkW : KpS X pb w W := .of_below hW hpb
  have hold : Old X pb w0 W.heap.size (.func (.yield l) #[] #[]) V := by
    have hk2 : KpS X pb w V := hkW.trans (.of_below bA hpW)
    have hsub : ∀ b, Sx X pb V b → b < w.heap.size → w0.heap.size ≤ b := fun b hs hb => (hX b (hk2.1.sub b hb hs)).1
    have hltW : LtX X pb W := hkW.2 (fun b hs => (hX b hs).2)
    have hSV : ∀ b, Sx X pb V b → Sx X pb W b := fun b hs => hs.imp id fun ⟨o, n, c, h⟩ => ⟨o, n, c, by rw [← bA.cell (p := ⟨pb, 0, none⟩) hpW]; exact h⟩
    refine ⟨bV.size, fun b o hb ho => (bV.block b (lt_of_block hb)).trans hb, fun b hs => ?_, hk2.2 (fun b hs => (hX b hs).2), by rw [← hV]; exact Blk.new _ _ _, fun hs => ?_, by omega⟩
    · by_cases hb : b < w.heap.size
      · exact hsub b hs hb
      · have := hw.size; omega
    · have := hltW _ (hSV _ hs); omega
  have hjV : J [] V := by rw [← hV]; exact hJ.alloc _ hj0
  have HT := Lib.hid hT
  have HM := Lib.hid (tmade_yes (hT.kept bV) hne)
  have HFR := Lib.hid (fun (W' : World) (hW' : Below V.heap.size V W') => from_spec (hT.kept (bV.trans (hW'.mono bV.size))) hel hr fr)
  obtain ⟨vb, vB, vF, vl, ps, BB, last, fs, h1, h2, h3, h4, h5, h6, h7⟩ := hT.ex
  obtain ⟨A, cap, rfl⟩ := (Reads.of_own h3).form
  have hfle : fromN es fr ≤ es.length := by unfold fromN; have := lbN_le (es.map Ent.key) fr; rw [List.length_map] at this; omega
  obtain ⟨L, hL⟩ : ∃ L, fromN es fr = L := ⟨_, rfl⟩
  rw [hL] at HFR hfle hY ⊢
  obtain ⟨a, c, hcut, hread⟩ := cut_tail (Reads.of_own h3) hfle (own_cap h3) (t := 86) (by kernel_rfl) (fun w => by go_simp)
  obtain ⟨m, hm⟩ : ∃ m, es.length - L = m := ⟨_, rfl⟩
  rw [hm] at hcut hread
  have hRl : (es.drop L).length = m := by rw [List.length_drop]; exact hm
  obtain ⟨R, hR⟩ : ∃ R, es.drop L = R := ⟨_, rfl⟩
  have HRE := Lib.hid hR
  rw [hR] at hRl hY ⊢
  clear hR
  have t4 : V.cell? ⟨tp, 4, none⟩ = some (.slice A es.length cap) := cell_keep bV (h1.cell 4 _ rfl)
  have tl := Nat.lt_of_lt_of_le h1.lt bV.size
  have y0 : V.cell? ⟨b0, 0, none⟩ = some (.pointer (some ⟨tp, 0, none⟩)) := cell_keep bV (x0.cell 0 _ rfl)
  have y1 : V.cell? ⟨b1, 0, none⟩ = some (.string fr) := cell_keep bV (x1.cell 0 _ rfl)
  have l0 := Nat.lt_of_lt_of_le x0.lt bV.size
  have l1 := Nat.lt_of_lt_of_le x1.lt bV.size
  have HOLD := Lib.hid hold
  have HJV := Lib.hid hjV
  have HCUT := Lib.hid hcut
  have HREAD := Lib.hid hread
  have HBS := Lib.hid h5
  have HY := Lib.hid hY
  clear hT h1 h2 h3 h4 h5 h6 h7 hold hjV hcut hread hY hW hw hwW bV hj0 bA
  refine callsIn_of_wp_marks Try.func124 rfl trivial ?_ rfl
  simp only [Try.ntmps124, List.size_toArray, List.length_cons, List.length_nil, Nat.reduceAdd, Nat.reduceSub, Array.replicate_succ, Array.replicate_zero, List.push_toArray, List.append_toArray, List.nil_append, List.cons_append]
  gi_wp2_with fail
  refine ⟨trivial, ?_⟩
  refine (callsIn_wide.2 HM.out).mono ?_
  rintro e w1 ⟨rfl, hu⟩
  obtain rfl := hu.symm
  gi_wp2_with fail
  refine wpIn_wide.2 (region_plan_calm (S := fun w' => w'.cell? ⟨tp, 4, none⟩ = some (.slice A es.length cap) ∧ w'.cell? ⟨b0, 0, none⟩ = some (.pointer (some ⟨tp, 0, none⟩)) ∧ w'.cell? ⟨b1, 0, none⟩ = some (.string fr) ∧ tp < w'.heap.size ∧ b0 < w'.heap.size ∧ b1 < w'.heap.size)
    ((0, true) :: (1, true) :: (2, true) :: (3, true) :: (4, true) :: (5, true) :: (9, true) :: (6, false) :: (7, true) :: (8, true) :: [])
    (by kernel_rfl) (by kernel_rfl) (by kernel_rfl) (by kernel_rfl) ⟨t4, y0, y1, tl, l0, l1⟩ (fun hH => ?_))
  (repeat (first | (refine plan_take (v := ?_) (by (simp only [List.getElem?_toArray, List.getElem?_cons_succ, List.getElem?_cons_zero]; exact rfl)) (by rfl) ?_ ?_; rotate_left; (focus (intro wS hS; (try dsimp only at hS); go_split_ands; go_simp; (try with_reducible rfl))); simp only [Act.put, List.setIfInBounds_toArray, List.set_cons_zero, List.set_cons_succ]) | (refine plan_skip (by (simp only [List.getElem?_toArray, List.getElem?_cons_succ, List.getElem?_cons_zero]; exact rfl)) (by rfl) ?_; simp only [Act.put, List.setIfInBounds_toArray, List.set_cons_zero, List.set_cons_succ])))
  (refine plan_solo (by (simp only [List.getElem?_toArray, List.getElem?_cons_succ, List.getElem?_cons_zero]; exact rfl)) (by rfl) ?_; intro K hK; go_simp)
  refine (HFR.out _ (Below.refl V.heap.size V).drew).mono ?_
  rintro e w3 ⟨rfl, hb3⟩
  have b3 : Below V.heap.size V w3 := (Below.refl V.heap.size V).drew.trans hb3
  have hslc := HCUT.out
  refine hK.out _ _ ⟨cell_keep hb3 t4, cell_keep hb3 y0, cell_keep hb3 y1, Nat.lt_of_lt_of_le tl hb3.size, Nat.lt_of_lt_of_le l0 hb3.size, Nat.lt_of_lt_of_le l1 hb3.size⟩ (fun hH => ?_)
  clear hK K hH
  (try simp only [Act.put, List.setIfInBounds_toArray, List.set_cons_zero, List.set_cons_succ])
  (repeat (first | (refine plan_take (v := ?_) (by (simp only [List.getElem?_toArray, List.getElem?_cons_succ, List.getElem?_cons_zero]; exact rfl)) (by rfl) ?_ ?_; rotate_left; (focus (intro wS hS; (try dsimp only at hS); go_split_ands; go_simp; (try with_reducible rfl))); simp only [Act.put, List.setIfInBounds_toArray, List.set_cons_zero, List.set_cons_succ]) | (refine plan_skip (by (simp only [List.getElem?_toArray, List.getElem?_cons_succ, List.getElem?_cons_zero]; exact rfl)) (by rfl) ?_; simp only [Act.put, List.setIfInBounds_toArray, List.set_cons_zero, List.set_cons_succ])))
  refine plan_nil ?_
  dsimp only [calm]
  have hold := HOLD.out.below b3
  have hj3 : J [] w3 := hJ _ _ _ none HJV.out ⟨b3.os, b3.tape, b3.output, b3.size, fun k hk _ => b3.block k hk⟩ (fun r e => by cases e)
  have hs3 : W.heap.size < w3.heap.size := by have := b3.size; omega
  have HL := Lib.hid hL
  clear t4 tl y0 y1 l0 l1 HOLD HJV HCUT HFR HM hb3 hH hslc hV hL
  obtain ⟨b4, hb4⟩ : ∃ b4, W.heap.size = b4 := ⟨_, rfl⟩
  rw [hb4] at hold hs3 hJ hJx hsz hpW ⊢
  gi_wp2_with fail
  refine wpIn_loop (fun a' W' => ∃ (ds : List Deferred) (i : Value), TsRel X pb w0 b4 l b4 R fr up J ds i W' ∧ ∃ (x5 x6 x7 x8 x9 x10 x11 x12 x13 x14 x15 x16 x17 x21 x22 x23 x24 x25 x26 x27 x28 x29 x30 x31 x32 x33 : Value),
    a' = ⟨[.func (.yield l) #[] #[], .pointer (some ⟨b0, 0, none⟩), .pointer (some ⟨b1, 0, none⟩), .pointer (some ⟨b2, 0, none⟩), .pointer (some ⟨b4, 0, none⟩), x5, x6, x7, x8, x9, x10, x11, x12, x13, x14, x15, x16, x17, .slice a m c, .int .i64 (m : Nat), i, x21, x22, x23, x24, x25, x26, x27, x28, x29, x30, x31, x32, x33].toArray, ds⟩) (fun a' _ => m - (intOf (a'.tmps.getD 20 undef)).toNat) ?_ ?_
  · refine ⟨[], _, ⟨0, [], Nat.zero_le _, rfl, rfl, List.nodup_nil, by simp, hj3, hold, by omega⟩, ?_⟩
    repeat apply Exists.intro
    exact rfl
  · intro a' wr hinv
    obtain ⟨ds, i, hrel, x5, x6, x7, x8, x9, x10, x11, x12, x13, x14, x15, x16, x17, x21, x22, x23, x24, x25, x26, x27, x28, x29, x30, x31, x32, x33, rfl⟩ := hinv
    dsimp only
    obtain ⟨k, Ds, hk, rfl, hds, hnd, hmk, hj, hold, hBs⟩ := hrel
    rw [hRl] at hk
    have HJ := Lib.hid hj
    have HO := Lib.hid hold
    have HMK := Lib.hid hmk
    by_cases hkl : k < m
    · obtain ⟨e, he⟩ : ∃ e, R[k]? = some e := ⟨_, List.getElem?_eq_getElem (by omega)⟩
      have he' : es[L + k]? = some e := by rw [← HRE.out, List.getElem?_drop] at he; exact he
      have hbs := HBS.out.stay (T := fun _ => True) hold.stay trivial trivial
      obtain ⟨p, hp⟩ : ∃ p, ps[L + k]? = some p := ⟨_, List.getElem?_eq_getElem (by have := hbs.1; have := (List.getElem?_eq_some_iff.1 he').1; omega)⟩
      have hblk := hbs.2 _ _ _ he' hp
      obtain ⟨g, o, rfl, hgl, hcell⟩ := HREAD.out.val_at (k := k) (v := .pointer (some ⟨p, 0, none⟩)) (by rw [List.getElem?_drop]; unfold ptrs; rw [List.getElem?_map, hp]; rfl)
      have hc1 := hold.cell hcell
      have hg1 := Nat.lt_of_lt_of_le hgl hold.size
      have i0 : (0 : Int) ≤ (k : Int) := by omega
      have i1 : (k : Int) < (m : Int) := by omega
      have z1 : wr.cell? ⟨b1, 0, none⟩ = some (.string fr) := hold.cell (x1.cell 0 _ rfl)
      have z2 : wr.cell? ⟨b2, 0, none⟩ = some (.string up) := hold.cell (x2.cell 0 _ rfl)
      have l1 := Nat.lt_of_lt_of_le x1.lt hold.size
      have l2 := Nat.lt_of_lt_of_le x2.lt hold.size
      have HBK := Lib.hid hblk
      have HE := Lib.hid he
      clear hbs hblk he he' hp hj hold hmk
      gi_wp2_with fail
      refine ⟨trivial, ?_⟩
      refine (callsIn_wide.2 (blk_scan _ _ _ _ ⟨_, rfl⟩)).mono ?_
      rintro e5 w5 ⟨rfl, f0, f1, f2, hb5⟩
      obtain ⟨F, hF⟩ := (HBK.out.kept hb5).tab
      have ho5 := HO.out.below hb5
      have hj5 : J ((allC (R.take k)).filter (partP fr up)) w5 := hJ _ _ _ none HJ.out ⟨hb5.os, hb5.tape, hb5.output, hb5.size, fun k hk _ => hb5.block k hk⟩ (fun r e => by cases e)
      have hmk5 : ∀ D ∈ Ds, w5.heap[D]? = some (.deferred (some [])) ∧ b4 ≤ D := fun D hD => ⟨(hb5.block D (lt_of_block (HMK.out D hD).1)).trans (HMK.out D hD).1, (HMK.out D hD).2⟩
      have hnew : ∀ d, ¬ Sx X pb w5 (wr.heap.size + d) := fun d hs => by
        have h1 := HO.out.lt _ (hs.imp id fun ⟨o, n, c, h⟩ => ⟨o, n, c, by rw [← hb5.cell (p := ⟨pb, 0, none⟩) HO.out.pb]; exact h⟩)
        omega
      have hseq := btab_stops 5 (by omega) f0 f1 f2 (hnew 1) (hnew 2) ho5.lt ho5.pb hF
      obtain ⟨dn, hdn⟩ : ∃ dn, (allC (R.take k)).filter (partP fr up) = dn := ⟨_, rfl⟩
      obtain ⟨Z, hZ⟩ : ∃ Z, e.cells.filter (partP fr up) = Z := ⟨_, rfl⟩
      rw [hZ] at hseq
      rw [hdn] at hj5
      have hnext : (allC (R.take (k + 1))).filter (partP fr up) = dn ++ Z := by rw [allC_succ HE.out, List.filter_append, hdn, hZ]
      have hpre : dn ++ Z <+: (allC R).filter (partP fr up) := by
        rw [← hnext]
        have : allC R = allC (R.take (k + 1)) ++ allC (R.drop (k + 1)) := by unfold allC; rw [← List.flatMap_append, List.take_append_drop]
        rw [this, List.filter_append]
        exact List.prefix_append _ _
      have hb45 : b4 ≤ w5.heap.size := Nat.le_trans hBs hb5.size
      have HNX := Lib.hid hnext
      have HPR := Lib.hid hpre
      have hown : OwnFrom w5.heap.size (fun (pre : List Cell) W' => J (dn ++ pre) W' ∧ Old X pb w0 b4 (.func (.yield l) #[] #[]) W' ∧ (∀ D ∈ Ds, W'.heap[D]? = some (.deferred (some []))) ∧ w5.heap.size ≤ W'.heap.size) :=
        fun s A B row ⟨h1, h2, h3, h4⟩ hg hr => ⟨hJ _ A B row h1 hg (fun r e => ⟨by have := (hr r e).1; omega, (hr r e).2⟩), Old.own (β := Unit) (N := w5.heap.size) ho5.pb () A B row h2 hg hr, fun D hD => laid_other hg hr (lt_of_block (hmk5 D hD).1) (h3 D hD), Nat.le_trans h4 hg.size⟩
      have hownx : ∀ c, OwnFrom w5.heap.size (fun (pre : List Cell) W' => c = Code.ret ∧ Jx (dn ++ pre) W' ∧ (∀ D ∈ Ds, W'.heap[D]? = some (.deferred (some [])))) :=
        fun c s A B row ⟨h1, h2, h3⟩ hg hr => ⟨h1, hJx _ A B row h2 hg (fun r e => ⟨by have := (hr r e).1; omega, (hr r e).2⟩), fun D hD => laid_other hg hr (lt_of_block (hmk5 D hD).1) (h3 D hD)⟩
      clear hnext hpre hdn hZ hF f0 f1 f2 hnew hcell hc1 hg1 z1 z2 l1 l2 HBK hgl
      gi_wp2_with fail
      refine range_cells6 (p := 28) (q := 7) (by omega) rfl hseq ho5.pb _ (fun c pre W' => c = Code.ret ∧ Jx (dn ++ pre) W' ∧ (∀ D ∈ Ds, W'.heap[D]? = some (.deferred (some [])))) hown hownx ⟨by rw [List.append_nil]; exact hj5, ho5, fun D hD => (hmk5 D hD).1, Nat.le_refl _⟩ ?assign ?body ?done ?stop (fun _ _ h => h.2.2.2)
      case assign =>
        intro l x W K hK
        unfold cellA at hK ⊢
        simp only [List.setIfInBounds_toArray, List.set_cons_succ, List.set_cons_zero] at hK ⊢
        gi_wp2
        exact hK
      case body =>
        rintro l' pre x Bx W' ⟨hj, ho, hmk, hsz⟩ hB hBx hlt
        clear hseq hown hownx
        unfold cellA at hB ⊢
        simp only [List.setIfInBounds_toArray, List.set_cons_succ, List.set_cons_zero]
        obtain ⟨y0, y1, y2, y3⟩ := cell4 hB
        have hBl := hB.lt
        have yb : W'.cell? ⟨b4, 0, none⟩ = some (.func (.yield l) #[] #[]) := ho.box.cell 0 _ rfl
        have yl := ho.box.lt
        obtain ⟨fn, tmps, assign, body, hy, hRd⟩ := HY.out (dn ++ pre) x W' hj (by
          have := HPR.out.length_le
          rw [List.length_append] at this ⊢
          omega)
        unfold cellE at hy
        have HO2 := Lib.hid ho
        have HMK2 := Lib.hid hmk
        clear hB hj ho hmk
        gi_wp2_with fail
        refine (round_any hRd).mono ?_
        rintro e3 W3 ⟨hkf, (⟨rfl, hJ3, hk3⟩ | ⟨rfl, hJx3⟩)⟩
        · gi_wp2_with fail
          refine ⟨⟨hkf.size, fun k o hk => hkf.same k o (by omega)⟩, hk3.1, by rw [← List.append_assoc]; exact hJ3, HO2.out.kp hk3, fun D hD => hkf.same D _ (by have := (hmk5 D hD).2; omega) (HMK2.out D hD) rfl, Nat.le_trans hsz hkf.size⟩
        · gi_wp2_with fail
          exact ⟨⟨hkf.size, fun k o hk => hkf.same k o (by omega)⟩, rfl, by rw [← List.append_assoc]; exact hJx3, fun D hD => hkf.same D _ (by have := (hmk5 D hD).2; omega) (HMK2.out D hD) rfl⟩
      case done =>
        rintro D W' hD ⟨hj, ho, hmk, hsz⟩ hdef
        rw [← HNX.out] at hj
        have HJ2 := Lib.hid hj
        have HO2 := Lib.hid ho
        have HMK2 := Lib.hid hmk
        clear hseq hown hownx hj ho hmk
        dsimp only
        gi_wp2_with fail
        refine ⟨⟨marksOf (D :: Ds), .int .i64 ((k + 1 : Nat) : Int), ⟨k + 1, D :: Ds, by omega, rfl, rfl, List.nodup_cons.2 ⟨fun h => by have := lt_of_block (hmk5 D h).1; omega, hnd⟩, fun D' hD' => ?_, HJ2.out, HO2.out, by omega⟩, by subst hds; (repeat apply Exists.intro); exact rfl⟩, by simp [intOf]; omega⟩
        rcases List.mem_cons.1 hD' with rfl | h
        · exact ⟨hdef, by omega⟩
        · exact ⟨HMK2.out D' h, (hmk5 D' h).2⟩
      case stop =>
        rintro D c pre W' hD hp ⟨rfl, hjx, hmk⟩ hdef
        clear hseq hown hownx
        subst hds
        have HJX := Lib.hid hjx
        have HMK2 := Lib.hid hmk
        have HPR2 := Lib.hid (List.IsPrefix.trans (List.prefix_append_right_inj dn |>.2 hp) HPR.out)
        clear hjx hmk hp
        gi_wp2_with fail
        refine leaves_marks_own (B := b4) (J := fun W => Jx (dn ++ pre) W) (fun _ A B row h hg hr => hJx _ A B row h hg hr) (D :: Ds) W' (List.nodup_cons.2 ⟨fun h => by have := lt_of_block (hmk5 D h).1; omega, hnd⟩) (fun D' hD' => ?_) HJX.out (fun W2 h2 => ⟨_, results_none rfl _ _ _, ⟨_, rfl⟩, .inr ⟨_, HPR2.out, h2⟩⟩)
        rcases List.mem_cons.1 hD' with rfl | h
        · exact ⟨hdef, by omega⟩
        · exact ⟨HMK2.out D' h, (hmk5 D' h).2⟩
    · obtain rfl : k = m := by omega
      subst hds
      rw [← hRl, List.take_length] at HJ
      have hF : J ((allC R).filter (partP fr up)) wr := HJ.out
      have HJF := Lib.hid hF
      clear hj hF hold hmk
      gi_wp2_with fail
      refine leaves_marks_own (B := b4) (J := fun W => J ((allC R).filter (partP fr up)) W) (fun _ A B row h hg hr => hJ _ A B row h hg hr) Ds wr hnd (fun D hD => HMK.out D hD) HJF.out (fun W2 h2 => ⟨_, results_none rfl _ _ _, ⟨_, rfl⟩, .inl h2⟩)
end Go.Proofs.Ytbcaiegglbdonaa

/-
  The law's scans over a table's iterator: it goes over just these cells, twice.
-/
namespace Go.Proofs.Ytbcaiegglbdonaa
open Go Go.RowKit Go.Shelf
attribute [local go_sem] Oper.semAt_some
set_option linter.unusedSimpArgs false

theorem kpS_int {b8 : Nat} {W W' : World} {k : IntKind} {x : Int} {t : TypeId} (hk : KpC (fun k => k = b8) b8 W W') (hb : Blk W' b8 #[.int k x] t) : KpS (fun k => k = b8) b8 W W' :=
  ⟨hk, fun _ b hs => by
    rcases hs with rfl | ⟨o, n, c, h⟩
    · exact hb.lt
    · rw [hb.cell 0 _ rfl] at h; cases h⟩
theorem range_cellsO {n : Nat} (h1 : 1 ≤ n) {p q : Nat} {g : Operand} {assign body : Code} {Q : Exit → Act → World → Prop} {a : Act} {w : World} {lb : Array Value}
    (hg : a.eval g = .func (.func 124) #[] lb) {X : Nat → Prop} {pb : Nat} {Z : List Cell} (hseq : SeqO (n - 1) 124 lb cellE (KpS X pb) Z w) (hpb : pb < w.heap.size)
    (I : List Cell → World → Prop) (Ix : Code → List Cell → World → Prop) (hI : OwnFrom w.heap.size I) (hIx : ∀ c, OwnFrom w.heap.size (Ix c)) (h0 : I [] w)
    (hassign : ∀ (l : Nat) (x : Cell) (W : World) (K : Act → World → Prop), K ⟨(a.tmps.setIfInBounds p (.agg (cellA x))).setIfInBounds q (.pointer (some ⟨W.heap.size, 0, none⟩)), []⟩ (W.alloc (.cells (cellA x) 25)) →
      assign.wpIn (Fence.wide.inRound l) (n - 1 - 1) Try.prog (Exit.then K (fun _ _ _ => False)) ⟨a.tmps.setIfInBounds p (.agg (cellA x)), []⟩ W)
    (hbody : ∀ (l : Nat) (pre : List Cell) (x : Cell) (Bx : Nat) (W : World), I pre W → Blk W Bx (cellA x) 25 → w.heap.size ≤ Bx → pre.length < Z.length →
      body.wpIn (Fence.wide.inRound l) (n - 1 - 1) Try.prog (ownPostG w.heap.size (KpS X pb) I Ix (pre ++ [x]) W) ⟨(a.tmps.setIfInBounds p (.agg (cellA x))).setIfInBounds q (.pointer (some ⟨Bx, 0, none⟩)), []⟩ W)
    (hdone : ∀ (D : Nat) (W : World), w.heap.size ≤ D → I Z W → W.heap[D]? = some (.deferred (some [])) → Q .normal { a with defers := { target := .collected D, args := #[] } :: a.defers } W)
    (hstop : ∀ (D : Nat) (c : Code) (pre : List Cell) (W : World), w.heap.size ≤ D → pre <+: Z → Ix c pre W → W.heap[D]? = some (.deferred (some [])) → c.wpIn Fence.wide n Try.prog Q { a with defers := { target := .collected D, args := #[] } :: a.defers } W)
    (hIs : ∀ pre W, I pre W → w.heap.size ≤ W.heap.size) :
    (Code.rangeFunc g #[p] assign body).wpIn Fence.wide n Try.prog Q a w := by
  refine range_O h1 (gf := 124) hg (enters_of Try.func124 (by kernel_rfl) rfl) hseq (fun h k => h.trans k) (fun W l o o' => kpS_b hpb W l o o') (fun _ => rfl) I Ix hI hIx h0
    (fun x a' W => ∃ Bx, Blk W Bx (cellA x) 25 ∧ w.heap.size ≤ Bx ∧ a' = ⟨(a.tmps.setIfInBounds p (.agg (cellA x))).setIfInBounds q (.pointer (some ⟨Bx, 0, none⟩)), []⟩) ?_ ?_ ?_ hdone hstop
  · rintro x a' s A B row ⟨Bx, hb, hB, rfl⟩ hgr hrow
    refine ⟨Bx, (hgr.block Bx hb.lt (fun e => ?_)).trans hb, hB, rfl⟩
    obtain ⟨_, o, ho, hc⟩ := hrow Bx e.symm
    rw [show A.heap[Bx]? = _ from hb] at ho; cases ho; cases hc
  · intro l pre x W K hi hK
    have he : ((#[p] : Array Tmp).zip (cellE x)).foldl (fun t (p, v) => t.setIfInBounds p v) a.tmps = a.tmps.setIfInBounds p (.agg (cellA x)) := by simp [cellE, cellA]
    rw [he]
    refine hassign l x W K (hK _ _ ((KeepsOthers.alloc _ _).from _) ?_ (hI.alloc _ hi) ⟨W.heap.size, Blk.new _ _ _, hIs pre W hi, rfl⟩)
    exact KpS.of_below ((Below.refl _ _).alloc (Nat.le_refl _) _) (Nat.lt_of_lt_of_le hpb (hIs pre W hi))
  · rintro l pre x a' W _ hi ⟨Bx, hb, hB, rfl⟩ hlt
    exact hbody l pre x Bx W hi hb hB hlt
theorem range_meetO {n : Nat} (h1 : 1 ≤ n) {p q : Nat} {g : Operand} {assign body : Code} {Q : Exit → Act → World → Prop} {a : Act} {w : World} {lb : Array Value}
    (hg : a.eval g = .func (.func 124) #[] lb) {X : Nat → Prop} {pb : Nat} {Z : List Cell} (hseq : SeqO (n - 1) 124 lb cellE (KpS X pb) Z w) (hpb : pb < w.heap.size)
    (I : List Cell → World → Prop) (Ix : Code → List Cell → World → Prop) (hI : OwnFrom w.heap.size I) (hIx : ∀ c, OwnFrom w.heap.size (Ix c)) (h0 : I [] w)
    (hassign : ∀ (l : Nat) (x : Cell) (W : World) (K : Act → World → Prop), K ⟨(a.tmps.setIfInBounds p (.agg (cellA x))).setIfInBounds q (.pointer (some ⟨W.heap.size, 0, none⟩)), []⟩ (W.alloc (.cells (cellA x) 25)) →
      assign.wpIn (Fence.wide.inRound l) (n - 1 - 1) Try.prog (Exit.then K (fun _ _ _ => False)) ⟨a.tmps.setIfInBounds p (.agg (cellA x)), []⟩ W)
    (hbody : ∀ (l : Nat) (pre : List Cell) (x : Cell) (Bx : Nat) (W : World), I pre W → Blk W Bx (cellA x) 25 → w.heap.size ≤ Bx → pre.length < Z.length →
      body.wpIn (Fence.wide.inRound l) (n - 1 - 1) Try.prog (ownPostG w.heap.size (KpS X pb) I Ix (pre ++ [x]) W) ⟨(a.tmps.setIfInBounds p (.agg (cellA x))).setIfInBounds q (.pointer (some ⟨Bx, 0, none⟩)), []⟩ W)
    (R : Nat → World → Prop) (id : Nat)
    (hdone : ∀ (D : Nat) (W : World), w.heap.size ≤ D → I Z W → W.heap[D]? = some (.deferred (some [])) → R D W)
    (hstop : ∀ (D : Nat) (c : Code) (pre : List Cell) (W : World), w.heap.size ≤ D → pre <+: Z → Ix c pre W → W.heap[D]? = some (.deferred (some [])) → c = .exit id ∧ R D W)
    (hIs : ∀ pre W, I pre W → w.heap.size ≤ W.heap.size) (hx : ∀ a w, Q .normal a w → Q (.exit id) a w)
    (meet : ∀ D W, R D W → Q .normal { a with defers := { target := .collected D, args := #[] } :: a.defers } W) :
    (Code.rangeFunc g #[p] assign body).wpIn Fence.wide n Try.prog Q a w :=
  range_cellsO h1 hg hseq hpb I Ix hI hIx h0 hassign hbody (fun D W hD hi hk => meet D W (hdone D W hD hi hk)) (fun D c pre W hD hp hi hk => by
    obtain ⟨rfl, hr⟩ := hstop D c pre W hD hp hi hk
    exact wpIn_exit (hx _ _ (meet D W hr))) hIs
set_option maxRecDepth 100000 in
theorem tscans_result {tmps : Array Value} {b : Nat} {W : World} (hp : tmps.getD 10 undef = .pointer (some ⟨b, 0, none⟩)) (hc : Blk W b #[.bool true] 4) : (results Try.f62 tmps).run Try.prog W = .ok (.bool true) W := by
  have c0 : W.cell? ⟨b, 0, none⟩ = some (.bool true) := hc.cell 0 _ rfl
  have hr : Try.f62.results = #[.cell 10 4] := rfl
  have hp' : tmps[10]?.getD undef = .pointer (some ⟨b, 0, none⟩) := by simpa using hp
  simp only [results, hr]
  simp [hp', asAddr, loadVar, Sem.run_bind, Result.andThen]
  go_simp

set_option maxRecDepth 100000 in
set_option maxHeartbeats 4000000 in
theorem tscans_spec {w : World} {vw : Value} {tp : Nat} {b : ByteArray} {x : FootN} {es : List Ent} {Z : List Cell} {fr up : ByteArray} (stop : Int) (hT : TabIs w tp b x es) (hne : es ≠ []) (hel : es.length ≤ 4611686018427387904) (hr : RisingE es)
    (hz : Z = (allC (es.drop (fromN es fr))).filter (partP fr up)) (hzl : Z.length ≤ 2932031007402) (hw : Reads w vw Z.length 4 (cellVals Z)) :
    Calls Try.prog 62 #[.pointer (some ⟨tp, 0, none⟩), vw, .string fr, .string up, .int .i64 stop] w fun e w' => e = .returned (.bool true) ∧ Below w.heap.size w w' := by
  obtain ⟨A, cap, rfl⟩ := hw.form
  have HW := Lib.hid hw
  have HZ := Lib.hid hz
  clear hw hz
  refine (callsIn_wide (n := 7)).1 ?_
  refine callsIn_of_wp_marks Try.func62 rfl trivial ?_ rfl
  simp only [Try.ntmps62, List.size_toArray, List.length_cons, List.length_nil, Nat.reduceAdd, Nat.reduceSub, Array.replicate_succ, Array.replicate_zero, List.push_toArray, List.append_toArray, List.nil_append, List.cons_append]
  gi_wp2_with fail
  refine ⟨trivial, ?_⟩
  refine (callsIn_wide.2 (tscan_make _ _ _ _ ⟨_, rfl⟩)).mono ?_
  rintro e w6 ⟨rfl, f0, f1, f2, hb6⟩
  have hsB : (((w.alloc (.cells #[.slice A Z.length cap] 22)).alloc (.cells #[.int .i64 stop] 3)).alloc (.cells #[.bool false] 4)).heap.size = w.heap.size + 3 := by simp
  rw [hsB] at f0 f1 f2
  have hk6 : Keep w [(w.heap.size, #[.slice A Z.length cap], 22), (w.heap.size + 1, #[.int .i64 stop], 3), (w.heap.size + 1 + 1, #[.bool false], 4), (w.heap.size + 3, #[.pointer (some ⟨tp, 0, none⟩)], 95), (w.heap.size + 4, #[.string fr], 9), (w.heap.size + 5, #[.string up], 9)] [] w6 := by
    refine ⟨fun x hx => ?_, ((((Below.refl _ _).alloc (Nat.le_refl _) _).alloc (by simp) _).alloc (by simp; omega) _).trans (hb6.mono (by rw [hsB]; omega)), fun D hD => by cases hD⟩
    simp only [List.mem_cons, List.not_mem_nil, or_false] at hx
    rcases hx with rfl | rfl | rfl | rfl | rfl | rfl
    · exact (((Blk.new _ _ _).alloc _).alloc _).kept hb6
    · exact ((Blk.new' _ _ _ (by simp)).alloc _).kept hb6
    · exact (Blk.new' _ _ _ (by simp)).kept hb6
    · exact f0
    · exact f1
    · exact f2
  have hs6 : w.heap.size + 3 ≤ w6.heap.size := by have := hb6.size; rw [hsB] at this; exact this
  rw [hsB]
  clear hb6 f0 f1 f2 hsB
  gi_wp2_with fail
  obtain ⟨W0, hW0⟩ : ∃ W0, W0 = w6.alloc (.cells #[.int .i64 0] 3) := ⟨_, rfl⟩
  have hk0 : Keep w ((w6.heap.size, #[.int .i64 0], 3) :: [(w.heap.size, #[.slice A Z.length cap], 22), (w.heap.size + 1, #[.int .i64 stop], 3), (w.heap.size + 1 + 1, #[.bool false], 4), (w.heap.size + 3, #[.pointer (some ⟨tp, 0, none⟩)], 95), (w.heap.size + 4, #[.string fr], 9), (w.heap.size + 5, #[.string up], 9)]) [] W0 := by
    rw [hW0]
    exact (hk6.kept ((Below.refl _ _).alloc (Nat.le_refl _) _)).add (Blk.new _ _ _)
  rw [← hW0]
  clear hW0 hk6
  obtain ⟨b7, hb7⟩ : ∃ b7, b7 = w6.heap.size := ⟨_, rfl⟩
  rw [← hb7] at hk0 ⊢
  have hge7 : w.heap.size + 2 < b7 := by omega
  clear hb7 hs6
  refine wpIn_loop_rounds 3 ?_
  rw [roundsIn_succ]
  have d7 := hk0.blk (b7, #[.int .i64 0], 3) (by simp)
  have c7 := d7.cell 0 _ rfl
  have l7 := d7.lt
  have hlt7 : w.heap.size + 2 < W0.heap.size := (hk0.blk (w.heap.size + 1 + 1, #[.bool false], 4) (by simp)).lt
  have hlt0 : ∀ x ∈ ([(b7, #[.int .i64 0], 3), (w.heap.size, #[.slice A Z.length cap], 22), (w.heap.size + 1, #[.int .i64 stop], 3), (w.heap.size + 1 + 1, #[.bool false], 4), (w.heap.size + 3, #[.pointer (some ⟨tp, 0, none⟩)], 95), (w.heap.size + 4, #[.string fr], 9), (w.heap.size + 5, #[.string up], 9)] : List (Nat × Array Value × TypeId)), x.1 ≠ W0.heap.size := fun x hx e => by have := (hk0.blk x hx).lt; omega
  gi_wp2_with fail
  clear c7 l7 d7
  have hk1 : Keep w ((W0.heap.size, #[.int .i64 (([] : List Cell).length : Int)], 3) :: [(b7, #[.int .i64 0], 3), (w.heap.size, #[.slice A Z.length cap], 22), (w.heap.size + 1, #[.int .i64 stop], 3), (w.heap.size + 1 + 1, #[.bool false], 4), (w.heap.size + 3, #[.pointer (some ⟨tp, 0, none⟩)], 95), (w.heap.size + 4, #[.string fr], 9), (w.heap.size + 5, #[.string up], 9)]) [] (W0.alloc (.cells #[.int .i64 0] 3)) := (hk0.kept ((Below.refl _ _).alloc (Nat.le_refl _) _)).add (Blk.new _ _ _)
  have hT0 := hT.kept hk0.below
  have X0 := hk0.blk (w.heap.size + 3, #[.pointer (some ⟨tp, 0, none⟩)], 95) (by simp)
  have X1 := hk0.blk (w.heap.size + 4, #[.string fr], 9) (by simp)
  have X2 := hk0.blk (w.heap.size + 5, #[.string up], 9) (by simp)
  have hB8 : Below W0.heap.size W0 (W0.alloc (.cells #[.int .i64 0] 3)) := (Below.refl _ _).alloc (Nat.le_refl _) _
  obtain ⟨b8, hb8⟩ : ∃ b8, b8 = W0.heap.size := ⟨_, rfl⟩
  have hb8s : W0.heap.size ≤ b8 := by omega
  obtain ⟨W1, hW1⟩ : ∃ W1, W1 = W0.alloc (.cells #[.int .i64 0] 3) := ⟨_, rfl⟩
  have hge8 : w.heap.size ≤ b8 := by rw [hb8]; exact hk0.below.size
  rw [← hb8] at hk1 hlt0
  rw [← hW1] at hk1 hB8
  rw [← hW1, ← hb8]
  have hgs : w.heap.size + 3 ≤ W1.heap.size := by have := hlt7; rw [hW1, World.size_alloc]; omega
  have hgw : W0.heap.size < W1.heap.size := by rw [hW1, World.size_alloc]; omega
  clear hb8 hW1 hk0 hlt7
  have e8 := hk1.blk (b8, #[.int .i64 (([] : List Cell).length : Int)], 3) (by simp)
  have nsx : ∀ b, Sx (fun k => k = b8) b8 W1 b → b = b8 := by
    rintro b (h | ⟨o, n, c, h⟩)
    · exact h
    · rw [e8.cell 0 _ rfl] at h; cases h
  have hseq := tscan_seq (X := fun k => k = b8) (pb := b8) hT0 hne hel hr X0 X1 X2 hB8 (fun b h => by rw [nsx b h]; exact ⟨hb8s, e8.lt⟩) e8.lt
  rw [← HZ.out] at hseq
  have hown : OwnFrom W1.heap.size (fun (pre : List Cell) W => Keep w ((b8, #[.int .i64 (pre.length : Int)], 3) :: [(b7, #[.int .i64 0], 3), (w.heap.size, #[.slice A Z.length cap], 22), (w.heap.size + 1, #[.int .i64 stop], 3), (w.heap.size + 1 + 1, #[.bool false], 4), (w.heap.size + 3, #[.pointer (some ⟨tp, 0, none⟩)], 95), (w.heap.size + 4, #[.string fr], 9), (w.heap.size + 5, #[.string up], 9)]) [] W ∧ W1.heap.size ≤ W.heap.size) :=
    OwnFrom.and (keep_own (fun (pre : List Cell) => (b8, #[.int .i64 (pre.length : Int)], 3) :: [(b7, #[.int .i64 0], 3), (w.heap.size, #[.slice A Z.length cap], 22), (w.heap.size + 1, #[.int .i64 stop], 3), (w.heap.size + 1 + 1, #[.bool false], 4), (w.heap.size + 3, #[.pointer (some ⟨tp, 0, none⟩)], 95), (w.heap.size + 4, #[.string fr], 9), (w.heap.size + 5, #[.string up], 9)]) hk1.below.size (fun D hD => (Array.getElem?_eq_some_iff.1 (hk1.marks D hD)).1)) (fun _ _ _ _ h hg _ => Nat.le_trans h hg.size)
  refine range_meetO (p := 24) (q := 14) (by omega) rfl hseq e8.lt (fun pre W => Keep w ((b8, #[.int .i64 (pre.length : Int)], 3) :: [(b7, #[.int .i64 0], 3), (w.heap.size, #[.slice A Z.length cap], 22), (w.heap.size + 1, #[.int .i64 stop], 3), (w.heap.size + 1 + 1, #[.bool false], 4), (w.heap.size + 3, #[.pointer (some ⟨tp, 0, none⟩)], 95), (w.heap.size + 4, #[.string fr], 9), (w.heap.size + 5, #[.string up], 9)]) [] W ∧ W1.heap.size ≤ W.heap.size)
    (fun c pre W => (c = .ret ∧ ¬ pre <+: Z) ∨ (c = .exit 2 ∧ (0 = 0) ∧ (pre.length : Int) = stop ∧ Keep w ((b8, #[.int .i64 (pre.length : Int)], 3) :: [(b7, #[.int .i64 0], 3), (w.heap.size, #[.slice A Z.length cap], 22), (w.heap.size + 1, #[.int .i64 stop], 3), (w.heap.size + 1 + 1, #[.bool false], 4), (w.heap.size + 3, #[.pointer (some ⟨tp, 0, none⟩)], 95), (w.heap.size + 4, #[.string fr], 9), (w.heap.size + 5, #[.string up], 9)]) [] W ∧ W1.heap.size ≤ W.heap.size))
    hown (fun c s A B row hs hg hr => hs.imp id fun ⟨h1, h2, h3, h4⟩ => ⟨h1, h2, h3, hown s A B row h4 hg hr⟩) ⟨hk1, Nat.le_refl _⟩ ?assign ?body
    (fun Dn W => W1.heap.size ≤ Dn ∧ ∃ k : Nat, k ≤ Z.length ∧ (k = Z.length ∨ ((0 = 0) ∧ (k : Int) = stop)) ∧ Keep w ((b8, #[.int .i64 (k : Int)], 3) :: [(b7, #[.int .i64 0], 3), (w.heap.size, #[.slice A Z.length cap], 22), (w.heap.size + 1, #[.int .i64 stop], 3), (w.heap.size + 1 + 1, #[.bool false], 4), (w.heap.size + 3, #[.pointer (some ⟨tp, 0, none⟩)], 95), (w.heap.size + 4, #[.string fr], 9), (w.heap.size + 5, #[.string up], 9)]) (Dn :: []) W) 2
    (fun D W hD hi hk => ⟨hD, Z.length, Nat.le_refl _, .inl rfl, hi.1.mark hk⟩)
    (fun D c pre W hD hp hi hk => by
      rcases hi with ⟨_, hn⟩ | ⟨rfl, h2, h3, h4, _⟩
      · exact absurd hp hn
      · exact ⟨rfl, hD, pre.length, hp.length_le, .inr ⟨h2, h3⟩, h4.mark hk⟩) (fun pre W h => h.2) (by intro a w h; simpa [Exit.inBlock] using h) ?meet
  case assign =>
    intro l x W K hK
    unfold cellA at hK ⊢
    simp only [List.setIfInBounds_toArray, List.set_cons_succ, List.set_cons_zero] at hK ⊢
    gi_wp2
    exact hK
  case body =>
    rintro l pre x Bx W ⟨hk, hsz⟩ hB _ hlt
    clear hseq hown e8 nsx hk1 hT0 X0 X1 X2 hB8 hb8s
    unfold cellA at hB ⊢
    simp only [List.setIfInBounds_toArray, List.set_cons_succ, List.set_cons_zero]
    obtain ⟨y0, y1, y2, y3⟩ := cell4 hB
    have hBl := hB.lt
    clear hB
    have g8 := hk.blk (b8, #[.int .i64 (pre.length : Int)], 3) (by simp)
    have g7 := hk.blk (b7, #[.int .i64 0], 3) (by simp)
    have gw := hk.blk (w.heap.size, #[.slice A Z.length cap], 22) (by simp)
    have gs := hk.blk (w.heap.size + 1, #[.int .i64 stop], 3) (by simp)
    have g6 := hk.blk (w.heap.size + 1 + 1, #[.bool false], 4) (by simp)
    have a1 := g8.cell 0 _ rfl
    have a2 := g8.lt
    have a3 := g8.frozen 0
    have a4 := g7.cell 0 _ rfl
    have a5 := g7.lt
    have a6 := gw.cell 0 _ rfl
    have a7 := gw.lt
    have a8 := gs.cell 0 _ rfl
    have a9 := gs.lt
    have a10 := g6.cell 0 _ rfl
    have a11 := g6.lt
    have a12 := g6.frozen 0
    have hn7 : b7 ≠ b8 := hlt0 (b7, #[.int .i64 0], 3) (by simp)
    have hns : w.heap.size + 1 ≠ b8 := hlt0 (w.heap.size + 1, #[.int .i64 stop], 3) (by simp)
    obtain ⟨z, hz⟩ : ∃ z, Z[pre.length]? = some z := ⟨_, List.getElem?_eq_getElem hlt⟩
    obtain ⟨b, o, hA, hbl, z0, z1, z2, z3⟩ := (HW.out.kept hk.below).cell_at hz
    subst hA
    have i0 : (0 : Int) ≤ (pre.length : Int) := by omega
    have i1 : (pre.length : Int) < (Z.length : Int) := by omega
    have i3 : ¬ (Z.length ≤ pre.length) := by omega
    have i4 : decide (Z.length ≤ pre.length) = false := by simp; omega
    have i2 : IntKind.i64.wrap ((pre.length : Int) + 1) = (pre.length : Int) + 1 := IntWalk.i64_in _ (by omega)
    have HZz := Lib.hid hz
    have hne := cell_neq x z
    clear hz g8 g7 gw gs g6
    by_cases hxz : x = z
    · have hb : decide (x = z) = true := by simp [hxz]
      rw [hb] at hne
      clear hb hxz
      gi_wp2_with fail
      have he : (((pre ++ [x]).length : Nat) : Int) = (pre.length : Int) + 1 := by simp
      have HE := Lib.hid he
      clear he
      by_cases hst : (pre.length : Int) + 1 = stop
      · have hsb : ((pre.length : Int) + 1 == stop) = true := by simpa using hst
        have HST := Lib.hid hst
        clear hst
        gi_wp2_with fail
        (refine region_quiet_round (F := Fence.wide) rfl (by kernel_rfl) (by kernel_rfl) (by kernel_rfl) ?_; (repeat (gi_big_quiet_step (fail))); refine wpQuietIn_nil ?_; intro _ hw'; obtain ⟨nq, hw''⟩ := hw'; subst hw'')
        have hkq := (hk.kept (below_drewN (Below.refl _ _) nq)).set (fun y hy => hlt0 y hy) hge8 (.int .i64 ((pre.length : Int) + 1))
        gi_wp2_with fail
        exact ⟨(((keeps_drewN W nq).trans (KeepsOthers.setCell _ _ _)).from _), .inr ⟨rfl, by simp, by rw [HE.out]; exact HST.out, by rw [HE.out]; exact hkq, by simpa using hsz⟩⟩
      · have hsb : ((pre.length : Int) + 1 == stop) = false := by simpa using hst
        clear hst
        gi_wp2_with fail
        (refine region_quiet_round (F := Fence.wide) rfl (by kernel_rfl) (by kernel_rfl) (by kernel_rfl) ?_; (repeat (gi_big_quiet_step (fail))); refine wpQuietIn_nil ?_; intro _ hw'; obtain ⟨nq, hw''⟩ := hw'; subst hw'')
        have hkq := (hk.kept (below_drewN (Below.refl _ _) nq)).set (fun y hy => hlt0 y hy) hge8 (.int .i64 ((pre.length : Int) + 1))
        have hkc : KpC (fun k => k = b8) b8 W ((W.drewN nq).setCell ⟨b8, 0, none⟩ (.int .i64 ((pre.length : Int) + 1))) :=
          (KpC.of_below (below_drewN (Below.refl _ _) nq) a2).trans (KpC.setInt (X := fun k => k = b8) (b := b8) rfl _ _ ((hk.blk (b8, #[.int .i64 (pre.length : Int)], 3) (by simp)).kept (below_drewN (Below.refl _ _) nq)))
        have hkp := kpS_int hkc (hkq.blk (b8, #[.int .i64 ((pre.length : Int) + 1)], 3) (by simp))
        gi_wp2_with fail
        exact ⟨(((keeps_drewN W nq).trans (KeepsOthers.setCell _ _ _)).from _), hkp, by rw [HE.out]; exact hkq, by simpa using hsz⟩
    · have hb : decide (x = z) = false := by simp [hxz]
      rw [hb] at hne
      have hnp : ¬ (pre ++ [x]) <+: Z := by
        rintro ⟨t, ht⟩
        have h1 := HZz.out
        rw [← ht] at h1
        simp at h1
        exact hxz h1
      have HNP := Lib.hid hnp
      clear hb hxz hnp
      gi_wp2_with fail
      (refine region_quiet_round (F := Fence.wide) rfl (by kernel_rfl) (by kernel_rfl) (by kernel_rfl) ?_; (repeat (gi_big_quiet_step (fail))); refine wpQuietIn_nil ?_; intro _ hw'; obtain ⟨nq, hw''⟩ := hw'; subst hw'')
      gi_wp2_with fail
      exact ⟨(((keeps_drewN W nq).trans (KeepsOthers.setCell _ _ _)).from _), .inl ⟨rfl, HNP.out⟩⟩
  case meet =>
    rintro D W ⟨hD, k, hkZ, hor, hk⟩
    have hk1s := Nat.le_trans hgs hD
    clear hseq hown e8 nsx hk1 hT0 X0 X1 X2 hB8 hb8s
    have g8 := hk.blk (b8, #[.int .i64 (k : Int)], 3) (by simp)
    have g7 := hk.blk (b7, #[.int .i64 0], 3) (by simp)
    have gw := hk.blk (w.heap.size, #[.slice A Z.length cap], 22) (by simp)
    have gs := hk.blk (w.heap.size + 1, #[.int .i64 stop], 3) (by simp)
    have g6 := hk.blk (w.heap.size + 1 + 1, #[.bool false], 4) (by simp)
    have a1 := g8.cell 0 _ rfl
    have a2 := g8.lt
    have a4 := g7.cell 0 _ rfl
    have a5 := g7.lt
    have a6 := gw.cell 0 _ rfl
    have a7 := gw.lt
    have a8 := gs.cell 0 _ rfl
    have a9 := gs.lt
    have a10 := g6.cell 0 _ rfl
    have a11 := g6.lt
    clear g8 g7 gw gs g6
    gi_upto_region 12 with fail
    gi_cut [58] from 46 (fun v wx => wx = W ∧ v = .bool false)
    case first =>
      by_cases hkz : k = Z.length
      · subst hkz
        gi_wp2_with fail
        gi_meet
        exact ⟨rfl, rfl⟩
      · obtain ⟨_, hks⟩ := hor.resolve_left hkz
        have m1 : ((k : Int) != (Z.length : Int)) = true := by simp; omega
        have m2 : ((k : Int) != stop) = false := by simp [hks]
        clear hks hkz
        gi_wp2_with fail
        gi_meet
        exact ⟨rfl, rfl⟩
    case rest =>
      obtain ⟨rfl, rfl⟩ := hcut
      gi_wp2_with fail
      obtain ⟨b7', hb7⟩ : ∃ b7', b7' = wc.heap.size := ⟨_, rfl⟩
      have hk0 : Keep w [(b7', #[.int .i64 1], 3), (w.heap.size, #[.slice A Z.length cap], 22), (w.heap.size + 1, #[.int .i64 stop], 3), (w.heap.size + 1 + 1, #[.bool false], 4), (w.heap.size + 3, #[.pointer (some ⟨tp, 0, none⟩)], 95), (w.heap.size + 4, #[.string fr], 9), (w.heap.size + 5, #[.string up], 9)] [D] (wc.alloc (.cells #[.int .i64 1] 3)) := ((hk.kept ((Below.refl _ _).alloc (Nat.le_refl _) _)).less (fun y hy => List.mem_cons_of_mem _ (List.mem_cons_of_mem _ hy))).add (by rw [hb7]; exact Blk.new _ _ _)
      obtain ⟨W2, hW2⟩ : ∃ W2, W2 = wc.alloc (.cells #[.int .i64 1] 3) := ⟨_, rfl⟩
      rw [← hW2] at hk0
      rw [← hW2, ← hb7]
      have hge9 : w.heap.size + 2 < D := by have := hk1s; omega
      have hlD : D < W2.heap.size := (Array.getElem?_eq_some_iff.1 (hk0.marks D (by simp))).1
      clear hb7 hW2 hk hor hkZ a1 a2 a4 a5 a6 a7 a8 a9 a10 a11 hlt0 hge8 hD hgw hgs hk1s
      rw [roundsIn_succ]
      have d7 := hk0.blk (b7', #[.int .i64 1], 3) (by simp)
      have c7 := d7.cell 0 _ rfl
      have l7 := d7.lt
      have hlt7 : w.heap.size + 2 < W2.heap.size := (hk0.blk (w.heap.size + 1 + 1, #[.bool false], 4) (by simp)).lt
      have hlt0 : ∀ x ∈ ([(b7', #[.int .i64 1], 3), (w.heap.size, #[.slice A Z.length cap], 22), (w.heap.size + 1, #[.int .i64 stop], 3), (w.heap.size + 1 + 1, #[.bool false], 4), (w.heap.size + 3, #[.pointer (some ⟨tp, 0, none⟩)], 95), (w.heap.size + 4, #[.string fr], 9), (w.heap.size + 5, #[.string up], 9)] : List (Nat × Array Value × TypeId)), x.1 ≠ W2.heap.size := fun x hx e => by have := (hk0.blk x hx).lt; omega
      gi_wp2_with fail
      clear c7 l7 d7
      have hk1 : Keep w ((W2.heap.size, #[.int .i64 (([] : List Cell).length : Int)], 3) :: [(b7', #[.int .i64 1], 3), (w.heap.size, #[.slice A Z.length cap], 22), (w.heap.size + 1, #[.int .i64 stop], 3), (w.heap.size + 1 + 1, #[.bool false], 4), (w.heap.size + 3, #[.pointer (some ⟨tp, 0, none⟩)], 95), (w.heap.size + 4, #[.string fr], 9), (w.heap.size + 5, #[.string up], 9)]) [D] (W2.alloc (.cells #[.int .i64 0] 3)) := (hk0.kept ((Below.refl _ _).alloc (Nat.le_refl _) _)).add (Blk.new _ _ _)
      have hT0 := hT.kept hk0.below
      have X0 := hk0.blk (w.heap.size + 3, #[.pointer (some ⟨tp, 0, none⟩)], 95) (by simp)
      have X1 := hk0.blk (w.heap.size + 4, #[.string fr], 9) (by simp)
      have X2 := hk0.blk (w.heap.size + 5, #[.string up], 9) (by simp)
      have hB8 : Below W2.heap.size W2 (W2.alloc (.cells #[.int .i64 0] 3)) := (Below.refl _ _).alloc (Nat.le_refl _) _
      obtain ⟨b8, hb8⟩ : ∃ b8, b8 = W2.heap.size := ⟨_, rfl⟩
      have hb8s : W2.heap.size ≤ b8 := by omega
      obtain ⟨W1, hW1⟩ : ∃ W1, W1 = W2.alloc (.cells #[.int .i64 0] 3) := ⟨_, rfl⟩
      have hge8 : w.heap.size ≤ b8 := by rw [hb8]; exact hk0.below.size
      rw [← hb8] at hk1 hlt0
      rw [← hW1] at hk1 hB8
      rw [← hW1, ← hb8]
      have hgs : w.heap.size + 3 ≤ W1.heap.size := by have := hlt7; rw [hW1, World.size_alloc]; omega
      have hgw : W2.heap.size < W1.heap.size := by rw [hW1, World.size_alloc]; omega
      clear hb8 hW1 hk0 hlt7
      have e8 := hk1.blk (b8, #[.int .i64 (([] : List Cell).length : Int)], 3) (by simp)
      have nsx : ∀ b, Sx (fun k => k = b8) b8 W1 b → b = b8 := by
        rintro b (h | ⟨o, n, c, h⟩)
        · exact h
        · rw [e8.cell 0 _ rfl] at h; cases h
      have hseq := tscan_seq (X := fun k => k = b8) (pb := b8) hT0 hne hel hr X0 X1 X2 hB8 (fun b h => by rw [nsx b h]; exact ⟨hb8s, e8.lt⟩) e8.lt
      rw [← HZ.out] at hseq
      have hown : OwnFrom W1.heap.size (fun (pre : List Cell) W => Keep w ((b8, #[.int .i64 (pre.length : Int)], 3) :: [(b7', #[.int .i64 1], 3), (w.heap.size, #[.slice A Z.length cap], 22), (w.heap.size + 1, #[.int .i64 stop], 3), (w.heap.size + 1 + 1, #[.bool false], 4), (w.heap.size + 3, #[.pointer (some ⟨tp, 0, none⟩)], 95), (w.heap.size + 4, #[.string fr], 9), (w.heap.size + 5, #[.string up], 9)]) [D] W ∧ W1.heap.size ≤ W.heap.size) :=
        OwnFrom.and (keep_own (fun (pre : List Cell) => (b8, #[.int .i64 (pre.length : Int)], 3) :: [(b7', #[.int .i64 1], 3), (w.heap.size, #[.slice A Z.length cap], 22), (w.heap.size + 1, #[.int .i64 stop], 3), (w.heap.size + 1 + 1, #[.bool false], 4), (w.heap.size + 3, #[.pointer (some ⟨tp, 0, none⟩)], 95), (w.heap.size + 4, #[.string fr], 9), (w.heap.size + 5, #[.string up], 9)]) hk1.below.size (fun D hD => (Array.getElem?_eq_some_iff.1 (hk1.marks D hD)).1)) (fun _ _ _ _ h hg _ => Nat.le_trans h hg.size)
      refine range_meetO (p := 24) (q := 14) (by omega) rfl hseq e8.lt (fun pre W => Keep w ((b8, #[.int .i64 (pre.length : Int)], 3) :: [(b7', #[.int .i64 1], 3), (w.heap.size, #[.slice A Z.length cap], 22), (w.heap.size + 1, #[.int .i64 stop], 3), (w.heap.size + 1 + 1, #[.bool false], 4), (w.heap.size + 3, #[.pointer (some ⟨tp, 0, none⟩)], 95), (w.heap.size + 4, #[.string fr], 9), (w.heap.size + 5, #[.string up], 9)]) [D] W ∧ W1.heap.size ≤ W.heap.size)
        (fun c pre W => (c = .ret ∧ ¬ pre <+: Z) ∨ (c = .exit 2 ∧ (1 = 0) ∧ (pre.length : Int) = stop ∧ Keep w ((b8, #[.int .i64 (pre.length : Int)], 3) :: [(b7', #[.int .i64 1], 3), (w.heap.size, #[.slice A Z.length cap], 22), (w.heap.size + 1, #[.int .i64 stop], 3), (w.heap.size + 1 + 1, #[.bool false], 4), (w.heap.size + 3, #[.pointer (some ⟨tp, 0, none⟩)], 95), (w.heap.size + 4, #[.string fr], 9), (w.heap.size + 5, #[.string up], 9)]) [D] W ∧ W1.heap.size ≤ W.heap.size))
        hown (fun c s A B row hs hg hr => hs.imp id fun ⟨h1, h2, h3, h4⟩ => ⟨h1, h2, h3, hown s A B row h4 hg hr⟩) ⟨hk1, Nat.le_refl _⟩ ?assign ?body
        (fun Dn W => W1.heap.size ≤ Dn ∧ ∃ k : Nat, k ≤ Z.length ∧ (k = Z.length ∨ ((1 = 0) ∧ (k : Int) = stop)) ∧ Keep w ((b8, #[.int .i64 (k : Int)], 3) :: [(b7', #[.int .i64 1], 3), (w.heap.size, #[.slice A Z.length cap], 22), (w.heap.size + 1, #[.int .i64 stop], 3), (w.heap.size + 1 + 1, #[.bool false], 4), (w.heap.size + 3, #[.pointer (some ⟨tp, 0, none⟩)], 95), (w.heap.size + 4, #[.string fr], 9), (w.heap.size + 5, #[.string up], 9)]) (Dn :: [D]) W) 2
        (fun D W hD hi hk => ⟨hD, Z.length, Nat.le_refl _, .inl rfl, hi.1.mark hk⟩)
        (fun D c pre W hD hp hi hk => by
          rcases hi with ⟨_, hn⟩ | ⟨rfl, h2, h3, h4, _⟩
          · exact absurd hp hn
          · exact ⟨rfl, hD, pre.length, hp.length_le, .inr ⟨h2, h3⟩, h4.mark hk⟩) (fun pre W h => h.2) (by intro a w h; simpa [Exit.inBlock] using h) ?meet
      case assign =>
        intro l x W K hK
        unfold cellA at hK ⊢
        simp only [List.setIfInBounds_toArray, List.set_cons_succ, List.set_cons_zero] at hK ⊢
        gi_wp2
        exact hK
      case body =>
        rintro l pre x Bx W ⟨hk, hsz⟩ hB _ hlt
        clear hseq hown e8 nsx hk1 hT0 X0 X1 X2 hB8 hb8s
        unfold cellA at hB ⊢
        simp only [List.setIfInBounds_toArray, List.set_cons_succ, List.set_cons_zero]
        obtain ⟨y0, y1, y2, y3⟩ := cell4 hB
        have hBl := hB.lt
        clear hB
        have g8 := hk.blk (b8, #[.int .i64 (pre.length : Int)], 3) (by simp)
        have g7 := hk.blk (b7', #[.int .i64 1], 3) (by simp)
        have gw := hk.blk (w.heap.size, #[.slice A Z.length cap], 22) (by simp)
        have gs := hk.blk (w.heap.size + 1, #[.int .i64 stop], 3) (by simp)
        have g6 := hk.blk (w.heap.size + 1 + 1, #[.bool false], 4) (by simp)
        have a1 := g8.cell 0 _ rfl
        have a2 := g8.lt
        have a3 := g8.frozen 0
        have a4 := g7.cell 0 _ rfl
        have a5 := g7.lt
        have a6 := gw.cell 0 _ rfl
        have a7 := gw.lt
        have a8 := gs.cell 0 _ rfl
        have a9 := gs.lt
        have a10 := g6.cell 0 _ rfl
        have a11 := g6.lt
        have a12 := g6.frozen 0
        have hn7 : b7' ≠ b8 := hlt0 (b7', #[.int .i64 1], 3) (by simp)
        have hns : w.heap.size + 1 ≠ b8 := hlt0 (w.heap.size + 1, #[.int .i64 stop], 3) (by simp)
        obtain ⟨z, hz⟩ : ∃ z, Z[pre.length]? = some z := ⟨_, List.getElem?_eq_getElem hlt⟩
        obtain ⟨b, o, hA, hbl, z0, z1, z2, z3⟩ := (HW.out.kept hk.below).cell_at hz
        subst hA
        have i0 : (0 : Int) ≤ (pre.length : Int) := by omega
        have i1 : (pre.length : Int) < (Z.length : Int) := by omega
        have i3 : ¬ (Z.length ≤ pre.length) := by omega
        have i4 : decide (Z.length ≤ pre.length) = false := by simp; omega
        have i2 : IntKind.i64.wrap ((pre.length : Int) + 1) = (pre.length : Int) + 1 := IntWalk.i64_in _ (by omega)
        have HZz := Lib.hid hz
        have hne := cell_neq x z
        clear hz g8 g7 gw gs g6
        by_cases hxz : x = z
        · have hb : decide (x = z) = true := by simp [hxz]
          rw [hb] at hne
          clear hb hxz
          gi_wp2_with fail
          have he : (((pre ++ [x]).length : Nat) : Int) = (pre.length : Int) + 1 := by simp
          have HE := Lib.hid he
          clear he
          gi_wp2_with fail
          (refine region_quiet_round (F := Fence.wide) rfl (by kernel_rfl) (by kernel_rfl) (by kernel_rfl) ?_; (repeat (gi_big_quiet_step (fail))); refine wpQuietIn_nil ?_; intro _ hw'; obtain ⟨nq, hw''⟩ := hw'; subst hw'')
          have hkq := (hk.kept (below_drewN (Below.refl _ _) nq)).set (fun y hy => hlt0 y hy) hge8 (.int .i64 ((pre.length : Int) + 1))
          have hkc : KpC (fun k => k = b8) b8 W ((W.drewN nq).setCell ⟨b8, 0, none⟩ (.int .i64 ((pre.length : Int) + 1))) :=
            (KpC.of_below (below_drewN (Below.refl _ _) nq) a2).trans (KpC.setInt (X := fun k => k = b8) (b := b8) rfl _ _ ((hk.blk (b8, #[.int .i64 (pre.length : Int)], 3) (by simp)).kept (below_drewN (Below.refl _ _) nq)))
          have hkp := kpS_int hkc (hkq.blk (b8, #[.int .i64 ((pre.length : Int) + 1)], 3) (by simp))
          gi_wp2_with fail
          exact ⟨(((keeps_drewN W nq).trans (KeepsOthers.setCell _ _ _)).from _), hkp, by rw [HE.out]; exact hkq, by simpa using hsz⟩
        · have hb : decide (x = z) = false := by simp [hxz]
          rw [hb] at hne
          have hnp : ¬ (pre ++ [x]) <+: Z := by
            rintro ⟨t, ht⟩
            have h1 := HZz.out
            rw [← ht] at h1
            simp at h1
            exact hxz h1
          have HNP := Lib.hid hnp
          clear hb hxz hnp
          gi_wp2_with fail
          (refine region_quiet_round (F := Fence.wide) rfl (by kernel_rfl) (by kernel_rfl) (by kernel_rfl) ?_; (repeat (gi_big_quiet_step (fail))); refine wpQuietIn_nil ?_; intro _ hw'; obtain ⟨nq, hw''⟩ := hw'; subst hw'')
          gi_wp2_with fail
          exact ⟨(((keeps_drewN W nq).trans (KeepsOthers.setCell _ _ _)).from _), .inl ⟨rfl, HNP.out⟩⟩
      case meet =>
        rintro D2 W ⟨hD, k, hkZ, hor, hk⟩
        have hk1s := Nat.le_trans hgs hD
        clear hseq hown e8 nsx hk1 hT0 X0 X1 X2 hB8 hb8s
        have g8 := hk.blk (b8, #[.int .i64 (k : Int)], 3) (by simp)
        have g7 := hk.blk (b7', #[.int .i64 1], 3) (by simp)
        have gw := hk.blk (w.heap.size, #[.slice A Z.length cap], 22) (by simp)
        have gs := hk.blk (w.heap.size + 1, #[.int .i64 stop], 3) (by simp)
        have g6 := hk.blk (w.heap.size + 1 + 1, #[.bool false], 4) (by simp)
        have a1 := g8.cell 0 _ rfl
        have a2 := g8.lt
        have a4 := g7.cell 0 _ rfl
        have a5 := g7.lt
        have a6 := gw.cell 0 _ rfl
        have a7 := gw.lt
        have a8 := gs.cell 0 _ rfl
        have a9 := gs.lt
        have a10 := g6.cell 0 _ rfl
        have a11 := g6.lt
        clear g8 g7 gw gs g6
        gi_upto_region 12 with fail
        gi_cut [58] from 46 (fun v wx => wx = W ∧ v = .bool false)
        case first =>
          by_cases hkz : k = Z.length
          · subst hkz
            gi_wp2_with fail
            gi_meet
            exact ⟨rfl, rfl⟩
          · exact absurd (hor.resolve_left hkz).1 (by decide)
        case rest =>
          obtain ⟨rfl, rfl⟩ := hcut
          gi_wp2_with fail
          rw [roundsIn_succ]
          have g7 := (hk.kept ((Below.refl _ _).alloc (Nat.le_refl _) (.cells #[.int .i64 2] 3)))
          have g6 := g7.blk (w.heap.size + 1 + 1, #[.bool false], 4) (by simp)
          have f1 := g6.lt
          have f2 := g6.frozen 0
          have f3 := g6.cell 0 _ rfl
          have hkF := ((hk.less (Bs' := [(w.heap.size + 1 + 1, #[.bool false], 4)]) (by simp)).set (by simp) (by omega) (.bool true)).kept ((Below.refl _ _).alloc (Nat.le_refl _) (.cells #[.int .i64 2] 3))
          gi_wp2_with fail
          refine leaves_marks (B := w.heap.size + 3) [D2, D] _ ?_ ?_ ?_ (fun W' hb => ⟨_, tscans_result (b := w.heap.size + 1 + 1) rfl ((hkF.blk (w.heap.size + 1 + 1, #[.bool true], 4) (by simp)).below hb (by omega)), rfl, hkF.below.trans (hb.mono (by omega))⟩)
          · simp; omega
          · intro d hd
            refine ⟨hkF.marks d hd, ?_⟩
            simp at hd
            rcases hd with rfl | rfl <;> omega
          · have := (hkF.blk (w.heap.size + 1 + 1, #[.bool true], 4) (by simp)).lt
            omega

end Go.Proofs.Ytbcaiegglbdonaa

/-
  In a built table each cell is found by its own key and moment. Plain.
-/
namespace Go.Proofs.Ytbcaiegglbdonaa
open Go
set_option linter.unusedSimpArgs false

theorem seek_append (a b : List Cell) (k : ByteArray) (q : Int) : seekC (a ++ b) k q = if (seekC a k q).2 = true then seekC a k q else seekC b k q := by
  unfold seekC posN
  rw [List.takeWhile_append]
  by_cases h : (a.takeWhile fun c => decide (PLt c.key c.seq k q)).length = a.length
  · rw [if_pos h, h, List.getElem?_eq_none (Nat.le_refl _), List.length_append, List.getElem?_append_right (by omega), Nat.add_sub_cancel_left]
    simp
  · rw [if_neg h]
    have hl := (List.takeWhile_sublist (fun c : Cell => decide (PLt c.key c.seq k q)) (l := a)).length_le
    rw [List.getElem?_append_left (by omega), List.getElem?_eq_getElem (by omega)]
    simp
theorem seek_skip {a : List Cell} {k : ByteArray} {q : Int} (h : ∀ c ∈ a, PLt c.key c.seq k q) (b : List Cell) : seekC (a ++ b) k q = seekC b k q := by
  rw [seek_append]
  have : seekC a k q = (Cell.zero, false) := seek_end (posN_eq a k q a.length (Nat.le_refl _) (fun j x _ hx => h x (List.mem_of_getElem? hx)) (fun x hx => by rw [List.getElem?_eq_none (Nat.le_refl _)] at hx; cases hx))
  rw [this, if_neg (by simp)]
theorem scan_flat : ∀ (es : List Ent) (k : ByteArray) (q : Int), scanE es k q = getS k (seekC (allC es) k q)
  | [], k, q => by
    unfold scanE
    have : seekC (allC []) k q = (Cell.zero, false) := rfl
    rw [this]
    unfold getS
    rw [if_neg (by simp)]
  | e :: es, k, q => by
    have ha : allC (e :: es) = e.cells ++ allC es := rfl
    unfold scanE
    rw [ha, seek_append]
    by_cases h : (seekC e.cells k q).2 = true
    · rw [if_pos h, if_pos h]
      unfold getS
      by_cases h2 : (seekC e.cells k q).1.key = k
      · rw [if_pos h2, if_pos ⟨h, h2⟩, ← h]
      · rw [if_neg h2, if_neg (fun x => h2 x.2)]
    · rw [if_neg h, if_neg h]
      exact scan_flat es k q
theorem ents_low {l : List Cell} {b r : Nat} (h : adjC l = true) (k : ByteArray) : ∀ c ∈ allC ((entsN l b r).take (fromN (entsN l b r) k)), SLt c.key k := by
  intro c hc
  have hr : RisingE (entsN l b r) := ents_rise h
  obtain ⟨e, he, hce⟩ := List.mem_flatMap.1 hc
  obtain ⟨i, hi⟩ := List.mem_iff_getElem?.1 he
  have hif : i < fromN (entsN l b r) k := by
    have := (List.getElem?_eq_some_iff.1 hi).1
    rw [List.length_take] at this
    omega
  rw [List.getElem?_take_of_lt hif] at hi
  unfold fromN at hif
  have hlb := lbN_le ((entsN l b r).map Ent.key) k
  rw [List.length_map] at hlb
  obtain ⟨e2, he2⟩ : ∃ e2, (entsN l b r)[i + 1]? = some e2 := ⟨_, List.getElem?_eq_getElem (by omega)⟩
  have hk2 : SLt e2.key k := (lbN_spec hr (i + 1) e2.key (by rw [List.getElem?_map, he2]; rfl)).2 (by omega)
  unfold entsN at hi he2
  rw [List.getElem?_map] at hi he2
  obtain ⟨p, hp, rfl⟩ := Option.map_eq_some_iff.1 hi
  obtain ⟨p2, hp2, rfl⟩ := Option.map_eq_some_iff.1 he2
  have hpq : p.2 ≤ p2.1 := by
    have := cutN_order l b
    rw [List.pairwise_iff_getElem] at this
    obtain ⟨h1, rfl⟩ := List.getElem?_eq_some_iff.1 hp
    obtain ⟨h2, rfl⟩ := List.getElem?_eq_some_iff.1 hp2
    exact this i (i + 1) h1 h2 (by omega)
  have hm1 := cutN_mem (List.mem_of_getElem? hp)
  have hm2 := cutN_mem (List.mem_of_getElem? hp2)
  obtain ⟨j, hj⟩ := List.mem_iff_getElem?.1 (show c ∈ pieceL l p from hce)
  have hjl := (List.getElem?_eq_some_iff.1 hj).1
  rw [pieceL_len hm1.2] at hjl
  rw [pieceL_get (by omega)] at hj
  have hke := keyB_eq hj
  have hrise := keyB_rise h (i := p.1 + j) (j := p2.1) (by omega) (by omega)
  rw [hke] at hrise
  have hk2' : SLt (keyB l p2.1) k := hk2
  rcases SLt.total c.key (keyB l p2.1) with h1 | h1 | h1
  · exact h1.trans hk2'
  · rw [h1]; exact hk2'
  · exact absurd h1 hrise
theorem getT_at {l : List Cell} {b r t : Nat} (h : checkL l = 0) (hne : l ≠ []) {i : Nat} {c : Cell} (hc : l[i]? = some c) : getT (entsN l b r) (filterN (keysN l) t) c.key c.seq = (c, true) := by
  have hadj := (checkL_both h).1
  unfold getT
  rw [if_pos (may_filter (keys_has hc)), scan_flat]
  have hall : allC ((entsN l b r).take (fromN (entsN l b r) c.key)) ++ allC ((entsN l b r).drop (fromN (entsN l b r) c.key)) = l := by
    unfold allC
    rw [← List.flatMap_append, List.take_append_drop]
    exact ents_all l b r hne
  have hs := seek_skip (q := c.seq) (fun x hx => .inl (ents_low (b := b) (r := r) hadj c.key x hx)) (allC ((entsN l b r).drop (fromN (entsN l b r) c.key)))
  rw [hall] at hs
  rw [← hs]
  exact get_at hadj hc
theorem from_zero (es : List Ent) : fromN es ⟨#[]⟩ = 0 := by
  unfold fromN lbN
  have : (es.map Ent.key).takeWhile (fun k => decide (SLt k ⟨#[]⟩)) = [] := by
    cases es with
    | nil => rfl
    | cons e es =>
      rw [List.map_cons, List.takeWhile_cons_of_neg]
      simp only [decide_eq_true_eq]
      intro h
      unfold SLt at h
      cases hd : e.key.data.toList <;> rw [hd] at h <;> simp [Op.bytesLess] at h
  rw [this]
  rfl
end Go.Proofs.Ytbcaiegglbdonaa

/-
  The reference's filter: place, Build.
-/
namespace Go.Proofs.Ytbcaiegglbdonaa
open Go Go.RowKit
set_option linter.unusedSimpArgs false

set_option maxRecDepth 100000 in
set_option maxHeartbeats 1000000 in
theorem ref_place (key : ByteArray) (hk : key.size ≤ 2147483648) (i m : Nat) (hm : 0 < m) (hm2 : m ≤ 4611686018427387904) (hi : i ≤ 1000) (w : World) :
    Calls Try.prog 143 #[.string key, .int .i64 (i : Nat), .int .i64 (m : Nat)] w fun e w' => e = .returned (.int .i64 (placeN (hashN key) (stepN key) m i : Nat)) ∧ w' = w := by
  have hc := crcN_lt key.data.toList
  have w1 : IntKind.u64.wrap ((crcN key.data.toList : Nat) : Int) = ((crcN key.data.toList : Nat) : Int) := by rw [IntKind.wrap_u64]; omega
  have w2 : IntKind.u64.wrap (key.size : Int) = (key.size : Int) := by rw [IntKind.wrap_u64]; omega
  have w3 : IntKind.u64.wrap ((key.size : Int) * 4294967296) = (key.size : Int) * 4294967296 := by rw [IntKind.wrap_u64]; omega
  have w4 : IntKind.u64.wrap (((crcN key.data.toList : Nat) : Int) + (key.size : Int) * 4294967296) = (((crcN key.data.toList + key.size * 4294967296) % 18446744073709551616 : Nat) : Int) := by rw [IntKind.wrap_u64]; omega
  have hor : bits .or .u64 ((mixN (hashN key) : Nat) : Int) 1 = ((stepN key : Nat) : Int) := u64_or_nat _ 1 mixN_lt (by decide)
  have h5 : IntKind.u64.wrap (i : Int) = (i : Int) := by rw [IntKind.wrap_u64]; omega
  have h6 : IntKind.u64.wrap (m : Int) = (m : Int) := by rw [IntKind.wrap_u64]; omega
  have hm0 : ¬ (m : Int) = 0 := by omega
  obtain ⟨h, hh⟩ : ∃ h, hashN key = h := ⟨_, rfl⟩
  obtain ⟨d, hd⟩ : ∃ d, stepN key = d := ⟨_, rfl⟩
  obtain ⟨p, hp⟩ : ∃ p, placeN h d m i = p := ⟨_, rfl⟩
  obtain ⟨X, hX⟩ : ∃ X, (h + i * d % 18446744073709551616) % 18446744073709551616 = X := ⟨_, rfl⟩
  have hpm : p < m := by rw [← hp]; exact placeN_lt h d i hm
  have g2 : IntKind.u64.wrap ((i : Int) * (d : Int)) = (i : Int) * (d : Int) % 18446744073709551616 := by rw [IntKind.wrap_u64]
  have g3 : IntKind.u64.wrap ((h : Int) + (i : Int) * (d : Int) % 18446744073709551616) = (X : Int) := by
    rw [IntKind.wrap_u64, ← hX, ← Int.natCast_mul]
    have e1 : ((i * d : Nat) : Int) % 18446744073709551616 = ((i * d % 18446744073709551616 : Nat) : Int) := (Int.natCast_emod (i * d) 18446744073709551616).symm
    rw [e1, ← Int.natCast_add]
    exact (Int.natCast_emod _ 18446744073709551616).symm
  have g4 : Int.tmod (X : Int) (m : Int) = (p : Int) := by rw [← hp, ← hX]; rfl
  have g5 : IntKind.i64.wrap (p : Int) = (p : Int) := IntWalk.i64_in _ (by omega)
  have g6 : IntKind.u64.wrap (p : Int) = (p : Int) := by rw [IntKind.wrap_u64]; omega
  rw [hh, hd, hp]
  have HH := Lib.hid hh
  have HD := Lib.hid hd
  rw [hh, hd] at hor
  clear hh hd hp hX
  have hm1 := ref_mix ((crcN key.data.toList + key.size * 4294967296) % 18446744073709551616) (Nat.mod_lt _ (by decide)) w
  have hm2' := ref_mix (hashN key) (hashN_lt key) w
  have e1 : mixN ((crcN key.data.toList + key.size * 4294967296) % 18446744073709551616) = h := HH.out
  rw [e1] at hm1
  rw [HH.out] at hm2'
  have HM1 := Lib.hid hm1
  have HM2 := Lib.hid hm2'
  clear hm1 hm2' e1
  go_enter Try.func143, Try.ntmps143
  go_wp2_with fail
  refine (ref_crc key w (by omega)).mono ?_
  rintro e w1 ⟨rfl, hu⟩
  obtain rfl := hu.symm
  go_wp2_with fail
  refine HM1.out.mono ?_
  rintro e w1 ⟨rfl, hu⟩
  obtain rfl := hu.symm
  go_wp2_with fail
  refine HM2.out.mono ?_
  rintro e w1 ⟨rfl, hu⟩
  obtain rfl := hu.symm
  go_wp2_with fail
  go_ret
  exact ⟨rfl, rfl⟩
def RfOut (w : World) (ks : List ByteArray) (m kk : Nat) (i : Value) (W : World) : Prop :=
  ∃ n : Nat, n ≤ ks.length ∧ i = .int .i64 n ∧ Blk W w.heap.size (bv (fillK m kk (startF m kk) (ks.take n))).toArray 5 ∧ Below w.heap.size w W
def RfIn (w : World) (key : ByteArray) (C : List UInt8) (m kk : Nat) (i : Value) (W : World) : Prop :=
  ∃ n : Nat, n ≤ kk ∧ i = .int .i64 n ∧ Blk W w.heap.size (bv (fillN C ((placesN (hashN key) (stepN key) m kk).take n))).toArray 5 ∧ Below w.heap.size w W
def RFPost (w : World) (F : List UInt8) (e : Ending) (w' : World) : Prop := ∃ v, e = .returned (.tuple #[v, .int .i64 0]) ∧ w'.ownsRow w.heap.size 5 1 v F.length (bv F) ∧ Below w.heap.size w w'
set_option maxRecDepth 100000 in
set_option maxHeartbeats 4000000 in
theorem rfilter_main {w : World} {A : Option Addr} {cap : Nat} {ks : List ByteArray} (h : Reads w (.slice A ks.length cap) ks.length 1 (ks.map Value.string)) (hl : ks.length ≤ 65536) (hs : ∀ s ∈ ks, s.size ≤ 128) (r : Nat) (hr1 : 1 ≤ r) (hr2 : r ≤ 32) :
    Calls Try.prog 115 #[.slice A ks.length cap, .int .i64 (r : Nat)] w (RFPost w (filterN ks r)) := by
  have H := Lib.hid h
  have HS := Lib.hid hs
  obtain ⟨q, hq, hq8, hqm⟩ := fM_facts ks.length r
  have hnr : ks.length * r ≤ 65536 * 32 := Nat.mul_le_mul hl hr2
  have w1 : IntKind.i64.wrap ((ks.length : Int) * (r : Int)) = (ks.length : Int) * (r : Int) := IntWalk.i64_in _ (by rw [← Int.natCast_mul]; omega)
  obtain ⟨T, hT⟩ : ∃ T, ks.length * r = T := ⟨_, rfl⟩
  have hTI : (ks.length : Int) * (r : Int) = (T : Int) := by rw [← Int.natCast_mul, hT]
  rw [hTI] at w1
  obtain ⟨kk, hkk⟩ : ∃ kk, fK r = kk := ⟨_, rfl⟩
  have hk1 : 1 ≤ kk ∧ kk ≤ 30 := by rw [← hkk]; unfold fK; omega
  have hk2 : kk = max (r * 69 / 100) 1 := by rw [← hkk]; unfold fK; omega
  obtain ⟨m, hm⟩ : ∃ m, q * 8 = m := ⟨_, rfl⟩
  have hq2 : q = (max 64 T + 7) / 8 := by
    have : fM ks.length r = (max 64 (ks.length * r) + 7) / 8 * 8 := rfl
    rw [hT] at this
    omega
  have e2 : (m : Int) / 8 = (q : Int) := by omega
  have e5 : (q : Int) * 8 = (m : Int) := by omega
  have e4 : IntKind.u8.wrap (kk : Int) = (kk : Int) := by rw [IntKind.wrap_u8]; omega
  have hq64 : q ≤ 300000 := by omega
  obtain ⟨Z, hZ⟩ : ∃ Z, (bv (List.replicate (q + 1) 0)).toArray = Z := ⟨_, rfl⟩
  have hmk : ∀ W, (Instr.makeSlice 74 (.int .i64 ((q : Int) + 1)) (.int .i64 ((q : Int) + 1))).run Try.prog W = .ok (.slice (some ⟨W.heap.size, 0, none⟩) (q + 1) (q + 1)) (W.alloc (.cells Z 5)) := fun W => by
    rw [← hZ]; exact make_bytes2 (q + 1) (by omega) W
  have hZs : Z.size = q + 1 := by rw [← hZ]; simp [bv]
  have hZ0 : Z[q]? = some (.int .u8 0) := by rw [← hZ]; simp [bv]
  have hF := Lib.hid (show filterN ks r = fillK m kk (startF m kk) ks by unfold filterN; rw [hq, hkk, hm])
  have HZ := Lib.hid hZ
  have HM := Lib.hid hm
  have B0 : Blk (w.alloc (.cells Z 5)) w.heap.size Z 5 := Blk.new w Z 5
  have b0 := B0.cell q _ hZ0
  have b1 := B0.lt
  have b2 := B0.frozen q
  have b3 : (0 : Int) ≤ (q : Int) := by omega
  have b4 : (q : Int) < (q : Int) + 1 := by omega
  have j1 : ¬ ((r : Int) < 1) := by omega
  have j2 : ¬ (32 < (r : Int)) := by omega
  have j3 : ¬ (65536 < (ks.length : Int)) := by omega
  clear h hs hT hkk hq hqm hZs hm hZ hZ0 B0
  go_enter Try.func115, Try.ntmps115
  go_upto_if 26 with fail
  go_cut [6] from 12 (fun v wx => wx = w ∧ v = .int .i64 ((max 64 T : Nat) : Int))
  case first =>
    by_cases c1 : T < 64
    · have c2 : (T : Int) < 64 := by omega
      have HX := Lib.hid (show max 64 T = 64 by omega)
      go_wp2_with fail
      go_meet
      case rel => exact ⟨rfl, by rw [HX.out]; rfl⟩
    · have c2 : ¬ (T : Int) < 64 := by omega
      have HX := Lib.hid (show max 64 T = T by omega)
      go_wp2_with fail
      go_meet
      case rel => exact ⟨rfl, by rw [HX.out]⟩
  case rest =>
    obtain ⟨rfl, rfl⟩ := hcut

    go_upto_if 35 with fail
    go_cut [7] from 12 (fun v wx => wx = wc ∧ v = .int .i64 (kk : Nat))
    case first =>
      by_cases c1 : r * 69 / 100 < 1
      · have c2 : (r : Int) * 69 / 100 < 1 := by omega
        have HX := Lib.hid (show kk = 1 by omega)
        go_wp2_with fail
        go_meet
        case rel => exact ⟨rfl, by rw [HX.out]; rfl⟩
      · have c2 : ¬ (r : Int) * 69 / 100 < 1 := by omega
        have HX := Lib.hid (show (r : Int) * 69 / 100 = (kk : Int) by omega)
        go_wp2_with fail
        go_meet
        case rel => exact ⟨rfl, by rw [HX.out]⟩
    case rest =>
      obtain ⟨rfl, rfl⟩ := hcut
      rw [show (((max 64 T : Nat) : Int) + 7) / 8 * 8 = (m : Int) by omega]
      clear hq2 hk2 w1 hTI hnr
      have c3 : ¬ (30 < (kk : Int)) := by omega
      go_wp2_with fail
      have F0 : RfOut wc ks m kk (.int .i64 0) ((wc.alloc (.cells (Z.setIfInBounds q (.int .u8 (kk : Nat))) 5))) := by
        have hs : Z.setIfInBounds q (.int .u8 (kk : Nat)) = (bv (startF m kk)).toArray := by
          have e : ((UInt8.ofNat kk).toNat : Int) = (kk : Int) := by simp only [UInt8.toNat_ofNat']; omega
          rw [← HZ.out, ← e, bv_set]
          congr 2
          unfold startF
          rw [show m / 8 = q by have := HM.out; omega, List.replicate_succ']
          exact List.set_append_right _ _ (by simp) |>.trans (by simp)
        rw [hs]
        exact ⟨0, Nat.zero_le _, rfl, Blk.new _ _ _, (Below.refl _ _).alloc (Nat.le_refl _) _⟩
      clear b0 b1 b2 hmk
      go_loopw [9] (RfOut wc ks m kk) (fun i _ => ks.length - (intOf i).toNat)
      case atStart => exact F0
      case round =>
        clear F0
        obtain ⟨j, hj, rfl, hB, hb⟩ := hrel
        by_cases hjl : j < ks.length
        · obtain ⟨key, hx⟩ : ∃ key, ks[j]? = some key := ⟨_, List.getElem?_eq_getElem hjl⟩
          have hks := HS.out key (List.mem_of_getElem? hx)
          have i0 : (0 : Int) ≤ (j : Int) := by omega
          have i1 : (j : Int) < (ks.length : Int) := by omega
          have HX := Lib.hid hx
          obtain ⟨C, hC⟩ : ∃ C, fillK m kk (startF m kk) (ks.take j) = C := ⟨_, rfl⟩
          have hCl : C.length = q + 1 := by rw [← hC, fillK_len, startF_len, ← HM.out]; omega
          rw [hC] at hB
          have HC := Lib.hid hC
          have G0 : RfIn wc key C m kk (.int .i64 0) wr := ⟨0, Nat.zero_le _, rfl, hB, hb⟩
          clear hx hC hB hb
          go_wp2_with fail
          go_loopw [10] (RfIn wc key C m kk) (fun i _ => kk - (intOf i).toNat)
          case atStart => exact G0
          case round =>
            clear G0
            obtain ⟨n, hn, rfl, hB, hb⟩ := hrel
            by_cases hnk : n < kk
            · have i2 : (n : Int) < (kk : Int) := by omega
              obtain ⟨b, o, rfl, hbl, hc⟩ := (H.out.kept hb).str_at HX.out
              obtain ⟨p, hp⟩ : ∃ p, placeN (hashN key) (stepN key) m n = p := ⟨_, rfl⟩
              have hpm : p < m := by rw [← hp]; exact placeN_lt _ _ _ (by omega)
              have hcall : ∀ W, Calls Try.prog 143 #[.string key, .int .i64 (n : Nat), .int .i64 (m : Nat)] W fun e w' => e = .returned (.int .i64 (p : Nat)) ∧ w' = W := fun W => by
                rw [← hp]
                exact ref_place key (by omega) n m (by omega) (by omega) (by omega) W
              obtain ⟨D, hD⟩ : ∃ D, fillN C ((placesN (hashN key) (stepN key) m kk).take n) = D := ⟨_, rfl⟩
              have hDl : D.length = q + 1 := by rw [← hD, fillN_len, hCl]
              have hst : fillN C ((placesN (hashN key) (stepN key) m kk).take (n + 1)) = setBit D p := by
                rw [take_snoc (placesN_get _ _ _ hnk), fillN_snoc, hD, hp]
              rw [hD] at hB
              have hpq : p / 8 < q + 1 := by have := HM.out; omega
              obtain ⟨c, hc2⟩ : ∃ c, D[p / 8]? = some c := ⟨_, List.getElem?_eq_getElem (by omega)⟩
              obtain ⟨pq, hpq2⟩ : ∃ pq, p / 8 = pq := ⟨_, rfl⟩
              obtain ⟨pr, hpr2⟩ : ∃ pr, p % 8 = pr := ⟨_, rfl⟩
              have f1 : (p : Int) / 8 = (pq : Int) := by omega
              have f2 : (p : Int) % 8 = (pr : Int) := by omega
              rw [hpq2] at hc2 hpq
              have g0 : wr.cell? ⟨wc.heap.size, pq, none⟩ = some (.int .u8 (c.toNat : Nat)) := hB.cell pq _ (by simp [bv, hc2])
              have g1 := hB.lt
              have g2 := hB.frozen pq
              have n0 : (0 : Int) ≤ (pq : Int) := by omega
              have n1 : (pq : Int) < (q : Int) + 1 := by omega
              have n2 : ¬ (pr : Int) < 0 := by omega
              have f3 : IntKind.i64.wrap (pq : Int) = (pq : Int) := IntWalk.i64_in _ (by omega)
              have f4 : IntKind.i64.wrap (pr : Int) = (pr : Int) := IntWalk.i64_in _ (by omega)
              have hpr8 : pr < 8 := by omega
              have hor := or_bit c hpr8
              have hsh : Op.shift .shl .u8 1 .i64 (Int.tmod (p : Int) 8) = pure (.int .u8 ((2 : Int) ^ pr % 256)) := by
                have e : Int.tmod (p : Int) 8 = (pr : Int) := by rw [Int.tmod_eq_emod_of_nonneg (by omega)]; exact f2
                rw [e, shift_shl .u8 .i64 1 (pr : Int) (by omega) (by show (pr : Int) ≤ _; simp [IntKind.bits]; omega)]
                rw [IntKind.wrap_u8, Int.one_mul]
                rfl
              have HOR := Lib.hid hor
              have hsb : setBit D p = D.set pq (UInt8.ofNat (c.toNat ||| 2 ^ pr)) := by
                unfold setBit
                rw [show p / 8 = pq by omega, show p % 8 = pr by omega, List.getD_eq_getElem?_getD, hc2]
                rfl
              have HST := Lib.hid hst
              have HSB := Lib.hid hsb
              have HB := Lib.hid hB
              have HBW := Lib.hid hb
              have HCALL := Lib.hid hcall
              clear hD hp hpq2 hpr2 hor hst hsb hB hb hcall
              go_wp2_with fail
              refine (HCALL.out _).mono ?_
              rintro e w1 ⟨rfl, hu⟩
              obtain rfl := hu.symm
              go_wp2_with fail
              refine region_tail 12 (by kernel_rfl) (by kernel_rfl) ?_
              simp only [List.take_succ_cons, List.take_zero, List.drop_succ_cons, List.drop_zero]
              still_step
              still_step
              still_step
              still_step
              still_step
              still_step
              still_step
              still_step
              still_step
              still_step
              still_step
              still_step
              refine wpStill_nil ?_
              go_wp2_with fail
              rw [HOR.out]
              have hB2 := HB.out.drew.setCell pq (.int .u8 ((UInt8.ofNat (c.toNat ||| 2 ^ pr)).toNat : Nat))
              rw [bv_set, ← HSB.out, ← HST.out] at hB2
              have hb2 : Below wc.heap.size wc (wr.drew.setCell ⟨wc.heap.size, pq, none⟩ (.int .u8 ((UInt8.ofNat (c.toNat ||| 2 ^ pr)).toNat : Nat))) := HBW.out.drew.setCell (p := ⟨wc.heap.size, pq, none⟩) (Nat.le_refl _) _
              go_wp2_with fail
              go_roundw
              case rel => exact ⟨n + 1, by omega, by go_num, hB2, hb2⟩
              case measure => simp [intOf]; omega
            · obtain rfl : n = kk := by omega
              have hst : fillK m n (startF m n) (ks.take (j + 1)) = fillN C ((placesN (hashN key) (stepN key) m n).take n) := by
                rw [take_snoc HX.out, fillK_snoc, HC.out, List.take_of_length_le (by rw [placesN_len]; omega)]
              rw [← hst] at hB
              have HB := Lib.hid hB
              have HBW := Lib.hid hb
              clear hst hB hb
              go_wp2_with fail
              go_roundw
              case rel => exact ⟨j + 1, by omega, by go_num, HB.out, HBW.out⟩
              case measure => simp [intOf]; omega
        · obtain rfl : j = ks.length := by omega
          rw [List.take_length] at hB
          have hlen : (fillK m kk (startF m kk) ks).length = q + 1 := by rw [fillK_len, startF_len, ← HM.out]; omega
          have HL := Lib.hid hlen
          have HB := Lib.hid hB
          have HBW := Lib.hid hb
          clear hlen hB hb
          go_wp2_with fail
          go_ret2
          unfold RFPost
          rw [hF.out]
          refine ⟨.slice (some ⟨wc.heap.size, 0, none⟩) (q + 1) (q + 1), rfl, ?_, HBW.out⟩
          refine ⟨by rw [bv_len]; omega, .inr ⟨wc.heap.size, q + 1, _, by rw [HL.out], Nat.le_refl _, HB.out, by rw [HL.out]; exact Nat.le_refl _, by unfold maxLen; omega, by rw [List.size_toArray, bv_len, HL.out]; omega, ?_⟩⟩
          rw [List.take_of_length_le (by rw [bv_len]; omega)]
end Go.Proofs.Ytbcaiegglbdonaa

/-
  The reference's table: rises, Text, Build.
-/
namespace Go.Proofs.Ytbcaiegglbdonaa
open Go Go.RowKit
set_option linter.unusedSimpArgs false

set_option maxRecDepth 100000 in
set_option maxHeartbeats 1000000 in
theorem ref_rises (a b : Cell) (w : World) :
    Calls Try.prog 113 #[.agg #[.string a.key, .int .u64 a.seq, .string a.val, .bool a.gone], .agg #[.string b.key, .int .u64 b.seq, .string b.val, .bool b.gone]] w fun e w' => e = .returned (.bool (decide (PLt a.key a.seq b.key b.seq))) ∧ Below w.heap.size w w' := by
  by_cases h1 : Op.bytesLess a.key.toList b.key.toList = true
  · have hp : decide (PLt a.key a.seq b.key b.seq) = true := by simp only [decide_eq_true_eq]; exact .inl ((lt_str _ _).1 h1)
    rw [hp]
    clear hp
    go_enter Try.func113, Try.ntmps113
    go_wp2_with fail
    go_ret
    exact ⟨rfl, ((Below.refl _ _).alloc (Nat.le_refl _) _).alloc (by simp) _⟩
  have h1 : Op.bytesLess a.key.toList b.key.toList = false := by simpa using h1
  by_cases h2 : (a.key.toList == b.key.toList) = true
  · by_cases h3 : b.seq < a.seq
    · have hp : decide (PLt a.key a.seq b.key b.seq) = true := by simp only [decide_eq_true_eq]; exact .inr ⟨str_beq.1 h2, h3⟩
      rw [hp]
      clear hp
      go_enter Try.func113, Try.ntmps113
      go_wp2_with fail
      go_ret
      exact ⟨rfl, ((Below.refl _ _).alloc (Nat.le_refl _) _).alloc (by simp) _⟩
    · have hp : decide (PLt a.key a.seq b.key b.seq) = false := by
        simp only [decide_eq_false_iff_not]
        rintro (h | ⟨_, h⟩)
        · rw [(lt_str _ _).2 h] at h1; cases h1
        · exact h3 h
      rw [hp]
      clear hp
      go_enter Try.func113, Try.ntmps113
      go_wp2_with fail
      go_ret
      exact ⟨rfl, ((Below.refl _ _).alloc (Nat.le_refl _) _).alloc (by simp) _⟩
  have h2 : (a.key.toList == b.key.toList) = false := by simpa using h2
  have hp : decide (PLt a.key a.seq b.key b.seq) = false := by
    simp only [decide_eq_false_iff_not]
    rintro (h | ⟨h, _⟩)
    · rw [(lt_str _ _).2 h] at h1; cases h1
    · exact str_beq_false.1 h2 h
  rw [hp]
  clear hp
  go_enter Try.func113, Try.ntmps113
  go_wp2_with fail
  go_ret
  exact ⟨rfl, ((Below.refl _ _).alloc (Nat.le_refl _) _).alloc (by simp) _⟩

theorem str_add (x y : List UInt8) (h : x.length + y.length ≤ 9223372036854775807) (W : World) : (Op.stringOp .add ⟨x.toArray⟩ ⟨y.toArray⟩).run Try.prog W = .ok (.string ⟨(x ++ y).toArray⟩) W := by
  rw [run_string_add_sum W _ _ (by simp [ByteArray.size]; omega), ByteArray.mk_append_mk]
theorem str_add_s (x : List UInt8) (s : ByteArray) (h : x.length + s.size ≤ 9223372036854775807) (W : World) : (Op.stringOp .add ⟨x.toArray⟩ s).run Try.prog W = .ok (.string ⟨(x ++ s.data.toList).toArray⟩) W := str_add x s.data.toList h W
set_option maxRecDepth 100000 in
set_option maxHeartbeats 1000000 in
theorem ref_text (s : ByteArray) (hs : s.size ≤ 1099511627776) (w : World) :
    Calls Try.prog 114 #[.string s] w fun e w' => e = .returned (.string ⟨(WM.textN s).toArray⟩) ∧ Below w.heap.size w w' := by
  have hw : IntKind.u64.wrap (s.size : Int) = (s.size : Int) := by rw [IntKind.wrap_u64]; omega
  have hc : ∀ W, (Op.stringOp .add ⟨(varN s.size).toArray⟩ s).run Try.prog W = .ok (.string ⟨(WM.textN s).toArray⟩) W := fun W =>
    str_add_s (varN s.size) s (by have := varN_len 9 s.size (by omega); omega) W
  go_enter Try.func114, Try.ntmps114
  go_wp2_with fail
  refine (ref_varint s.size (by omega) w).mono ?_
  rintro e w1 ⟨rfl, hb1⟩
  go_wp2_with fail
  go_ret
  exact ⟨rfl, hb1⟩

/-! ### Build -/
theorem partB_snoc (l : List Cell) (r : Nat) (ps : List (Nat × Nat)) (p : Nat × Nat) : partB l r (ps ++ [p]) (ps.length + 1) = partB l r ps ps.length ++ blockN (pieceL l p) r := by
  unfold partB
  rw [List.take_of_length_le (by simp), List.take_of_length_le (Nat.le_refl _), List.flatMap_append]
  simp
theorem partI_snoc (l : List Cell) (r : Nat) (ps : List (Nat × Nat)) (p : Nat × Nat) :
    partI l r (ps ++ [p]) (ps.length + 1) = partI l r ps ps.length ++ (WM.textN (keyB l p.1) ++ (varN (partB l r ps ps.length).length ++ varN (blockN (pieceL l p) r).length)) := by
  rw [partI_succ, entN_eq (p := p) (by simp)]
  have e : partB l r (ps ++ [p]) ps.length = partB l r ps ps.length := by
    unfold partB
    rw [List.take_append_of_le_length (Nat.le_refl _)]
  rw [e]
  congr 1
  unfold partI
  rw [List.flatMap_def, List.flatMap_def]
  congr 1
  refine List.map_congr_left ?_
  intro i hi
  have hi' : i < ps.length := List.mem_range.1 hi
  unfold entN partB
  rw [List.getElem?_append_left hi', List.take_append_of_le_length (by omega)]
theorem cutS_mono {l : List Cell} {z : Int} {p : Nat × Nat} {i : Nat} (h : p ∈ (cutS l z i).out) : ∀ d, p ∈ (cutS l z (i + d)).out
  | 0 => h
  | d + 1 => by
    have ih := cutS_mono h d
    by_cases hc : z ≤ ((cutS l z (i + d)).n + szAt l (i + d) : Nat) ∨ i + d + 1 = l.length
    · rw [← Nat.add_assoc, cutS_yes hc]; exact List.mem_append_left _ ih
    · rw [← Nat.add_assoc, cutS_no hc]; exact ih
theorem partI_len {l : List Cell} {r : Nat} {ps : List (Nat × Nat)} (hs : ∀ c ∈ l, c.key.size ≤ 128) (j : Nat) (hj : j ≤ 65536) (hf : fitsP l r ps) : (partI l r ps j).length ≤ j * 158 := by
  induction j with
  | zero => simp [partI]
  | succ j ih =>
    have ih := ih (by omega)
    rw [partI_succ, List.length_append]
    have : (entN l r ps j).length ≤ 158 := by
      cases hp : ps[j]? with
      | none => unfold entN; rw [hp]; simp
      | some p =>
        rw [entN_eq hp]
        have hk : (keyB l p.1).size ≤ 128 := by
          unfold keyB
          cases hx : l[p.1]? with
          | none => exact Nat.zero_le _
          | some c => exact hs c (List.mem_of_getElem? hx)
        have h1 := textN_len hk
        have h2 := varN_len 9 (partB l r ps j).length (by have := partB_len hf j; omega)
        have h3 := varN_len 9 (blockN (pieceL l p) r).length (by have := hf p (List.mem_of_getElem? hp); omega)
        simp only [List.length_append]
        omega
    omega
def RtRel (W1 : World) (l : List Cell) (b r : Nat) (vb vi vk vs vn i : Value) (W : World) : Prop :=
  ∃ k : Nat, k ≤ l.length ∧ i = .int .i64 k ∧ vs = .int .i64 ((cutS l b k).start : Nat) ∧ vn = .int .i64 ((cutS l b k).n : Nat) ∧
    vb = .string ⟨(partB l r (cutS l b k).out (cutS l b k).out.length).toArray⟩ ∧ vi = .string ⟨(partI l r (cutS l b k).out (cutS l b k).out.length).toArray⟩ ∧
    fitsP l r (cutS l b k).out ∧ W.ownsRow W1.heap.size 9 1 vk (keysS l k).length ((keysS l k).map Value.string) ∧ Below W1.heap.size W1 W
theorem cell3 {w : World} {g : Nat} {v0 v1 v2 : Value} {t : TypeId} (h : Blk w g #[v0, v1, v2] t) :
    w.cell? ⟨g, 0, none⟩ = some v0 ∧ w.cell? ⟨g, 1, none⟩ = some v1 ∧ w.cell? ⟨g, 2, none⟩ = some v2 ∧ g < w.heap.size := ⟨h.cell 0 _ rfl, h.cell 1 _ rfl, h.cell 2 _ rfl, h.lt⟩
theorem be4_m32 (n : Nat) : be4 n = m32 n := by
  unfold m32 be4
  have e : ∀ a b : Nat, a % 256 = b % 256 → UInt8.ofNat a = UInt8.ofNat b := fun a b h => UInt8.toNat_inj.1 (by rw [UInt8.toNat_ofNat', UInt8.toNat_ofNat']; exact h)
  rw [e (n / 16777216) (n % 4294967296 / 16777216) (by omega), e (n / 65536) (n % 4294967296 / 65536) (by omega), e (n / 256) (n % 4294967296 / 256) (by omega), e n (n % 4294967296) (by omega)]
theorem bytes_reads (L : List UInt8) (hL : L.length ≤ 9223372036854775807) (c : Nat) (W : World) : Reads (Lib.bytesWorld W 5 ⟨L.toArray⟩) (.slice (some ⟨W.heap.size, 0, none⟩) L.length c) L.length 1 (bv L) := by
  refine ⟨by rw [bv_len]; omega, hL, _, _, rfl, ?_⟩
  by_cases h0 : L.length = 0
  · exact .inl h0
  · refine .inr ⟨W.heap.size, 0, rfl, by rw [Lib.bytesWorld_size]; omega, fun j u hj => ?_⟩
    have hjl := (List.getElem?_eq_some_iff.1 hj).1
    rw [bv_len] at hjl
    rw [Nat.zero_add, Lib.bytesWorld_cell W 5 ⟨L.toArray⟩ j hjl]
    unfold bv at hj
    rw [List.getElem?_map, List.getElem?_eq_getElem hjl] at hj
    simp at hj
    subst hj
    simp [List.getElem?_eq_getElem hjl]
def RTPost (w : World) (d : List UInt8 × Int) (e : Ending) (w' : World) : Prop := ∃ v, e = .returned (.tuple #[v, .int .i64 d.2]) ∧ Reads w' v d.1.length 1 (bv d.1) ∧ Below w.heap.size w w'
def RtI (w1 : World) (n : Nat) (a : Nat) (i : Value) (W : World) : Prop := ∃ k : Nat, a ≤ k ∧ k ≤ n ∧ i = .int .i64 k ∧ Below w1.heap.size w1 W
set_option maxRecDepth 100000 in
set_option maxHeartbeats 4000000 in
theorem rtab_main {w : World} {A : Option Addr} {cap : Nat} {l : List Cell} (h : Reads w (.slice A l.length cap) l.length 4 (cellVals l)) (hcap : l.length ≤ cap) (hs : ∀ c ∈ l, 0 ≤ c.seq) (b r t : Nat) (hc : checkT l b r t = 0) :
    Calls Try.prog 55 #[.slice A l.length cap, .agg #[.int .i64 (b : Nat), .int .i64 (r : Nat), .int .i64 (t : Nat)]] w (RTPost w (tableN l b r t)) := by
  obtain ⟨⟨hb1, hb2, hr1, hr2, ht1, ht2⟩, hl1, hl0, hck⟩ := checkT_ok hc
  have hTN := tableN_ok hc
  obtain ⟨hcs, hadj⟩ := checkL_ok hck
  have hS0 : checkS (b : Int) (r : Int) (t : Int) = 0 := by unfold checkS; rw [if_neg (by omega)]
  have hsh : ∀ W, Calls Try.prog 59 #[.agg #[.int .i64 (b : Nat), .int .i64 (r : Nat), .int .i64 (t : Nat)]] W fun e w' => e = .returned (.int .i64 0) ∧ Below W.heap.size W w' := fun W => by
    have := ref_shape (b : Int) (r : Int) (t : Int) W
    rw [hS0] at this
    exact this
  have HSH := Lib.hid hsh
  have HTN := Lib.hid hTN
  have HCS := Lib.hid hcs
  have HADJ := Lib.hid ((adjC_iff l).1 hadj)
  have HS := Lib.hid hs
  have HCK := Lib.hid hck
  have n1 : ¬ (65536 < (l.length : Int)) := by omega
  have n2 : ((l.length : Int) == 0) = false := by simpa using hl0
  have n3 : ¬ ((l.length : Int) = 0) := by omega
  obtain ⟨w1, hw1⟩ : ∃ w1, w.alloc (.cells #[.int .i64 (b : Nat), .int .i64 (r : Nat), .int .i64 (t : Nat)] 89) = w1 := ⟨_, rfl⟩
  have hB1 : Blk w1 w.heap.size #[.int .i64 (b : Nat), .int .i64 (r : Nat), .int .i64 (t : Nat)] 89 := by rw [← hw1]; exact Blk.new _ _ _
  have hsz1 : w1.heap.size = w.heap.size + 1 := by rw [← hw1]; simp
  have hb0 : Below w.heap.size w w1 := by rw [← hw1]; exact (Below.refl _ _).alloc (Nat.le_refl _) _
  have H := Lib.hid (h.kept hb0)
  have HB1 := Lib.hid hB1
  have HSZ := Lib.hid hsz1
  have HB0 := Lib.hid hb0
  obtain ⟨y0, y1, y2, y3⟩ := cell3 hB1
  clear h hsh hTN hcs hadj hs hck hc hS0 hB1 hsz1 hb0
  go_enter Try.func55, Try.ntmps55
  go_upto_region 1 with fail
  clear hw1
  go_wp2_with fail
  refine (HSH.out _).mono ?_
  rintro e w2 ⟨rfl, b2⟩
  go_wp2_with fail
  clear y0 y1 y2 y3
  go_loopw [7] (RtI w1 l.length 0) (fun i _ => l.length - (intOf i).toNat)
  case atStart => exact ⟨0, Nat.zero_le _, by omega, rfl, b2⟩
  case round =>
    obtain ⟨k, _, hk, rfl, hb⟩ := hrel
    by_cases hlt : k < l.length
    · obtain ⟨x, hx⟩ : ∃ x, l[k]? = some x := ⟨_, List.getElem?_eq_getElem hlt⟩
      obtain ⟨g, o, rfl, hbl, c0, c1, c2, c3⟩ := (H.out.kept hb).cell_at hx
      have i0 : (0 : Int) ≤ (k : Int) := by omega
      have i1 : (k : Int) < (l.length : Int) := by omega
      have hc := ref_check x wr
      rw [HCS.out x (List.mem_of_getElem? hx)] at hc
      have HC := Lib.hid hc
      clear hx hc
      go_wp2_with (go_at_call 80; refine HC.out.mono ?_; rintro e w3 ⟨rfl, b3⟩)
      go_roundw
      case rel => exact ⟨k + 1, Nat.zero_le _, by omega, by go_num, hb.trans (b3.mono hb.size)⟩
      case measure => simp [intOf]; omega
    · obtain rfl : k = l.length := by omega
      clear b2
      go_wp2_with fail
      go_loopw [8] (RtI w1 l.length 1) (fun i _ => l.length - (intOf i).toNat)
      case atStart => exact ⟨1, Nat.le_refl _, by omega, rfl, hb⟩
      case round =>
        obtain ⟨k, hk1, hk, rfl, hb⟩ := hrel
        obtain ⟨k, rfl⟩ : ∃ k0, k = k0 + 1 := ⟨k - 1, by omega⟩
        by_cases hlt : k + 1 < l.length
        · obtain ⟨x, hx⟩ : ∃ x, l[k]? = some x := ⟨_, List.getElem?_eq_getElem (by omega)⟩
          obtain ⟨y, hy⟩ : ∃ y, l[k + 1]? = some y := ⟨_, List.getElem?_eq_getElem hlt⟩
          obtain ⟨g, o, rfl, hbl, c0, c1, c2, c3⟩ := (H.out.kept hb).cell_at hx
          obtain ⟨b', o', e', _, d0, d1, d2, d3⟩ := (H.out.kept hb).cell_at hy
          cases e'
          have i0 : (0 : Int) ≤ (k : Int) := by omega
          have i1 : (k : Int) < (l.length : Int) := by omega
          have i2 : (0 : Int) ≤ (k : Int) + 1 := by omega
          have i3 : (k : Int) + 1 < (l.length : Int) := by omega
          have hw1 : IntKind.i64.wrap ((k : Int) + 1 - 1) = (k : Int) := by
            rw [show (k : Int) + 1 - 1 = (k : Int) by omega]; exact IntWalk.i64_in _ (by omega)
          have hw2 : IntKind.i64.wrap (k : Int) = (k : Int) := IntWalk.i64_in _ (by omega)
          have hw3 : IntKind.i64.wrap ((k : Int) + 1 + 1) = (k : Int) + 1 + 1 := IntWalk.i64_in _ (by omega)
          have ht1 : ((k : Int) + 1).toNat = k + 1 := by omega
          have hq : decide (PLt x.key x.seq y.key y.seq) = true := decide_eq_true (HADJ.out k x y hx hy)
          clear hx hy
          have hS : wr.drew.cell? ⟨g, o + k * 4, none⟩ = some (.string x.key) ∧ wr.drew.cell? ⟨g, o + k * 4 + 1, none⟩ = some (.int .u64 x.seq) ∧ wr.drew.cell? ⟨g, o + k * 4 + 2, none⟩ = some (.string x.val) ∧ wr.drew.cell? ⟨g, o + k * 4 + 3, none⟩ = some (.bool x.gone) ∧ wr.drew.cell? ⟨g, o + (k + 1) * 4, none⟩ = some (.string y.key) ∧ wr.drew.cell? ⟨g, o + (k + 1) * 4 + 1, none⟩ = some (.int .u64 y.seq) ∧ wr.drew.cell? ⟨g, o + (k + 1) * 4 + 2, none⟩ = some (.string y.val) ∧ wr.drew.cell? ⟨g, o + (k + 1) * 4 + 3, none⟩ = some (.bool y.gone) := ⟨c0, c1, c2, c3, d0, d1, d2, d3⟩
          go_wp2_with fail
          refine region_plan (S := fun w' => w'.cell? ⟨g, o + k * 4, none⟩ = some (.string x.key) ∧ w'.cell? ⟨g, o + k * 4 + 1, none⟩ = some (.int .u64 x.seq) ∧ w'.cell? ⟨g, o + k * 4 + 2, none⟩ = some (.string x.val) ∧ w'.cell? ⟨g, o + k * 4 + 3, none⟩ = some (.bool x.gone) ∧ w'.cell? ⟨g, o + (k + 1) * 4, none⟩ = some (.string y.key) ∧ w'.cell? ⟨g, o + (k + 1) * 4 + 1, none⟩ = some (.int .u64 y.seq) ∧ w'.cell? ⟨g, o + (k + 1) * 4 + 2, none⟩ = some (.string y.val) ∧ w'.cell? ⟨g, o + (k + 1) * 4 + 3, none⟩ = some (.bool y.gone))
            ((0, true) :: (1, true) :: (2, true) :: (3, true) :: (4, true) :: (5, true) :: (6, true) :: (7, true) :: (8, true) :: (9, false) :: (10, true) :: [])
            (by kernel_rfl) (by kernel_rfl) (by kernel_rfl) (by kernel_rfl) (fun _ _ _ dst _ h => by cases dst <;> exact h) hS (fun hH => ?_)
          (repeat (first | (refine plan_take (v := ?_) (by (simp only [List.getElem?_toArray, List.getElem?_cons_succ, List.getElem?_cons_zero]; exact rfl)) (by rfl) ?_ ?_; rotate_left; (focus (intro wS hS; (try dsimp only at hS); go_split_ands; go_simp; (try with_reducible rfl))); simp only [Act.put, List.setIfInBounds_toArray, List.set_cons_zero, List.set_cons_succ]) | (refine plan_skip (by (simp only [List.getElem?_toArray, List.getElem?_cons_succ, List.getElem?_cons_zero]; exact rfl)) (by rfl) ?_; simp only [Act.put, List.setIfInBounds_toArray, List.set_cons_zero, List.set_cons_succ])))
          (refine plan_solo (by (simp only [List.getElem?_toArray, List.getElem?_cons_succ, List.getElem?_cons_zero]; exact rfl)) (by rfl) ?_; intro K hK; go_simp)
          refine (ref_rises x y _).mono ?_
          rintro e w5 ⟨rfl, hb5⟩
          rw [hq]
          refine hK.out _ _ ⟨cell_keep hb5 c0, cell_keep hb5 c1, cell_keep hb5 c2, cell_keep hb5 c3, cell_keep hb5 d0, cell_keep hb5 d1, cell_keep hb5 d2, cell_keep hb5 d3⟩ (fun hH => ?_)
          clear hK K
          (try simp only [Act.put, List.setIfInBounds_toArray, List.set_cons_zero, List.set_cons_succ])
          (repeat (first | (refine plan_take (v := ?_) (by (simp only [List.getElem?_toArray, List.getElem?_cons_succ, List.getElem?_cons_zero]; exact rfl)) (by rfl) ?_ ?_; rotate_left; (focus (intro wS hS; (try dsimp only at hS); go_split_ands; go_simp; (try with_reducible rfl))); simp only [Act.put, List.setIfInBounds_toArray, List.set_cons_zero, List.set_cons_succ]) | (refine plan_skip (by (simp only [List.getElem?_toArray, List.getElem?_cons_succ, List.getElem?_cons_zero]; exact rfl)) (by rfl) ?_; simp only [Act.put, List.setIfInBounds_toArray, List.set_cons_zero, List.set_cons_succ])))
          refine plan_nil ?_
          go_wp2_with fail
          go_roundw
          case rel => exact ⟨k + 1 + 1, by omega, by omega, by go_num, hb.trans ((Below.refl _ _).drew.trans (hb5.mono hb.size))⟩
          case measure => simp [intOf]; omega
        · go_wp2_with fail
          go_loopw [9, 10, 11, 12, 13, 14] (RtRel w1 l b r) (fun _ _ _ _ _ i _ => l.length - (intOf i).toNat)
          case atStart => exact ⟨0, Nat.zero_le _, rfl, rfl, rfl, rfl, rfl, fun p hp => absurd hp (by simp [cutS]), World.ownsRow_nil _ _ _ _, hb⟩
          case round =>
            obtain ⟨j, hj, rfl, rfl, rfl, rfl, rfl, hfit, hown, hb⟩ := hrel
            by_cases hjl : j < l.length
            · obtain ⟨x, hx⟩ : ∃ x, l[j]? = some x := ⟨_, List.getElem?_eq_getElem hjl⟩
              have hxs := check_sizes (HCS.out x (List.mem_of_getElem? hx))
              have hsz : szAt l j = x.key.size + x.val.size + 16 := by unfold szAt; rw [hx]; rfl
              have hall : ∀ c ∈ l, c.key.size ≤ 128 ∧ c.val.size ≤ 1024 := fun c hc => check_sizes (HCS.out c hc)
              have hnb := cutS_n hall b j
              have hcl := cutS_len l b j
              have hcs := cutS_start l b j
              have hkl := keysS_len l j
              obtain ⟨st, hst⟩ : ∃ st, cutS l b j = st := ⟨_, rfl⟩
              have HY := Lib.hid (@cutS_yes l b j)
              have HN := Lib.hid (@cutS_no l b j)
              rw [hst, hsz] at HY HN
              have hin : ∀ p, p ∈ (cutS l b (j + 1)).out → p ∈ cutN l b := fun p hp => by
                have := cutS_mono hp (l.length - (j + 1))
                rw [show j + 1 + (l.length - (j + 1)) = l.length by omega] at this
                exact this
              have HIN := Lib.hid hin
              rw [hst] at hfit hnb hcl hcs ⊢
              obtain ⟨out, s0, n⟩ := st
              dsimp only at hfit hnb hcl hcs HY HN ⊢
              obtain ⟨Bo, hBo⟩ : ∃ Bo, partB l r out out.length = Bo := ⟨_, rfl⟩
              obtain ⟨Ix, hIx⟩ : ∃ Ix, partI l r out out.length = Ix := ⟨_, rfl⟩
              have hBl := partB_len hfit
              have hIl := partI_len (l := l) (r := r) (ps := out) (fun c hc => (hall c hc).1) out.length (by omega) hfit
              have hBl2 := hBl out.length
              rw [hBo] at hBl2 ⊢
              rw [hIx] at hIl ⊢
              have HBO := Lib.hid hBo
              have HIX := Lib.hid hIx
              have HFIT := Lib.hid hfit
              have HST := Lib.hid hst
              have HX := Lib.hid hx
              have HOWN := Lib.hid hown
              have HB := Lib.hid hb
              have i0 : (0 : Int) ≤ (j : Int) := by omega
              have i1 : (j : Int) < (l.length : Int) := by omega
              have hw1 : IntKind.i64.wrap ((j : Int) + 1) = (j : Int) + 1 := IntWalk.i64_in _ (by omega)
              clear hBo hIx hfit hst hx hown hb hBl hin hsz hall
              go_upto_region 24 with fail
              go_cut [83] from 68 to 155 (fun v W => ∃ d : Bool, v = .bool d ∧ (d = true ↔ (j = 0 ∨ keyB l (j - 1) ≠ keyB l j)) ∧ Below w1.heap.size w1 W ∧ W.ownsRow w1.heap.size 9 1 u11 (keysS l j).length ((keysS l j).map Value.string))
              case first =>
                obtain ⟨g, o, rfl, hbl, c0, c1, c2, c3⟩ := (H.out.kept HB.out).cell_at HX.out
                have HKX := Lib.hid (keyB_eq HX.out)
                by_cases hj0 : j = 0
                · have hkq : ((j : Int) == 0) = true := by simpa using hj0
                  have HJ := Lib.hid hj0
                  clear hj0
                  go_quiet (fail)
                  have hbq := below_drewN (Below.refl wr.heap.size wr) nq
                  have HRQ := own_kept HOWN.out hbq
                  go_wp2_with fail
                  go_meet
                  case rel => exact ⟨true, rfl, by simp [HJ.out], HB.out.trans (hbq.mono HB.out.size), HRQ⟩
                · have hkq : ((j : Int) == 0) = false := by simpa using hj0
                  obtain ⟨z, hz⟩ : ∃ z, l[j - 1]? = some z := ⟨_, List.getElem?_eq_getElem (by omega)⟩
                  obtain ⟨b', o', e', _, d0, _, _, _⟩ := (H.out.kept HB.out).cell_at hz
                  cases e'
                  have HKZ := Lib.hid (keyB_eq hz)
                  have q0 : (0 : Int) ≤ (j : Int) - 1 := by omega
                  have q1 : (j : Int) - 1 < (l.length : Int) := by omega
                  have hw1 : IntKind.i64.wrap ((j : Int) - 1) = (j : Int) - 1 := IntWalk.i64_in _ (by omega)
                  have ht1 : ((j : Int) - 1).toNat = j - 1 := by omega
                  have HJ := Lib.hid hj0
                  clear hz hj0
                  by_cases hne : z.key = x.key
                  · have hq : (x.key.toList == z.key.toList) = true := str_beq.2 hne.symm
                    have HNE := Lib.hid hne
                    clear hne
                    go_quiet (fail)
                    have hbq := below_drewN (Below.refl wr.heap.size wr) nq
                    have HRQ := own_kept HOWN.out hbq
                    go_wp2_with fail
                    go_meet
                    case rel => exact ⟨false, rfl, by rw [HKX.out, HKZ.out]; simp [HJ.out, HNE.out], HB.out.trans (hbq.mono HB.out.size), HRQ⟩
                  · have hq : (x.key.toList == z.key.toList) = false := str_beq_false.2 (fun h => hne h.symm)
                    have HNE := Lib.hid hne
                    clear hne
                    go_quiet (fail)
                    have hbq := below_drewN (Below.refl wr.heap.size wr) nq
                    have HRQ := own_kept HOWN.out hbq
                    go_wp2_with fail
                    go_meet
                    case rel => exact ⟨true, rfl, by rw [HKX.out, HKZ.out]; simp [HNE.out], HB.out.trans (hbq.mono HB.out.size), HRQ⟩
              case rest =>
                obtain ⟨d, rfl, hd, hb, hown⟩ := hcut
                have HD := Lib.hid hd
                have HB := Lib.hid hb
                have HOWN := Lib.hid hown
                have HH := H
                clear hd hb hown
                go_upto_if 83 with fail
                go_cut [11] from 84 to 155 (fun v W => Below w1.heap.size w1 W ∧ W.ownsRow w1.heap.size 9 1 v (keysS l (j + 1)).length ((keysS l (j + 1)).map Value.string))
                case first =>
                  cases d with
                  | true =>
                    obtain ⟨g, o, rfl, hbl, c0, c1, c2, c3⟩ := (H.out.kept HB.out).cell_at HX.out
                    have HA := Lib.hid (show keysS l (j + 1) = keysS l j ++ [x.key] by rw [keysS_yes (HD.out.1 rfl), keyB_eq HX.out])
                    have p1 : (keysS l j).length + 1 ≤ maxLen := by unfold maxLen; omega
                    have p2 : ((keysS l j).length + 1) * 16 ≤ 140737488355328 := by omega
                    have p3 : w1.heap.size ≤ (wc.alloc (.cells #[.string x.key] 9)).heap.size := by have := HB.out.size; simp only [World.size_alloc] at *; omega
                    obtain ⟨i0', hi, hz0, hz1, hz2⟩ := info_parts Try.infoStr
                    go_wp2_with (at_builtin; refine wpList_append_row rfl _ _ 142 rfl w1.heap.size 9 i0' (.string ⟨#[]⟩) 1 16 (by kernel_rfl) hi hz0 hz1 hz2 rfl (by decide) u11 _ _ rfl (HOWN.out.alloc _) ⟨wc.heap.size, 0, none⟩ 1 1 [.string x.key] rfl rfl (cell_one_new _ _ _) (by simp [Value.oneCell']) p1 p2 p3 ?_; intro rs' w4 own4 hgr hfr)
                    go_meet
                    case rel =>
                      refine ⟨?_, ?_⟩
                      · exact (HB.out.alloc HB.out.size (.cells #[.string x.key] 9)).grown hgr p3 (fun z hz => (HOWN.out.lt z hz).1)
                      · rw [HA.out]
                        simpa using own4
                  | false =>
                    have HA := Lib.hid (show keysS l (j + 1) = keysS l j by rw [keysS_no (fun h => by have := HD.out.2 h; cases this)])
                    go_wp2_with fail
                    go_meet
                    case rel => exact ⟨HB.out, by rw [HA.out]; exact HOWN.out⟩
                case rest =>
                  clear HB HOWN HD
                  obtain ⟨hb, hown⟩ := hcut
                  obtain ⟨g, o, rfl, hbl, c0, c1, c2, c3⟩ := (H.out.kept hb).cell_at HX.out
                  have v1 : IntKind.i64.wrap ((n : Int) + (x.key.size : Int)) = (n : Int) + (x.key.size : Int) := IntWalk.i64_in _ (by omega)
                  have v2 : IntKind.i64.wrap ((n : Int) + (x.key.size : Int) + (x.val.size : Int)) = (n : Int) + (x.key.size : Int) + (x.val.size : Int) := IntWalk.i64_in _ (by omega)
                  have v3 : IntKind.i64.wrap ((n : Int) + (x.key.size : Int) + (x.val.size : Int) + 16) = (n : Int) + (x.key.size : Int) + (x.val.size : Int) + 16 := IntWalk.i64_in _ (by omega)
                  obtain ⟨y0, y1, y2, y3⟩ := cell3 (HB1.out.below hb HB1.out.lt)
                  have HB := Lib.hid hb
                  have HOWN := Lib.hid hown
                  clear hb hown
                  go_wp2_with fail
                  go_quiet (fail)
                  have hbq := below_drewN (Below.refl wc.heap.size wc) nq
                  have HBQ := Lib.hid (HB.out.trans (hbq.mono HB.out.size))
                  have HRQ := Lib.hid (own_kept HOWN.out hbq)
                  clear hbq
                  go_upto_region 27 with fail
                  go_cut [118] from 108 to 155 (fun v W => ∃ d2 : Bool, v = .bool d2 ∧ (d2 = false ↔ ((b : Int) ≤ (n + (x.key.size + x.val.size + 16) : Nat) ∨ j + 1 = l.length)) ∧ Below w1.heap.size w1 W ∧ W.ownsRow w1.heap.size 9 1 u11 (keysS l (j + 1)).length ((keysS l (j + 1)).map Value.string))
                  case first =>
                    by_cases e1 : (n : Int) + (x.key.size : Int) + (x.val.size : Int) + 16 < (b : Int)
                    · by_cases e2 : (j : Int) + 1 < (l.length : Int)
                      · go_wp2_with fail
                        go_meet
                        case rel => exact ⟨true, rfl, ⟨fun h => (by cases h), fun h => (by omega)⟩, HBQ.out, HRQ.out⟩
                      · go_wp2_with fail
                        go_meet
                        case rel => exact ⟨false, rfl, ⟨fun _ => .inr (by omega), fun _ => rfl⟩, HBQ.out, HRQ.out⟩
                    · go_wp2_with fail
                      go_meet
                      case rel => exact ⟨false, rfl, ⟨fun _ => .inl (by omega), fun _ => rfl⟩, HBQ.out, HRQ.out⟩
                  case rest =>
                    clear y0 y1 y2 y3 c0 c1 c2 c3 hbl
                    obtain ⟨d2, rfl, hd2, hb, hown⟩ := hcut
                    cases d2 with
                    | true =>
                      have HA := Lib.hid (HN.out (fun h => by have := hd2.2 h; cases this))
                      clear hd2
                      go_wp2_with fail
                      go_roundw
                      case rel =>
                        exact ⟨j + 1, by omega, by go_num, by rw [HA.out], by rw [HA.out]; exact congrArg (Value.int .i64) (show (n : Int) + (x.key.size : Int) + (x.val.size : Int) + 16 = ((n + (x.key.size + x.val.size + 16) : Nat) : Int) by clear hw1 v1 v2 v3; omega), by rw [HA.out, HBO.out], by rw [HA.out, HIX.out], by rw [HA.out]; exact HFIT.out, hown, hb⟩
                      case measure => simp [intOf]; omega
                    | false =>
                      have HA := Lib.hid (HY.out (hd2.1 rfl))
                      clear hd2 v1 v2 v3
                      obtain ⟨x0, hx0⟩ : ∃ x0, l[s0]? = some x0 := ⟨_, List.getElem?_eq_getElem (by omega)⟩
                      obtain ⟨b', o', e', hbl, c0, _, _, _⟩ := (H.out.kept hb).cell_at hx0
                      cases e'
                      have hk0 := (check_sizes (HCS.out x0 (List.mem_of_getElem? hx0))).1
                      have hkb := keyB_eq hx0
                      obtain ⟨PL, hPL⟩ : ∃ PL, pieceL l (s0, j + 1) = PL := ⟨_, rfl⟩
                      have hpv : ∀ W, Reads W (.slice (some ⟨g, o, none⟩) l.length cap) l.length 4 (cellVals l) → _ := fun W hW => piece_reads (p := (s0, j + 1)) hW rfl (show s0 < j + 1 by omega) (show j + 1 ≤ l.length by omega) hcap
                      rw [hPL] at hpv
                      have hpck : checkL PL = 0 := by rw [← hPL]; exact pieceL_check HCK.out
                      have hPLl : PL.length ≤ 65536 := by rw [← hPL, pieceL_len (show (s0, j + 1).2 ≤ l.length from (by show j + 1 ≤ l.length; omega))]; show j + 1 - s0 ≤ 65536; omega
                      have hPLs : ∀ c ∈ PL, 0 ≤ c.seq := fun c hc => HS.out c (by rw [← hPL] at hc; exact pieceL_mem hc)
                      obtain ⟨PB, hPB⟩ : ∃ PB, blockN PL r = PB := ⟨_, rfl⟩
                      have hBN : buildN PL (r : Int) = if PB.length ≤ 65536 then (PB, 0) else ([], 3) := by
                        unfold buildN
                        rw [if_neg (by omega), if_neg (by rw [hpck]; simp), Int.toNat_natCast, hPB]
                      have hslc : ∀ W : World, (Instr.sliceAt 22 (.slice (some ⟨g, o, none⟩) l.length cap) (some (.int .i64 (s0 : Nat))) (some (.int .i64 ((j : Int) + 1))) none).run Try.prog W = .ok (.slice (some ⟨g, o + s0 * 4, none⟩) PL.length (cap - s0)) W := fun W => by
                        have e := cut_both (t := 22) (some ⟨g, o, none⟩) l.length cap s0 4 ((j : Int) + 1) (by omega) (by kernel_rfl) (fun w => by go_simp) (by omega) W
                        rw [e]
                        have := (hpv _ (H.out.kept hb)).1
                        unfold pieceV at this
                        rw [show ((j : Int) + 1).toNat = j + 1 by omega]
                        rw [this]
                      have hbu : ∀ W, Below w1.heap.size w1 W → Calls Try.prog 38 #[.slice (some ⟨g, o + s0 * 4, none⟩) PL.length (cap - s0), .int .i64 (r : Nat)] W fun e w' => e = .returned (.tuple #[.string ⟨(buildN PL (r : Int)).1.toArray⟩, .int .i64 (buildN PL (r : Int)).2]) ∧ Below W.heap.size W w' := fun W hW =>
                        ref_build_spec (hpv W (H.out.kept hW)).2 (by omega) hPLs r
                      rw [hBN] at hbu
                      obtain ⟨y0, y1, y2, y3⟩ := cell3 (HB1.out.below hb HB1.out.lt)
                      have hPlan : wc.drew.cell? ⟨w.heap.size, 1, none⟩ = some (.int .i64 (r : Nat)) ∧ w.heap.size < wc.drew.heap.size := ⟨y1, y3⟩
                      have HPL := Lib.hid hPL
                      have HPB := Lib.hid hPB
                      have HX0 := Lib.hid hx0
                      have HKB := Lib.hid hkb
                      have HBW := Lib.hid hb
                      have HOW := Lib.hid hown
                      clear hPL hPB hx0 hkb hb hown hpv hpck hPLs hBN
                      by_cases hfits : PB.length ≤ 65536
                      · rw [if_pos hfits] at hbu
                        have HBU := Lib.hid hbu
                        clear hbu
                        go_wp2_with fail
                        refine region_plan (S := fun w' => w'.cell? ⟨w.heap.size, 1, none⟩ = some (.int .i64 (r : Nat)) ∧ w.heap.size < w'.heap.size)
                          ((0, true) :: (1, true) :: (2, true) :: (3, true) :: (4, true) :: (5, true) :: (6, true) :: (7, false) :: (8, true) :: (9, true) :: (10, true) :: (11, true) :: (12, true) :: [])
                          (by kernel_rfl) (by kernel_rfl) (by kernel_rfl) (by kernel_rfl) (fun _ _ _ dst _ h => by cases dst <;> exact h) hPlan (fun hH => ?_)
                        (repeat (first | (refine plan_take (v := ?_) (by (simp only [List.getElem?_toArray, List.getElem?_cons_succ, List.getElem?_cons_zero]; exact rfl)) (by rfl) ?_ ?_; rotate_left; (focus (intro wS hS; (try dsimp only at hS); go_split_ands; go_simp; (try with_reducible rfl))); simp only [Act.put, List.setIfInBounds_toArray, List.set_cons_zero, List.set_cons_succ]) | (refine plan_skip (by (simp only [List.getElem?_toArray, List.getElem?_cons_succ, List.getElem?_cons_zero]; exact rfl)) (by rfl) ?_; simp only [Act.put, List.setIfInBounds_toArray, List.set_cons_zero, List.set_cons_succ])))
                        (refine plan_solo (by (simp only [List.getElem?_toArray, List.getElem?_cons_succ, List.getElem?_cons_zero]; exact rfl)) (by rfl) ?_; intro K hK; go_simp)
                        refine (HBU.out _ HBW.out.drew).mono ?_
                        rintro e w5 ⟨rfl, hb5⟩
                        have b5 := HBW.out.drew.trans (hb5.mono HBW.out.drew.size)
                        refine hK.out _ _ ⟨cell_keep hb5 y1, Nat.lt_of_lt_of_le y3 hb5.size⟩ (fun hH => ?_)
                        clear hK K
                        (try simp only [Act.put, List.setIfInBounds_toArray, List.set_cons_zero, List.set_cons_succ])
                        (repeat (first | (refine plan_take (v := ?_) (by (simp only [List.getElem?_toArray, List.getElem?_cons_succ, List.getElem?_cons_zero]; exact rfl)) (by rfl) ?_ ?_; rotate_left; (focus (intro wS hS; (try dsimp only at hS); go_split_ands; go_simp; (try with_reducible rfl))); simp only [Act.put, List.setIfInBounds_toArray, List.set_cons_zero, List.set_cons_succ]) | (refine plan_skip (by (simp only [List.getElem?_toArray, List.getElem?_cons_succ, List.getElem?_cons_zero]; exact rfl)) (by rfl) ?_; simp only [Act.put, List.setIfInBounds_toArray, List.set_cons_zero, List.set_cons_succ])))
                        refine plan_nil ?_
                        have HOW5 := Lib.hid (own_kept (own_kept HOW.out (Below.refl wc.heap.size wc).drew) hb5)
                        have c5 := cell_keep hb5 c0
                        have hbl5 := Nat.lt_of_lt_of_le hbl hb5.size
                        have HB5 := Lib.hid b5
                        have htl := textN_len hk0
                        have vl1 := varN_len 9 Bo.length (by omega)
                        have vl2 := varN_len 9 PB.length (by omega)
                        have u1 : IntKind.u64.wrap (Bo.length : Int) = (Bo.length : Int) := by rw [IntKind.wrap_u64]; omega
                        have u2 : IntKind.u64.wrap (PB.length : Int) = (PB.length : Int) := by rw [IntKind.wrap_u64]; omega
                        have HT1 := Lib.hid (fun W => ref_text x0.key (by omega) W)
                        have HV1 := Lib.hid (fun W => ref_varint Bo.length (by omega) W)
                        have HV2 := Lib.hid (fun W => ref_varint PB.length (by omega) W)
                        have hsz1 : (ByteArray.mk Bo.toArray).size = Bo.length := rfl
                        have hsz2 : (ByteArray.mk PB.toArray).size = PB.length := rfl
                        obtain ⟨TX, hTX⟩ : ∃ TX, WM.textN x0.key = TX := ⟨_, rfl⟩
                        obtain ⟨V1, hV1⟩ : ∃ V1, varN Bo.length = V1 := ⟨_, rfl⟩
                        obtain ⟨V2, hV2⟩ : ∃ V2, varN PB.length = V2 := ⟨_, rfl⟩
                        rw [hTX] at htl HT1
                        rw [hV1] at vl1 HV1
                        rw [hV2] at vl2 HV2
                        obtain ⟨S1, hS1⟩ : ∃ S1, Ix ++ TX = S1 := ⟨_, rfl⟩
                        obtain ⟨S2, hS2⟩ : ∃ S2, S1 ++ V1 = S2 := ⟨_, rfl⟩
                        obtain ⟨S3, hS3⟩ : ∃ S3, S2 ++ V2 = S3 := ⟨_, rfl⟩
                        obtain ⟨S4, hS4⟩ : ∃ S4, Bo ++ PB = S4 := ⟨_, rfl⟩
                        have a1 := str_add Ix TX (by omega)
                        have a2 := str_add S1 V1 (by rw [← hS1, List.length_append]; omega)
                        have a3 := str_add S2 V2 (by rw [← hS2, ← hS1, List.length_append, List.length_append]; omega)
                        have a4 := str_add Bo PB (by omega)
                        rw [hS1] at a1
                        rw [hS2] at a2
                        rw [hS3] at a3
                        rw [hS4] at a4
                        have hps : partB l r (out ++ [(s0, j + 1)]) (out ++ [(s0, j + 1)]).length = S4 := by
                          rw [List.length_append]
                          exact (partB_snoc l r out (s0, j + 1)).trans (by rw [HBO.out, HPL.out, HPB.out, hS4])
                        have hpi : partI l r (out ++ [(s0, j + 1)]) (out ++ [(s0, j + 1)]).length = S3 := by
                          rw [List.length_append]
                          refine (partI_snoc l r out (s0, j + 1)).trans ?_
                          rw [HIX.out, HBO.out, HPL.out, HPB.out]
                          show Ix ++ (WM.textN (keyB l s0) ++ _) = _
                          rw [HKB.out, hTX, hV1, hV2, ← hS3, ← hS2, ← hS1]
                          simp only [List.append_assoc]
                        have hft : fitsP l r (out ++ [(s0, j + 1)]) := fun p hp => by
                          rcases List.mem_append.1 hp with hp | hp
                          · exact HFIT.out p hp
                          · obtain rfl : p = _ := by simpa using hp
                            rw [HPL.out, HPB.out]
                            exact hfits
                        have HPS := Lib.hid hps
                        have HPI := Lib.hid hpi
                        have HFT := Lib.hid hft
                        clear hTX hV1 hV2 hps hpi hft hS1 hS2 hS3 hS4
                        clear y0 y1 y2 y3 c0 hbl hb5 b5 HBW HOW
                        go_wp2_with fail
                        refine (HT1.out _).mono ?_
                        rintro e w6 ⟨rfl, b6⟩
                        go_wp2_with fail
                        refine (HV1.out _).mono ?_
                        rintro e w7 ⟨rfl, b7⟩
                        go_wp2_with fail
                        refine (HV2.out _).mono ?_
                        rintro e w8 ⟨rfl, b8⟩
                        have b68 := b6.trans ((b7.trans (b8.mono b7.size)).mono b6.size)
                        have HB8 := Lib.hid (HB5.out.trans (b68.mono HB5.out.size))
                        have HOW8 := Lib.hid (own_kept HOW5.out b68)
                        clear b6 b7 b8 b68
                        go_wp2_with fail
                        go_roundw
                        case rel =>
                          (repeat apply Exists.intro)
                          refine ⟨?_, rfl⟩
                          exact ⟨j + 1, by omega, by go_num, by rw [HA.out]; rfl, by rw [HA.out]; rfl, by rw [HA.out, HPS.out], by rw [HA.out, HPI.out], by rw [HA.out]; exact HFT.out, HOW8.out, HB8.out⟩
                        case measure => simp [intOf]; omega
                      · rw [if_neg hfits] at hbu
                        have HBU := Lib.hid hbu
                        have HT := Lib.hid (show tableN l (b : Int) (r : Int) (t : Int) = ([], 3) by
                          rw [HTN.out, if_pos]
                          intro hft
                          have := hft (s0, j + 1) (HIN.out _ (by rw [HA.out]; simp))
                          rw [HPL.out, HPB.out] at this
                          exact hfits this)
                        clear hbu
                        go_wp2_with fail
                        refine region_plan (S := fun w' => w'.cell? ⟨w.heap.size, 1, none⟩ = some (.int .i64 (r : Nat)) ∧ w.heap.size < w'.heap.size)
                          ((0, true) :: (1, true) :: (2, true) :: (3, true) :: (4, true) :: (5, true) :: (6, true) :: (7, false) :: (8, true) :: (9, true) :: (10, true) :: (11, true) :: (12, true) :: [])
                          (by kernel_rfl) (by kernel_rfl) (by kernel_rfl) (by kernel_rfl) (fun _ _ _ dst _ h => by cases dst <;> exact h) hPlan (fun hH => ?_)
                        (repeat (first | (refine plan_take (v := ?_) (by (simp only [List.getElem?_toArray, List.getElem?_cons_succ, List.getElem?_cons_zero]; exact rfl)) (by rfl) ?_ ?_; rotate_left; (focus (intro wS hS; (try dsimp only at hS); go_split_ands; go_simp; (try with_reducible rfl))); simp only [Act.put, List.setIfInBounds_toArray, List.set_cons_zero, List.set_cons_succ]) | (refine plan_skip (by (simp only [List.getElem?_toArray, List.getElem?_cons_succ, List.getElem?_cons_zero]; exact rfl)) (by rfl) ?_; simp only [Act.put, List.setIfInBounds_toArray, List.set_cons_zero, List.set_cons_succ])))
                        (refine plan_solo (by (simp only [List.getElem?_toArray, List.getElem?_cons_succ, List.getElem?_cons_zero]; exact rfl)) (by rfl) ?_; intro K hK; go_simp)
                        refine (HBU.out _ HBW.out.drew).mono ?_
                        rintro e w5 ⟨rfl, hb5⟩
                        have b5 := HBW.out.drew.trans (hb5.mono HBW.out.drew.size)
                        refine hK.out _ _ ⟨cell_keep hb5 y1, Nat.lt_of_lt_of_le y3 hb5.size⟩ (fun hH => ?_)
                        clear hK K
                        (try simp only [Act.put, List.setIfInBounds_toArray, List.set_cons_zero, List.set_cons_succ])
                        (repeat (first | (refine plan_take (v := ?_) (by (simp only [List.getElem?_toArray, List.getElem?_cons_succ, List.getElem?_cons_zero]; exact rfl)) (by rfl) ?_ ?_; rotate_left; (focus (intro wS hS; (try dsimp only at hS); go_split_ands; go_simp; (try with_reducible rfl))); simp only [Act.put, List.setIfInBounds_toArray, List.set_cons_zero, List.set_cons_succ]) | (refine plan_skip (by (simp only [List.getElem?_toArray, List.getElem?_cons_succ, List.getElem?_cons_zero]; exact rfl)) (by rfl) ?_; simp only [Act.put, List.setIfInBounds_toArray, List.set_cons_zero, List.set_cons_succ])))
                        refine plan_nil ?_
                        have HB5 := Lib.hid b5
                        clear y0 y1 y2 y3 c0 hbl hb5 b5 HBW HOW
                        go_wp2_with fail
                        go_ret2
                        unfold RTPost
                        rw [HT.out]
                        exact ⟨_, rfl, Reads.of_own (World.ownsRow_nil _ 0 5 1), HB0.out.trans (HB5.out.mono HB0.out.size)⟩
            · obtain rfl : j = l.length := by omega
              have hBl := partB_len hfit
              have hIl := partI_len (l := l) (r := r) (fun c hc => (check_sizes (HCS.out c hc)).1) (cutS l b l.length).out.length (by have := cutS_len l b l.length; omega) hfit
              have hcl := cutS_len l b l.length
              have hBl2 := hBl (cutS l b l.length).out.length
              have hBT : partB l r (cutS l b l.length).out (cutS l b l.length).out.length = bodyT l b r := rfl
              have hIT : partI l r (cutS l b l.length).out (cutS l b l.length).out.length = indexT l b r := rfl
              have hkl := keysS_len l l.length
              have hown' : wr.ownsRow w1.heap.size 9 1 u11 (keysN l).length ((keysN l).map Value.string) := hown
              have hkn : (keysN l).length ≤ 65536 := by unfold keysN; omega
              have hks : ∀ s ∈ keysN l, s.size ≤ 128 := fun s hs => by
                obtain ⟨c, hc, rfl⟩ := keysN_mem hs
                exact (check_sizes (HCS.out c hc)).1
              obtain ⟨Ak, ck, rfl⟩ := (Reads.of_own hown').form
              have hfl := rfilter_main (Reads.of_own hown') hkn hks t (by omega) (by omega)
              have hF : (filterN (keysN l) t).length ≤ 300000 := by
                rw [filterN_len]
                obtain ⟨q, hq, _, hqm⟩ := fM_facts (keysN l).length t
                have : (keysN l).length * t ≤ 65536 * 32 := Nat.mul_le_mul hkn (by omega)
                omega
              have hTOK : tableN l (b : Int) (r : Int) (t : Int) = if 1048576 < (bytesT l b r t).length then ([], 3) else (bytesT l b r t, 0) := by
                rw [HTN.out, if_neg]
                exact fun h => h hfit
              have hBY : bytesT l b r t = wholeN (bodyT l b r) (filterN (keysN l) t) (indexT l b r) l.length b r t := rfl
              rw [hBT] at hBl2 ⊢
              rw [hIT] at hIl ⊢
              obtain ⟨Bo, hBo⟩ : ∃ Bo, bodyT l b r = Bo := ⟨_, rfl⟩
              obtain ⟨Ix, hIx⟩ : ∃ Ix, indexT l b r = Ix := ⟨_, rfl⟩
              obtain ⟨F, hFe⟩ : ∃ F, filterN (keysN l) t = F := ⟨_, rfl⟩
              rw [hBo] at hBl2 hBY ⊢
              rw [hIx] at hIl hBY ⊢
              rw [hFe] at hBY hfl hF
              rw [hBY] at hTOK
              obtain ⟨y0, y1, y2, y3⟩ := cell3 (HB1.out.below hb HB1.out.lt)
              have HFL := Lib.hid hfl
              have HTOK := Lib.hid hTOK
              have HBW := Lib.hid hb
              clear hBl hBT hIT hown hown' hks hfl hBY hBo hIx hFe hTOK hb hfit hkl
              go_wp2_with fail
              refine HFL.out.mono ?_
              rintro e w5 ⟨v5, rfl, own5, b5⟩
              have y0' := cell_keep b5 y0
              have y1' := cell_keep b5 y1
              have y2' := cell_keep b5 y2
              have y3' := Nat.lt_of_lt_of_le y3 b5.size
              have HB5 := Lib.hid (HBW.out.trans (b5.mono HBW.out.size))
              obtain ⟨A5, c5, rfl⟩ := (Reads.of_own own5).form
              have HO5 := Lib.hid own5
              have hPlan : w5.drew.cell? ⟨w.heap.size, 0, none⟩ = some (.int .i64 (b : Nat)) ∧ w5.drew.cell? ⟨w.heap.size, 1, none⟩ = some (.int .i64 (r : Nat)) ∧ w5.drew.cell? ⟨w.heap.size, 2, none⟩ = some (.int .i64 (t : Nat)) ∧ w.heap.size < w5.drew.heap.size := ⟨y0', y1', y2', y3'⟩
              clear y0 y1 y2 y3 own5 b5 HBW
              have hBm : Bo.length ≤ 4294967296 := by omega
              have hIm : Ix.length ≤ 10354688 := by omega
              have u1 : IntKind.u64.wrap (Bo.length : Int) = (Bo.length : Int) := by rw [IntKind.wrap_u64]; omega
              have u2 : IntKind.u64.wrap (F.length : Int) = (F.length : Int) := by rw [IntKind.wrap_u64]; omega
              have u3 : IntKind.i64.wrap ((Bo.length : Int) + (F.length : Int)) = ((Bo.length + F.length : Nat) : Int) := by rw [IntWalk.i64_in _ (by omega)]; omega
              have u4 : IntKind.u64.wrap ((Bo.length + F.length : Nat) : Int) = ((Bo.length + F.length : Nat) : Int) := by rw [IntKind.wrap_u64]; omega
              have u5 : IntKind.u64.wrap (Ix.length : Int) = (Ix.length : Int) := by rw [IntKind.wrap_u64]; omega
              have u6 : IntKind.u64.wrap (l.length : Int) = (l.length : Int) := by rw [IntKind.wrap_u64]; omega
              have u7 : IntKind.u64.wrap (b : Int) = (b : Int) := by rw [IntKind.wrap_u64]; omega
              have u8 : IntKind.u64.wrap (r : Int) = (r : Int) := by rw [IntKind.wrap_u64]; omega
              have u9 : IntKind.u64.wrap (t : Int) = (t : Int) := by rw [IntKind.wrap_u64]; omega
              have HC1 := Lib.hid (fun W => ref_number4 Bo.length W)
              have HC2 := Lib.hid (fun W => ref_number4 F.length W)
              obtain ⟨BF, hBF⟩ : ∃ BF, Bo.length + F.length = BF := ⟨_, rfl⟩
              rw [hBF] at u3 u4
              have HC3 := Lib.hid (fun W => ref_number4 BF W)
              have HC4 := Lib.hid (fun W => ref_number4 Ix.length W)
              have HC5 := Lib.hid (fun W => ref_number4 l.length W)
              have HC6 := Lib.hid (fun W => ref_number4 b W)
              have HC7 := Lib.hid (fun W => ref_number2 r W)
              have HC8 := Lib.hid (fun W => ref_number2 t W)
              obtain ⟨M1, hM1⟩ : ∃ M, be4 (Bo.length) = M := ⟨_, rfl⟩
              have m1 : M1.length = 4 := by rw [← hM1]; rfl
              rw [hM1] at HC1
              obtain ⟨M2, hM2⟩ : ∃ M, be4 (F.length) = M := ⟨_, rfl⟩
              have m2 : M2.length = 4 := by rw [← hM2]; rfl
              rw [hM2] at HC2
              obtain ⟨M3, hM3⟩ : ∃ M, be4 BF = M := ⟨_, rfl⟩
              have m3 : M3.length = 4 := by rw [← hM3]; rfl
              rw [hM3] at HC3
              obtain ⟨M4, hM4⟩ : ∃ M, be4 (Ix.length) = M := ⟨_, rfl⟩
              have m4 : M4.length = 4 := by rw [← hM4]; rfl
              rw [hM4] at HC4
              obtain ⟨M5, hM5⟩ : ∃ M, be4 (l.length) = M := ⟨_, rfl⟩
              have m5 : M5.length = 4 := by rw [← hM5]; rfl
              rw [hM5] at HC5
              obtain ⟨M6, hM6⟩ : ∃ M, be4 b = M := ⟨_, rfl⟩
              have m6 : M6.length = 4 := by rw [← hM6]; rfl
              rw [hM6] at HC6
              obtain ⟨M7, hM7⟩ : ∃ M, be2 r = M := ⟨_, rfl⟩
              have m7 : M7.length = 2 := by rw [← hM7]; rfl
              rw [hM7] at HC7
              obtain ⟨M8, hM8⟩ : ∃ M, be2 t = M := ⟨_, rfl⟩
              have m8 : M8.length = 2 := by rw [← hM8]; rfl
              rw [hM8] at HC8
              obtain ⟨S2, hS2⟩ : ∃ S, M1 ++ M2 = S := ⟨_, rfl⟩
              have q2 : S2.length ≤ 8 := by rw [← hS2, List.length_append]; omega
              have a2 := str_add M1 M2 (by omega)
              rw [hS2] at a2
              obtain ⟨S3, hS3⟩ : ∃ S, S2 ++ M3 = S := ⟨_, rfl⟩
              have q3 : S3.length ≤ 12 := by rw [← hS3, List.length_append]; omega
              have a3 := str_add S2 M3 (by omega)
              rw [hS3] at a3
              obtain ⟨S4, hS4⟩ : ∃ S, S3 ++ M4 = S := ⟨_, rfl⟩
              have q4 : S4.length ≤ 16 := by rw [← hS4, List.length_append]; omega
              have a4 := str_add S3 M4 (by omega)
              rw [hS4] at a4
              obtain ⟨S5, hS5⟩ : ∃ S, S4 ++ M5 = S := ⟨_, rfl⟩
              have q5 : S5.length ≤ 20 := by rw [← hS5, List.length_append]; omega
              have a5 := str_add S4 M5 (by omega)
              rw [hS5] at a5
              obtain ⟨S6, hS6⟩ : ∃ S, S5 ++ M6 = S := ⟨_, rfl⟩
              have q6 : S6.length ≤ 24 := by rw [← hS6, List.length_append]; omega
              have a6 := str_add S5 M6 (by omega)
              rw [hS6] at a6
              obtain ⟨S7, hS7⟩ : ∃ S, S6 ++ M7 = S := ⟨_, rfl⟩
              have q7 : S7.length ≤ 28 := by rw [← hS7, List.length_append]; omega
              have a7 := str_add S6 M7 (by omega)
              rw [hS7] at a7
              obtain ⟨S8, hS8⟩ : ∃ S, S7 ++ M8 = S := ⟨_, rfl⟩
              have q8 : S8.length ≤ 32 := by rw [← hS8, List.length_append]; omega
              have a8 := str_add S7 M8 (by omega)
              rw [hS8] at a8
              have hft : S8 = foot0 Bo.length F.length Ix.length l.length b r t := by
                unfold foot0
                rw [← be4_m32, ← be4_m32, ← be4_m32, ← be4_m32, ← be4_m32, ← be4_m32, hBF, hM1, hM2, hM3, hM4, hM5, hM6, hM7, hM8, ← hS8, ← hS7, ← hS6, ← hS5, ← hS4, ← hS3, ← hS2]
                simp only [List.append_assoc]
              have HFT := Lib.hid hft
              clear hft hBF hM1 hM2 hM3 hM4 hM5 hM6 hM7 hM8 hS2 hS3 hS4 hS5 hS6 hS7 hS8
              go_wp2_with fail
              refine region_plan (S := fun w' => w'.cell? ⟨w.heap.size, 0, none⟩ = some (.int .i64 (b : Nat)) ∧ w'.cell? ⟨w.heap.size, 1, none⟩ = some (.int .i64 (r : Nat)) ∧ w'.cell? ⟨w.heap.size, 2, none⟩ = some (.int .i64 (t : Nat)) ∧ w.heap.size < w'.heap.size)
                ((0, true) :: (1, true) :: (3, true) :: (4, true) :: (5, true) :: (8, true) :: (9, true) :: (10, true) :: (11, true) :: (12, true) :: (15, true) :: (16, true) :: (17, true) :: (20, true) :: (21, true) :: (22, true) :: (25, true) :: (26, true) :: (27, true) :: (30, true) :: (31, true) :: (32, true) :: (35, true) :: (36, true) :: (37, true) :: (2, false) :: (6, false) :: (7, true) :: (13, false) :: (14, true) :: (18, false) :: (19, true) :: (23, false) :: (24, true) :: (28, false) :: (29, true) :: (33, false) :: (34, true) :: (38, false) :: (39, true) :: (40, true) :: [])
                (by kernel_rfl) (by kernel_rfl) (by kernel_rfl) (by kernel_rfl) (fun _ _ _ dst _ h => by cases dst <;> exact h) hPlan (fun hH => ?_)
              clear hPlan
              have p5 := HB5.out.drew
              have o5 := own_kept HO5.out (Below.refl w5.heap.size w5).drew
              have O5 := Lib.hid o5
              have P5 := Lib.hid p5
              clear p5 o5 HB5 HO5
              (repeat (first | (refine plan_take (v := ?_) (by (simp only [List.getElem?_toArray, List.getElem?_cons_succ, List.getElem?_cons_zero]; exact rfl)) (by rfl) ?_ ?_; rotate_left; (focus (intro wS hS; (try dsimp only at hS); go_split_ands; go_simp; (try with_reducible rfl))); simp only [Act.put, List.setIfInBounds_toArray, List.set_cons_zero, List.set_cons_succ]) | (refine plan_skip (by (simp only [List.getElem?_toArray, List.getElem?_cons_succ, List.getElem?_cons_zero]; exact rfl)) (by rfl) ?_; simp only [Act.put, List.setIfInBounds_toArray, List.set_cons_zero, List.set_cons_succ])))
              (refine plan_solo (by (simp only [List.getElem?_toArray, List.getElem?_cons_succ, List.getElem?_cons_zero]; exact rfl)) (by rfl) ?_; intro K hK; go_simp)
              refine (HC1.out _).mono ?_
              rintro e w6 ⟨rfl, f1⟩
              have P6 := Lib.hid (P5.out.trans (f1.mono P5.out.size))
              have O6 := Lib.hid (own_kept O5.out f1)
              refine hK.out _ _ ⟨cell_keep f1 hH.1, cell_keep f1 hH.2.1, cell_keep f1 hH.2.2.1, Nat.lt_of_lt_of_le hH.2.2.2 f1.size⟩ (fun hH' => ?_)
              clear hK K hH f1 P5 O5
              have hH := hH'
              clear hH'
              (try simp only [Act.put, List.setIfInBounds_toArray, List.set_cons_zero, List.set_cons_succ])
              (repeat (first | (refine plan_take (v := ?_) (by (simp only [List.getElem?_toArray, List.getElem?_cons_succ, List.getElem?_cons_zero]; exact rfl)) (by rfl) ?_ ?_; rotate_left; (focus (intro wS hS; (try dsimp only at hS); go_split_ands; go_simp; (try with_reducible rfl))); simp only [Act.put, List.setIfInBounds_toArray, List.set_cons_zero, List.set_cons_succ]) | (refine plan_skip (by (simp only [List.getElem?_toArray, List.getElem?_cons_succ, List.getElem?_cons_zero]; exact rfl)) (by rfl) ?_; simp only [Act.put, List.setIfInBounds_toArray, List.set_cons_zero, List.set_cons_succ])))
              (refine plan_solo (by (simp only [List.getElem?_toArray, List.getElem?_cons_succ, List.getElem?_cons_zero]; exact rfl)) (by rfl) ?_; intro K hK; go_simp)
              refine (HC2.out _).mono ?_
              rintro e w7 ⟨rfl, f2⟩
              have P7 := Lib.hid (P6.out.trans (f2.mono P6.out.size))
              have O7 := Lib.hid (own_kept O6.out f2)
              refine hK.out _ _ ⟨cell_keep f2 hH.1, cell_keep f2 hH.2.1, cell_keep f2 hH.2.2.1, Nat.lt_of_lt_of_le hH.2.2.2 f2.size⟩ (fun hH' => ?_)
              clear hK K hH f2 P6 O6
              have hH := hH'
              clear hH'
              (try simp only [Act.put, List.setIfInBounds_toArray, List.set_cons_zero, List.set_cons_succ])
              (repeat (first | (refine plan_take (v := ?_) (by (simp only [List.getElem?_toArray, List.getElem?_cons_succ, List.getElem?_cons_zero]; exact rfl)) (by rfl) ?_ ?_; rotate_left; (focus (intro wS hS; (try dsimp only at hS); go_split_ands; go_simp; (try with_reducible rfl))); simp only [Act.put, List.setIfInBounds_toArray, List.set_cons_zero, List.set_cons_succ]) | (refine plan_skip (by (simp only [List.getElem?_toArray, List.getElem?_cons_succ, List.getElem?_cons_zero]; exact rfl)) (by rfl) ?_; simp only [Act.put, List.setIfInBounds_toArray, List.set_cons_zero, List.set_cons_succ])))
              (refine plan_solo (by (simp only [List.getElem?_toArray, List.getElem?_cons_succ, List.getElem?_cons_zero]; exact rfl)) (by rfl) ?_; intro K hK; go_simp)
              refine (HC3.out _).mono ?_
              rintro e w8 ⟨rfl, f3⟩
              have P8 := Lib.hid (P7.out.trans (f3.mono P7.out.size))
              have O8 := Lib.hid (own_kept O7.out f3)
              refine hK.out _ _ ⟨cell_keep f3 hH.1, cell_keep f3 hH.2.1, cell_keep f3 hH.2.2.1, Nat.lt_of_lt_of_le hH.2.2.2 f3.size⟩ (fun hH' => ?_)
              clear hK K hH f3 P7 O7
              have hH := hH'
              clear hH'
              (try simp only [Act.put, List.setIfInBounds_toArray, List.set_cons_zero, List.set_cons_succ])
              (repeat (first | (refine plan_take (v := ?_) (by (simp only [List.getElem?_toArray, List.getElem?_cons_succ, List.getElem?_cons_zero]; exact rfl)) (by rfl) ?_ ?_; rotate_left; (focus (intro wS hS; (try dsimp only at hS); go_split_ands; go_simp; (try with_reducible rfl))); simp only [Act.put, List.setIfInBounds_toArray, List.set_cons_zero, List.set_cons_succ]) | (refine plan_skip (by (simp only [List.getElem?_toArray, List.getElem?_cons_succ, List.getElem?_cons_zero]; exact rfl)) (by rfl) ?_; simp only [Act.put, List.setIfInBounds_toArray, List.set_cons_zero, List.set_cons_succ])))
              (refine plan_solo (by (simp only [List.getElem?_toArray, List.getElem?_cons_succ, List.getElem?_cons_zero]; exact rfl)) (by rfl) ?_; intro K hK; go_simp)
              refine (HC4.out _).mono ?_
              rintro e w9 ⟨rfl, f4⟩
              have P9 := Lib.hid (P8.out.trans (f4.mono P8.out.size))
              have O9 := Lib.hid (own_kept O8.out f4)
              refine hK.out _ _ ⟨cell_keep f4 hH.1, cell_keep f4 hH.2.1, cell_keep f4 hH.2.2.1, Nat.lt_of_lt_of_le hH.2.2.2 f4.size⟩ (fun hH' => ?_)
              clear hK K hH f4 P8 O8
              have hH := hH'
              clear hH'
              (try simp only [Act.put, List.setIfInBounds_toArray, List.set_cons_zero, List.set_cons_succ])
              (repeat (first | (refine plan_take (v := ?_) (by (simp only [List.getElem?_toArray, List.getElem?_cons_succ, List.getElem?_cons_zero]; exact rfl)) (by rfl) ?_ ?_; rotate_left; (focus (intro wS hS; (try dsimp only at hS); go_split_ands; go_simp; (try with_reducible rfl))); simp only [Act.put, List.setIfInBounds_toArray, List.set_cons_zero, List.set_cons_succ]) | (refine plan_skip (by (simp only [List.getElem?_toArray, List.getElem?_cons_succ, List.getElem?_cons_zero]; exact rfl)) (by rfl) ?_; simp only [Act.put, List.setIfInBounds_toArray, List.set_cons_zero, List.set_cons_succ])))
              (refine plan_solo (by (simp only [List.getElem?_toArray, List.getElem?_cons_succ, List.getElem?_cons_zero]; exact rfl)) (by rfl) ?_; intro K hK; go_simp)
              refine (HC5.out _).mono ?_
              rintro e w10 ⟨rfl, f5⟩
              have P10 := Lib.hid (P9.out.trans (f5.mono P9.out.size))
              have O10 := Lib.hid (own_kept O9.out f5)
              refine hK.out _ _ ⟨cell_keep f5 hH.1, cell_keep f5 hH.2.1, cell_keep f5 hH.2.2.1, Nat.lt_of_lt_of_le hH.2.2.2 f5.size⟩ (fun hH' => ?_)
              clear hK K hH f5 P9 O9
              have hH := hH'
              clear hH'
              (try simp only [Act.put, List.setIfInBounds_toArray, List.set_cons_zero, List.set_cons_succ])
              (repeat (first | (refine plan_take (v := ?_) (by (simp only [List.getElem?_toArray, List.getElem?_cons_succ, List.getElem?_cons_zero]; exact rfl)) (by rfl) ?_ ?_; rotate_left; (focus (intro wS hS; (try dsimp only at hS); go_split_ands; go_simp; (try with_reducible rfl))); simp only [Act.put, List.setIfInBounds_toArray, List.set_cons_zero, List.set_cons_succ]) | (refine plan_skip (by (simp only [List.getElem?_toArray, List.getElem?_cons_succ, List.getElem?_cons_zero]; exact rfl)) (by rfl) ?_; simp only [Act.put, List.setIfInBounds_toArray, List.set_cons_zero, List.set_cons_succ])))
              (refine plan_solo (by (simp only [List.getElem?_toArray, List.getElem?_cons_succ, List.getElem?_cons_zero]; exact rfl)) (by rfl) ?_; intro K hK; go_simp)
              refine (HC6.out _).mono ?_
              rintro e w11 ⟨rfl, f6⟩
              have P11 := Lib.hid (P10.out.trans (f6.mono P10.out.size))
              have O11 := Lib.hid (own_kept O10.out f6)
              refine hK.out _ _ ⟨cell_keep f6 hH.1, cell_keep f6 hH.2.1, cell_keep f6 hH.2.2.1, Nat.lt_of_lt_of_le hH.2.2.2 f6.size⟩ (fun hH' => ?_)
              clear hK K hH f6 P10 O10
              have hH := hH'
              clear hH'
              (try simp only [Act.put, List.setIfInBounds_toArray, List.set_cons_zero, List.set_cons_succ])
              (repeat (first | (refine plan_take (v := ?_) (by (simp only [List.getElem?_toArray, List.getElem?_cons_succ, List.getElem?_cons_zero]; exact rfl)) (by rfl) ?_ ?_; rotate_left; (focus (intro wS hS; (try dsimp only at hS); go_split_ands; go_simp; (try with_reducible rfl))); simp only [Act.put, List.setIfInBounds_toArray, List.set_cons_zero, List.set_cons_succ]) | (refine plan_skip (by (simp only [List.getElem?_toArray, List.getElem?_cons_succ, List.getElem?_cons_zero]; exact rfl)) (by rfl) ?_; simp only [Act.put, List.setIfInBounds_toArray, List.set_cons_zero, List.set_cons_succ])))
              (refine plan_solo (by (simp only [List.getElem?_toArray, List.getElem?_cons_succ, List.getElem?_cons_zero]; exact rfl)) (by rfl) ?_; intro K hK; go_simp)
              refine (HC7.out _).mono ?_
              rintro e w12 ⟨rfl, f7⟩
              have P12 := Lib.hid (P11.out.trans (f7.mono P11.out.size))
              have O12 := Lib.hid (own_kept O11.out f7)
              refine hK.out _ _ ⟨cell_keep f7 hH.1, cell_keep f7 hH.2.1, cell_keep f7 hH.2.2.1, Nat.lt_of_lt_of_le hH.2.2.2 f7.size⟩ (fun hH' => ?_)
              clear hK K hH f7 P11 O11
              have hH := hH'
              clear hH'
              (try simp only [Act.put, List.setIfInBounds_toArray, List.set_cons_zero, List.set_cons_succ])
              (repeat (first | (refine plan_take (v := ?_) (by (simp only [List.getElem?_toArray, List.getElem?_cons_succ, List.getElem?_cons_zero]; exact rfl)) (by rfl) ?_ ?_; rotate_left; (focus (intro wS hS; (try dsimp only at hS); go_split_ands; go_simp; (try with_reducible rfl))); simp only [Act.put, List.setIfInBounds_toArray, List.set_cons_zero, List.set_cons_succ]) | (refine plan_skip (by (simp only [List.getElem?_toArray, List.getElem?_cons_succ, List.getElem?_cons_zero]; exact rfl)) (by rfl) ?_; simp only [Act.put, List.setIfInBounds_toArray, List.set_cons_zero, List.set_cons_succ])))
              (refine plan_solo (by (simp only [List.getElem?_toArray, List.getElem?_cons_succ, List.getElem?_cons_zero]; exact rfl)) (by rfl) ?_; intro K hK; go_simp)
              refine (HC8.out _).mono ?_
              rintro e w13 ⟨rfl, f8⟩
              have P13 := Lib.hid (P12.out.trans (f8.mono P12.out.size))
              have O13 := Lib.hid (own_kept O12.out f8)
              refine hK.out _ _ ⟨cell_keep f8 hH.1, cell_keep f8 hH.2.1, cell_keep f8 hH.2.2.1, Nat.lt_of_lt_of_le hH.2.2.2 f8.size⟩ (fun hH' => ?_)
              clear hK K hH f8 P12 O12
              have hH := hH'
              clear hH'
              (try simp only [Act.put, List.setIfInBounds_toArray, List.set_cons_zero, List.set_cons_succ])
              (repeat (first | (refine plan_take (v := ?_) (by (simp only [List.getElem?_toArray, List.getElem?_cons_succ, List.getElem?_cons_zero]; exact rfl)) (by rfl) ?_ ?_; rotate_left; (focus (intro wS hS; (try dsimp only at hS); go_split_ands; go_simp; (try with_reducible rfl))); simp only [Act.put, List.setIfInBounds_toArray, List.set_cons_zero, List.set_cons_succ]) | (refine plan_skip (by (simp only [List.getElem?_toArray, List.getElem?_cons_succ, List.getElem?_cons_zero]; exact rfl)) (by rfl) ?_; simp only [Act.put, List.setIfInBounds_toArray, List.set_cons_zero, List.set_cons_succ])))
              refine plan_nil ?_
              clear hH
              obtain ⟨T1, hT1⟩ : ∃ S, F ++ Ix = S := ⟨_, rfl⟩
              have t1 : T1.length ≤ 10654688 := by rw [← hT1, List.length_append]; omega
              have e1 := str_add F Ix (by omega)
              rw [hT1] at e1
              obtain ⟨T2, hT2⟩ : ∃ S, T1 ++ S8 = S := ⟨_, rfl⟩
              have t2 : T2.length ≤ 10654720 := by rw [← hT2, List.length_append]; omega
              have e2 := str_add T1 S8 (by omega)
              rw [hT2] at e2
              obtain ⟨T3, hT3⟩ : ∃ S, Bo ++ T2 = S := ⟨_, rfl⟩
              have t3 : T3.length ≤ 4305622016 := by rw [← hT3, List.length_append]; omega
              have e3 := str_add Bo T2 (by omega)
              rw [hT3] at e3
              have hcl := crcN_lt T2
              have HR := Lib.hid (fun W => rcrc_list T2 W (by omega))
              obtain ⟨c, hc⟩ : ∃ c, crcN T2 = c := ⟨_, rfl⟩
              rw [hc] at HR hcl
              have u10 : IntKind.u64.wrap (c : Int) = (c : Int) := by rw [IntKind.wrap_u64]; omega
              have HC9 := Lib.hid (fun W => ref_number4 c W)
              obtain ⟨M9, hM9⟩ : ∃ M, be4 c = M := ⟨_, rfl⟩
              have m9 : M9.length = 4 := by rw [← hM9]; rfl
              rw [hM9] at HC9
              obtain ⟨T4, hT4⟩ : ∃ S, T3 ++ M9 = S := ⟨_, rfl⟩
              have t4 : T4.length ≤ 4305622020 := by rw [← hT4, List.length_append]; omega
              have e4 := str_add T3 M9 (by omega)
              rw [hT4] at e4
              obtain ⟨T5, hT5⟩ : ∃ S, T4 ++ [65, 84, 66, 76] = S := ⟨_, rfl⟩
              have t5 : T5.length ≤ 4305622024 := by rw [← hT5, List.length_append]; simp only [List.length_cons, List.length_nil]; omega
              have e5 := str_add T4 [65, 84, 66, 76] (by simp only [List.length_cons, List.length_nil]; omega)
              rw [hT5] at e5
              have hcv := conv_own O13.out
              have hwh : wholeN Bo F Ix l.length b r t = T5 := by
                unfold wholeN
                rw [← HFT.out, ← List.append_assoc F Ix S8, hT1, hT2, hc, hM9]
                show Bo ++ (F ++ (Ix ++ (S8 ++ (M9 ++ magicN)))) = T5
                rw [← hT5, ← hT4, ← hT3, ← hT2, ← hT1]
                simp only [List.append_assoc]
                rfl
              have htk := HTOK.out
              rw [hwh] at htk
              have HTK := Lib.hid htk
              have hT5s : (ByteArray.mk T5.toArray).size = T5.length := rfl
              clear htk hwh hT1 hT2 hT3 hT4 hT5 hM9 hc HTOK a2 a3 a4 a5 a6 a7 a8
              go_wp2_with fail
              refine (HR.out _).mono ?_
              rintro e w14 ⟨rfl, hu⟩
              obtain rfl := hu.symm
              go_wp2_with fail
              refine (HC9.out _).mono ?_
              rintro e w15 ⟨rfl, b15⟩
              have HP15 := Lib.hid (P13.out.trans (b15.mono P13.out.size))
              clear b15 hcv
              by_cases hbig : 1048576 < T5.length
              · have hbi : (1048576 : Int) < (T5.length : Int) := by omega
                have HT := Lib.hid (show tableN l (b : Int) (r : Int) (t : Int) = ([], 3) by rw [HTK.out, if_pos hbig])
                go_wp2_with fail
                go_ret2
                unfold RTPost
                rw [HT.out]
                exact ⟨_, rfl, Reads.of_own (World.ownsRow_nil _ 0 5 1), HB0.out.trans (HP15.out.mono HB0.out.size)⟩
              · have hbi : ¬ (1048576 : Int) < (T5.length : Int) := by omega
                have HT := Lib.hid (show tableN l (b : Int) (r : Int) (t : Int) = (T5, 0) by rw [HTK.out, if_neg hbig])
                have hcv2 : ∀ W, (convert 9 74 (.string ⟨T5.toArray⟩)).run Try.prog W = .ok (.slice (some ⟨W.heap.size, 0, none⟩) T5.length (grownCap W T5.length 0 5)) (Lib.bytesWorld W 5 ⟨T5.toArray⟩) := fun W => Lib.run_convert_string_bytes W 9 74 5 ⟨T5.toArray⟩ Try.underlying9 Try.underlying74 Try.underlying5
                have hR := bytes_reads T5 (by omega) (grownCap w15 T5.length 0 5) w15
                have HRD := Lib.hid hR
                have HBB := Lib.hid (bytes_below w15 ⟨T5.toArray⟩)
                clear hR
                go_wp2_with fail
                go_ret2
                unfold RTPost
                rw [HT.out]
                exact ⟨_, rfl, HRD.out, HB0.out.trans ((HP15.out.trans (HBB.out.mono HP15.out.size)).mono HB0.out.size)⟩
end Go.Proofs.Ytbcaiegglbdonaa

/-
  The reference's table Build: the cells that are refused.
-/
namespace Go.Proofs.Ytbcaiegglbdonaa
open Go Go.RowKit
set_option linter.unusedSimpArgs false

def RtI1 (w1 : World) (l : List Cell) (i : Value) (W : World) : Prop := ∃ k : Nat, k ≤ l.length ∧ i = .int .i64 k ∧ (∀ c ∈ l.take k, checkN c = 0) ∧ Below w1.heap.size w1 W
def RtI2 (w1 : World) (l : List Cell) (i : Value) (W : World) : Prop := ∃ k : Nat, k + 1 ≤ l.length ∧ i = .int .i64 ((k : Int) + 1) ∧ (∀ j x y, j < k → l[j]? = some x → l[j + 1]? = some y → PLt x.key x.seq y.key y.seq) ∧ Below w1.heap.size w1 W
set_option maxRecDepth 100000 in
set_option maxHeartbeats 4000000 in
theorem rtab_bad {w : World} {A : Option Addr} {cap : Nat} {l : List Cell} (h : Reads w (.slice A l.length cap) l.length 4 (cellVals l)) (b r t : Int) (hc : checkT l b r t ≠ 0) :
    Calls Try.prog 55 #[.slice A l.length cap, .agg #[.int .i64 b, .int .i64 r, .int .i64 t]] w (RTPost w (tableN l b r t)) := by
  have hTN : tableN l b r t = ([], checkT l b r t) := by unfold tableN; rw [if_pos hc]
  have HTN := Lib.hid hTN
  have hsh := fun W => ref_shape b r t W
  obtain ⟨S, hS⟩ : ∃ S, checkS b r t = S := ⟨_, rfl⟩
  rw [hS] at hsh
  have HSH := Lib.hid hsh
  have HS0 := Lib.hid hS
  have HC := Lib.hid hc
  obtain ⟨w1, hw1⟩ : ∃ w1, w.alloc (.cells #[.int .i64 b, .int .i64 r, .int .i64 t] 89) = w1 := ⟨_, rfl⟩
  have hB1 : Blk w1 w.heap.size #[.int .i64 b, .int .i64 r, .int .i64 t] 89 := by rw [← hw1]; exact Blk.new _ _ _
  have hb0 : Below w.heap.size w w1 := by rw [← hw1]; exact (Below.refl _ _).alloc (Nat.le_refl _) _
  have H := Lib.hid (h.kept hb0)
  have HB0 := Lib.hid hb0
  obtain ⟨y0, y1, y2, y3⟩ := cell3 hB1
  clear h hsh hTN hB1 hb0 hc hS
  by_cases h0 : ¬ S = 0
  · have HT := Lib.hid (show checkT l b r t = S by unfold checkT; rw [HS0.out, if_pos h0])
    have hq : (S == 0) = false := by simpa using h0
    go_enter Try.func55, Try.ntmps55
    go_upto_region 1 with fail
    clear hw1
    go_wp2_with fail
    refine (HSH.out _).mono ?_
    rintro e w2 ⟨rfl, b2⟩
    go_wp2_with fail
    go_ret2
    exact ⟨_, by rw [HTN.out, HT.out]; rfl, by rw [HTN.out]; exact Reads.of_own (World.ownsRow_nil _ 0 5 1), HB0.out.trans (b2.mono HB0.out.size)⟩
  have h0 : S = 0 := by omega
  subst h0
  by_cases h1 : 65536 < l.length
  · have HT := Lib.hid (show checkT l b r t = 3 by unfold checkT; rw [HS0.out, if_neg (by simp), if_pos h1])
    have hI : (65536 : Int) < (l.length : Int) := by omega
    go_enter Try.func55, Try.ntmps55
    go_upto_region 1 with fail
    clear hw1
    go_wp2_with fail
    refine (HSH.out _).mono ?_
    rintro e w2 ⟨rfl, b2⟩
    go_wp2_with fail
    go_ret2
    exact ⟨_, by rw [HTN.out, HT.out]; rfl, by rw [HTN.out]; exact Reads.of_own (World.ownsRow_nil _ 0 5 1), HB0.out.trans (b2.mono HB0.out.size)⟩
  have n1 : (l.length : Int) ≤ 65536 := by omega
  have hl1 : l.length ≤ 65536 := by omega
  by_cases h2 : l.length = 0
  · have HT := Lib.hid (show checkT l b r t = 1 by unfold checkT; rw [HS0.out, if_neg (by simp), if_neg h1, if_pos h2])
    have hz : (l.length : Int) = 0 := by omega
    have hq : ((l.length : Int) == 0) = true := by simpa using h2
    go_enter Try.func55, Try.ntmps55
    go_upto_region 1 with fail
    clear hw1
    go_wp2_with fail
    refine (HSH.out _).mono ?_
    rintro e w2 ⟨rfl, b2⟩
    go_wp2_with fail
    go_ret2
    exact ⟨_, by rw [HTN.out, HT.out]; rfl, by rw [HTN.out]; exact Reads.of_own (World.ownsRow_nil _ 0 5 1), HB0.out.trans (b2.mono HB0.out.size)⟩
  have n2 : ((l.length : Int) == 0) = false := by
    have : ¬ l = [] := by rintro rfl; exact h2 rfl
    simpa using this
  have n3 : ¬ ((l.length : Int) = 0) := by omega
  have HT := Lib.hid (show checkT l b r t = if checkL l = 81 then 91 else checkL l by unfold checkT; rw [HS0.out, if_neg (by simp), if_neg h1, if_neg h2])
  go_enter Try.func55, Try.ntmps55
  go_upto_region 1 with fail
  clear hw1
  go_wp2_with fail
  refine (HSH.out _).mono ?_
  rintro e w2 ⟨rfl, b2⟩
  go_wp2_with fail
  clear y0 y1 y2 y3
  go_loopw [7] (RtI1 w1 l) (fun i _ => l.length - (intOf i).toNat)
  case atStart => exact ⟨0, Nat.zero_le _, rfl, by simp, b2⟩
  case round =>
    obtain ⟨k, hk, rfl, hok, hb⟩ := hrel
    by_cases hlt : k < l.length
    · obtain ⟨x, hx⟩ : ∃ x, l[k]? = some x := ⟨_, List.getElem?_eq_getElem hlt⟩
      obtain ⟨g, o, rfl, hbl, c0, c1, c2, c3⟩ := (H.out.kept hb).cell_at hx
      have i0 : (0 : Int) ≤ (k : Int) := by omega
      have i1 : (k : Int) < (l.length : Int) := by omega
      have HX := Lib.hid hx
      have HO := Lib.hid hok
      clear hx hok
      rcases check_or x with hc | hc
      · have hck := ref_check x wr
        rw [hc] at hck
        have HK := Lib.hid hck
        have HC0 := Lib.hid hc
        clear hck hc
        go_wp2_with (go_at_call 80; refine HK.out.mono ?_; rintro e w3 ⟨rfl, b3⟩)
        go_roundw
        case rel =>
          refine ⟨k + 1, by omega, by go_num, ?_, hb.trans (b3.mono hb.size)⟩
          intro c hc
          rw [List.take_add_one, HX.out] at hc
          rcases List.mem_append.1 hc with hc | hc
          · exact HO.out c hc
          · obtain rfl : c = x := by simpa using hc
            exact HC0.out
        case measure => simp [intOf]; omega
      · have hck := ref_check x wr
        rw [hc] at hck
        have HK := Lib.hid hck
        have hL : checkL l = 60 := by unfold checkL; rw [if_pos ⟨x, List.mem_of_getElem? HX.out, hc⟩]
        have HC0 := Lib.hid (show checkT l b r t = 60 by rw [HT.out, hL]; rfl)
        clear hck hc hL
        go_wp2_with (go_at_call 80; refine HK.out.mono ?_; rintro e w3 ⟨rfl, b3⟩)
        go_ret2
        exact ⟨_, by rw [HTN.out, HC0.out]; rfl, by rw [HTN.out]; exact Reads.of_own (World.ownsRow_nil _ 0 5 1), HB0.out.trans ((hb.trans (b3.mono hb.size)).mono HB0.out.size)⟩
    · obtain rfl : k = l.length := by omega
      rw [List.take_length] at hok
      have HO := Lib.hid (show ¬ ∃ c ∈ l, checkN c = 60 by rintro ⟨c, hc, h⟩; have := hok c hc; omega)
      clear hok b2
      go_wp2_with fail
      go_loopw [8] (RtI2 w1 l) (fun i _ => l.length - (intOf i).toNat)
      case atStart => exact ⟨0, by omega, rfl, fun j _ _ hj => by omega, hb⟩
      case round =>
        obtain ⟨k, hk, rfl, hok, hb⟩ := hrel
        by_cases hlt : k + 1 < l.length
        · obtain ⟨x, hx⟩ : ∃ x, l[k]? = some x := ⟨_, List.getElem?_eq_getElem (by omega)⟩
          obtain ⟨y, hy⟩ : ∃ y, l[k + 1]? = some y := ⟨_, List.getElem?_eq_getElem hlt⟩
          obtain ⟨g, o, rfl, hbl, c0, c1, c2, c3⟩ := (H.out.kept hb).cell_at hx
          obtain ⟨b', o', e', _, d0, d1, d2, d3⟩ := (H.out.kept hb).cell_at hy
          cases e'
          have i0 : (0 : Int) ≤ (k : Int) := by omega
          have i1 : (k : Int) < (l.length : Int) := by omega
          have i2 : (0 : Int) ≤ (k : Int) + 1 := by omega
          have i3 : (k : Int) + 1 < (l.length : Int) := by omega
          have hw1 : IntKind.i64.wrap ((k : Int) + 1 - 1) = (k : Int) := by
            rw [show (k : Int) + 1 - 1 = (k : Int) by omega]; exact IntWalk.i64_in _ (by omega)
          have hw2 : IntKind.i64.wrap (k : Int) = (k : Int) := IntWalk.i64_in _ (by omega)
          have hw3 : IntKind.i64.wrap ((k : Int) + 1 + 1) = (k : Int) + 1 + 1 := IntWalk.i64_in _ (by omega)
          have ht1 : ((k : Int) + 1).toNat = k + 1 := by omega
          have HX := Lib.hid hx
          have HY := Lib.hid hy
          have HK := Lib.hid hok
          clear hx hy hok
          have hS : wr.drew.cell? ⟨g, o + k * 4, none⟩ = some (.string x.key) ∧ wr.drew.cell? ⟨g, o + k * 4 + 1, none⟩ = some (.int .u64 x.seq) ∧ wr.drew.cell? ⟨g, o + k * 4 + 2, none⟩ = some (.string x.val) ∧ wr.drew.cell? ⟨g, o + k * 4 + 3, none⟩ = some (.bool x.gone) ∧ wr.drew.cell? ⟨g, o + (k + 1) * 4, none⟩ = some (.string y.key) ∧ wr.drew.cell? ⟨g, o + (k + 1) * 4 + 1, none⟩ = some (.int .u64 y.seq) ∧ wr.drew.cell? ⟨g, o + (k + 1) * 4 + 2, none⟩ = some (.string y.val) ∧ wr.drew.cell? ⟨g, o + (k + 1) * 4 + 3, none⟩ = some (.bool y.gone) := ⟨c0, c1, c2, c3, d0, d1, d2, d3⟩
          by_cases hP : PLt x.key x.seq y.key y.seq
          · have HP := Lib.hid hP
            have hq : decide (PLt x.key x.seq y.key y.seq) = true := decide_eq_true hP
            clear hP
            go_wp2_with fail
            refine region_plan (S := fun w' => w'.cell? ⟨g, o + k * 4, none⟩ = some (.string x.key) ∧ w'.cell? ⟨g, o + k * 4 + 1, none⟩ = some (.int .u64 x.seq) ∧ w'.cell? ⟨g, o + k * 4 + 2, none⟩ = some (.string x.val) ∧ w'.cell? ⟨g, o + k * 4 + 3, none⟩ = some (.bool x.gone) ∧ w'.cell? ⟨g, o + (k + 1) * 4, none⟩ = some (.string y.key) ∧ w'.cell? ⟨g, o + (k + 1) * 4 + 1, none⟩ = some (.int .u64 y.seq) ∧ w'.cell? ⟨g, o + (k + 1) * 4 + 2, none⟩ = some (.string y.val) ∧ w'.cell? ⟨g, o + (k + 1) * 4 + 3, none⟩ = some (.bool y.gone))
              ((0, true) :: (1, true) :: (2, true) :: (3, true) :: (4, true) :: (5, true) :: (6, true) :: (7, true) :: (8, true) :: (9, false) :: (10, true) :: [])
              (by kernel_rfl) (by kernel_rfl) (by kernel_rfl) (by kernel_rfl) (fun _ _ _ dst _ h => by cases dst <;> exact h) hS (fun hH => ?_)
            (repeat (first | (refine plan_take (v := ?_) (by (simp only [List.getElem?_toArray, List.getElem?_cons_succ, List.getElem?_cons_zero]; exact rfl)) (by rfl) ?_ ?_; rotate_left; (focus (intro wS hS; (try dsimp only at hS); go_split_ands; go_simp; (try with_reducible rfl))); simp only [Act.put, List.setIfInBounds_toArray, List.set_cons_zero, List.set_cons_succ]) | (refine plan_skip (by (simp only [List.getElem?_toArray, List.getElem?_cons_succ, List.getElem?_cons_zero]; exact rfl)) (by rfl) ?_; simp only [Act.put, List.setIfInBounds_toArray, List.set_cons_zero, List.set_cons_succ])))
            (refine plan_solo (by (simp only [List.getElem?_toArray, List.getElem?_cons_succ, List.getElem?_cons_zero]; exact rfl)) (by rfl) ?_; intro K hK; go_simp)
            refine (ref_rises x y _).mono ?_
            rintro e w5 ⟨rfl, hb5⟩
            rw [hq]
            refine hK.out _ _ ⟨cell_keep hb5 c0, cell_keep hb5 c1, cell_keep hb5 c2, cell_keep hb5 c3, cell_keep hb5 d0, cell_keep hb5 d1, cell_keep hb5 d2, cell_keep hb5 d3⟩ (fun hH => ?_)
            clear hK K
            (try simp only [Act.put, List.setIfInBounds_toArray, List.set_cons_zero, List.set_cons_succ])
            (repeat (first | (refine plan_take (v := ?_) (by (simp only [List.getElem?_toArray, List.getElem?_cons_succ, List.getElem?_cons_zero]; exact rfl)) (by rfl) ?_ ?_; rotate_left; (focus (intro wS hS; (try dsimp only at hS); go_split_ands; go_simp; (try with_reducible rfl))); simp only [Act.put, List.setIfInBounds_toArray, List.set_cons_zero, List.set_cons_succ]) | (refine plan_skip (by (simp only [List.getElem?_toArray, List.getElem?_cons_succ, List.getElem?_cons_zero]; exact rfl)) (by rfl) ?_; simp only [Act.put, List.setIfInBounds_toArray, List.set_cons_zero, List.set_cons_succ])))
            refine plan_nil ?_
            go_wp2_with fail
            go_roundw
            case rel =>
              refine ⟨k + 1, by omega, by go_num, fun j u v hj hu hv => ?_, hb.trans ((Below.refl _ _).drew.trans (hb5.mono hb.size))⟩
              by_cases hjk : j < k
              · exact HK.out j u v hjk hu hv
              · obtain rfl : j = k := by omega
                rw [HX.out] at hu
                rw [HY.out] at hv
                cases hu
                cases hv
                exact HP.out
            case measure => simp [intOf]; omega
          · have hL : checkL l = 81 := by unfold checkL; rw [if_neg HO.out, if_neg (fun h => hP ((adjC_iff l).1 h k x y HX.out HY.out))]
            have HC0 := Lib.hid (show checkT l b r t = 91 by rw [HT.out, hL]; rfl)
            have hq : decide (PLt x.key x.seq y.key y.seq) = false := decide_eq_false hP
            clear hP hL
            go_wp2_with fail
            refine region_plan (S := fun w' => w'.cell? ⟨g, o + k * 4, none⟩ = some (.string x.key) ∧ w'.cell? ⟨g, o + k * 4 + 1, none⟩ = some (.int .u64 x.seq) ∧ w'.cell? ⟨g, o + k * 4 + 2, none⟩ = some (.string x.val) ∧ w'.cell? ⟨g, o + k * 4 + 3, none⟩ = some (.bool x.gone) ∧ w'.cell? ⟨g, o + (k + 1) * 4, none⟩ = some (.string y.key) ∧ w'.cell? ⟨g, o + (k + 1) * 4 + 1, none⟩ = some (.int .u64 y.seq) ∧ w'.cell? ⟨g, o + (k + 1) * 4 + 2, none⟩ = some (.string y.val) ∧ w'.cell? ⟨g, o + (k + 1) * 4 + 3, none⟩ = some (.bool y.gone))
              ((0, true) :: (1, true) :: (2, true) :: (3, true) :: (4, true) :: (5, true) :: (6, true) :: (7, true) :: (8, true) :: (9, false) :: (10, true) :: [])
              (by kernel_rfl) (by kernel_rfl) (by kernel_rfl) (by kernel_rfl) (fun _ _ _ dst _ h => by cases dst <;> exact h) hS (fun hH => ?_)
            (repeat (first | (refine plan_take (v := ?_) (by (simp only [List.getElem?_toArray, List.getElem?_cons_succ, List.getElem?_cons_zero]; exact rfl)) (by rfl) ?_ ?_; rotate_left; (focus (intro wS hS; (try dsimp only at hS); go_split_ands; go_simp; (try with_reducible rfl))); simp only [Act.put, List.setIfInBounds_toArray, List.set_cons_zero, List.set_cons_succ]) | (refine plan_skip (by (simp only [List.getElem?_toArray, List.getElem?_cons_succ, List.getElem?_cons_zero]; exact rfl)) (by rfl) ?_; simp only [Act.put, List.setIfInBounds_toArray, List.set_cons_zero, List.set_cons_succ])))
            (refine plan_solo (by (simp only [List.getElem?_toArray, List.getElem?_cons_succ, List.getElem?_cons_zero]; exact rfl)) (by rfl) ?_; intro K hK; go_simp)
            refine (ref_rises x y _).mono ?_
            rintro e w5 ⟨rfl, hb5⟩
            rw [hq]
            refine hK.out _ _ ⟨cell_keep hb5 c0, cell_keep hb5 c1, cell_keep hb5 c2, cell_keep hb5 c3, cell_keep hb5 d0, cell_keep hb5 d1, cell_keep hb5 d2, cell_keep hb5 d3⟩ (fun hH => ?_)
            clear hK K
            (try simp only [Act.put, List.setIfInBounds_toArray, List.set_cons_zero, List.set_cons_succ])
            (repeat (first | (refine plan_take (v := ?_) (by (simp only [List.getElem?_toArray, List.getElem?_cons_succ, List.getElem?_cons_zero]; exact rfl)) (by rfl) ?_ ?_; rotate_left; (focus (intro wS hS; (try dsimp only at hS); go_split_ands; go_simp; (try with_reducible rfl))); simp only [Act.put, List.setIfInBounds_toArray, List.set_cons_zero, List.set_cons_succ]) | (refine plan_skip (by (simp only [List.getElem?_toArray, List.getElem?_cons_succ, List.getElem?_cons_zero]; exact rfl)) (by rfl) ?_; simp only [Act.put, List.setIfInBounds_toArray, List.set_cons_zero, List.set_cons_succ])))
            refine plan_nil ?_
            go_wp2_with fail
            go_ret2
            exact ⟨_, by rw [HTN.out, HC0.out]; rfl, by rw [HTN.out]; exact Reads.of_own (World.ownsRow_nil _ 0 5 1), HB0.out.trans ((hb.trans ((Below.refl _ _).drew.trans (hb5.mono hb.size))).mono HB0.out.size)⟩
        · exfalso
          refine HC.out ?_
          rw [HT.out]
          have : checkL l = 0 := by
            unfold checkL
            rw [if_neg HO.out, if_pos]
            refine (adjC_iff l).2 fun i x y hx hy => ?_
            have := (List.getElem?_eq_some_iff.1 hy).1
            exact hok i x y (by omega) hx hy
          rw [this]
          rfl
theorem rtab_spec {w : World} {A : Option Addr} {cap : Nat} {l : List Cell} (h : Reads w (.slice A l.length cap) l.length 4 (cellVals l)) (hcap : l.length ≤ cap) (hs : ∀ c ∈ l, 0 ≤ c.seq) (b r t : Int) :
    Calls Try.prog 55 #[.slice A l.length cap, .agg #[.int .i64 b, .int .i64 r, .int .i64 t]] w (RTPost w (tableN l b r t)) := by
  by_cases hc : checkT l b r t = 0
  · obtain ⟨s1, _⟩ := checkT_ok hc
    obtain ⟨b', rfl⟩ : ∃ b' : Nat, b = b' := ⟨b.toNat, by omega⟩
    obtain ⟨r', rfl⟩ : ∃ r' : Nat, r = r' := ⟨r.toNat, by omega⟩
    obtain ⟨t', rfl⟩ : ∃ t' : Nat, t = t' := ⟨t.toNat, by omega⟩
    exact rtab_main h hcap hs b' r' t' hc
  · exact rtab_bad h b r t hc
end Go.Proofs.Ytbcaiegglbdonaa

/-
  A made table's May and Shape; the walk of the law TableBack.
-/
namespace Go.Proofs.Ytbcaiegglbdonaa
open Go Go.RowKit
set_option linter.unusedSimpArgs false

set_option maxRecDepth 100000 in
set_option maxHeartbeats 1000000 in
theorem tmay_spec {w : World} {tp : Nat} {b : ByteArray} {x : FootN} {es : List Ent} (h : TabIs w tp b x es) (hb : b.size ≤ 1048576) (hne : es ≠ []) (k : ByteArray) (hk : k.size ≤ 2147483648) :
    Calls Try.prog 64 #[.pointer (some ⟨tp, 0, none⟩), .string k] w fun e w' => e = .returned (.bool (mayN (b.extract x.fa x.ia).data.toList k)) ∧ Below w.heap.size w w' := by
  have HM := Lib.hid (tmade_yes h hne)
  obtain ⟨vb, vB, vF, vl, ps, B, last, fs, h1, h2, h3, h4, h5, h6, h7⟩ := h.ex
  obtain ⟨A6, c6, rfl⟩ := h6.form
  obtain ⟨fil, hfil⟩ : ∃ fil, (b.extract x.fa x.ia).data.toList = fil := ⟨_, rfl⟩
  have hfl : fil.length = fs := by have := h6.1; rw [bv_len, hfil] at this; omega
  have hfb : fs ≤ 1048576 := by
    rw [← hfl, ← hfil]
    exact Nat.le_trans (ex_size_le b x.fa x.ia) hb
  rw [hfil] at h6 ⊢
  subst hfl
  have HMY := Lib.hid (may_spec h6 (by omega) k hk)
  have t6 : w.cell? ⟨tp, 6, none⟩ = some (.slice A6 fil.length c6) := h1.cell 6 _ rfl
  have tl := h1.lt
  obtain ⟨my, hmy⟩ : ∃ my, mayN fil k = my := ⟨_, rfl⟩
  rw [hmy] at HMY ⊢
  clear h h1 h2 h3 h4 h5 h6 h7 hmy hfil
  go_enter Try.func64, Try.ntmps64
  go_wp2_with fail
  refine HM.out.mono ?_
  rintro e w1 ⟨rfl, hu⟩
  obtain rfl := hu.symm
  go_wp2_with fail
  refine HMY.out.mono ?_
  rintro e w2 ⟨rfl, hb2⟩
  go_wp2_with fail
  go_ret
  exact ⟨rfl, hb2⟩
set_option maxRecDepth 100000 in
set_option maxHeartbeats 1000000 in
theorem tshape_spec {w : World} {tp : Nat} {b : ByteArray} {x : FootN} {es : List Ent} (h : TabIs w tp b x es) (hne : es ≠ []) :
    Calls Try.prog 65 #[.pointer (some ⟨tp, 0, none⟩)] w fun e w' => e = .returned (.agg #[.int .i64 (x.b : Nat), .int .i64 (x.r : Nat), .int .i64 (x.t : Nat)]) ∧ Below w.heap.size w w' := by
  have bA := (Below.refl w.heap.size w).alloc (Nat.le_refl _) (.cells #[.int .i64 0, .int .i64 0, .int .i64 0] 89)
  have HM := Lib.hid (tmade_yes (h.kept bA) hne)
  obtain ⟨vb, vB, vF, vl, ps, B, last, fs, h1, h2, h3, h4, h5, h6, h7⟩ := h.ex
  have t1 : w.cell? ⟨tp, 1, none⟩ = some (.int .i64 (x.b : Nat)) := h1.cell 1 _ rfl
  have t2 : w.cell? ⟨tp, 2, none⟩ = some (.int .i64 (x.r : Nat)) := h1.cell 2 _ rfl
  have t3 : w.cell? ⟨tp, 3, none⟩ = some (.int .i64 (x.t : Nat)) := h1.cell 3 _ rfl
  have tl := h1.lt
  have hZ := Blk.new w #[.int .i64 0, .int .i64 0, .int .i64 0] 89
  obtain ⟨z0, z1, z2, zl⟩ := cell3 hZ
  clear h h1 h2 h3 h4 h5 h6 h7
  go_enter Try.func65, Try.ntmps65
  go_wp2_with fail
  refine HM.out.mono ?_
  rintro e w1 ⟨rfl, hu⟩
  obtain rfl := hu.symm
  go_wp2_with fail
  refine bodyPost_ret (v := .agg #[.int .i64 (x.b : Nat), .int .i64 (x.r : Nat), .int .i64 (x.t : Nat)]) ?_ rfl ⟨rfl, (Below.refl _ _).alloc (Nat.le_refl _) _⟩
  obtain ⟨r0, r1, r2, rl⟩ := cell3 (Blk.new w #[.int .i64 (x.b : Nat), .int .i64 (x.r : Nat), .int .i64 (x.t : Nat)] 89)
  simp [results, Try.results65, go_sem, r0, r1, r2]
/-! ### TableBack -/
def TkS (g o k : Nat) (x : Cell) (W : World) : Prop := W.cell? ⟨g, o + k * 4, none⟩ = some (.string x.key) ∧ W.cell? ⟨g, o + k * 4 + 1, none⟩ = some (.int .u64 x.seq) ∧ g < W.heap.size
theorem tableN_none {l : List Cell} {b r t : Int} {bs : List UInt8} {e : Int} (h : tableN l b r t = (bs, e)) (he : e ≠ 0) : bs = [] := by
  unfold tableN at h
  split at h
  · exact (congrArg Prod.fst h).symm
  · split at h
    · exact (congrArg Prod.fst h).symm
    · split at h
      · exact (congrArg Prod.fst h).symm
      · exact absurd (congrArg Prod.snd h).symm he
set_option maxRecDepth 100000 in
set_option maxHeartbeats 4000000 in
theorem tback_walk {w : World} {A : Option Addr} {cap : Nat} {l : List Cell} (h : Reads w (.slice A l.length cap) l.length 4 (cellVals l)) (hcap : l.length ≤ cap) (hl : l.length ≤ 2932031007402) (hs : ∀ c ∈ l, 0 ≤ c.seq) (b r t : Int) :
    Calls Try.prog 18 #[.slice A l.length cap, .agg #[.int .i64 b, .int .i64 r, .int .i64 t]] w fun e w' => e = .returned (.bool true) ∧ Below w.heap.size w w' := by
  obtain ⟨w1, hw1⟩ : ∃ w1, w.alloc (.cells #[.int .i64 b, .int .i64 r, .int .i64 t] 89) = w1 := ⟨_, rfl⟩
  have hB1 : Blk w1 w.heap.size #[.int .i64 b, .int .i64 r, .int .i64 t] 89 := by rw [← hw1]; exact Blk.new _ _ _
  have hb0 : Below w.heap.size w w1 := by rw [← hw1]; exact (Below.refl _ _).alloc (Nat.le_refl _) _
  have H := Lib.hid (h.kept hb0)
  have HB1 := Lib.hid hB1
  have HB0 := Lib.hid hb0
  have HS := Lib.hid hs
  have hTB := fun (W : World) (hv : Reads W (.slice A l.length cap) l.length 4 (cellVals l)) => tbuild_spec hv hcap hl hs b r t
  have hRB := fun (W : World) (hv : Reads W (.slice A l.length cap) l.length 4 (cellVals l)) => rtab_spec hv hcap hs b r t
  obtain ⟨D, hD⟩ : ∃ D, tableN l b r t = D := ⟨_, rfl⟩
  rw [hD] at hTB hRB
  obtain ⟨bs, E⟩ := D
  have HTB := Lib.hid hTB
  have HRB := Lib.hid hRB
  have HD := Lib.hid hD
  clear h hB1 hb0 hTB hRB hD
  by_cases hE : E = 0
  · subst hE
    obtain ⟨b', r', t', rfl, rfl, rfl, hB⟩ := tableN_built HD.out
    have hopen := topen_build hB hs
    have hsm : (⟨bs.toArray⟩ : ByteArray).size ≤ 1048576 := by show bs.length ≤ _; rw [hB.eq]; exact hB.small
    have hne : entsN l b' r' ≠ [] := by unfold entsN; intro h0; exact cut_ne l b' hB.len.2 (List.map_eq_nil_iff.1 h0)
    have hrise : RisingE (entsN l b' r') := ents_rise (checkL_both hB.check).1
    have hlen : (entsN l b' r').length ≤ 4611686018427387904 := by have := ents_len l b' r'; have := hB.len.1; unfold entsN; omega
    have hfil := hB.filter
    have hfoot := hB.foot.1
    have hOP := fun (W : World) (A : Option Addr) (cap : Nat) (h : Reads W (.slice A bs.length cap) bs.length 1 (bv bs)) (hc : bs.length ≤ cap) => topen_spec (w := W) (A := A) (cap := cap) (b := ⟨bs.toArray⟩) h hsm hc
    rw [hopen] at hOP
    have HOP := Lib.hid hOP
    have hZ : l = (allC ((entsN l b' r').drop (fromN (entsN l b' r') ⟨#[]⟩))).filter (partP ⟨#[]⟩ ⟨#[]⟩) := by
      rw [from_zero, List.drop_zero, ents_all l b' r' hB.len.2, List.filter_eq_self.2]
      intro c _
      unfold partP
      have : ∀ L : List UInt8, Op.bytesLess L [] = false := fun L => by cases L <;> rfl
      have e0 : (⟨#[]⟩ : ByteArray).toList = [] := by rw [Lib.toList_data]
      rw [e0, this]
      simp
    have HSC := Lib.hid (fun (W : World) (tp : Nat) (hT : TabIs W tp ⟨bs.toArray⟩ (footOf ⟨bs.toArray⟩) (entsN l b' r')) (hv : Reads W (.slice A l.length cap) l.length 4 (cellVals l)) => tscans_spec (fr := ⟨#[]⟩) (up := ⟨#[]⟩) 1 hT hne hlen hrise hZ hl hv)
    have hGT := fun (W : World) (tp : Nat) (hT : TabIs W tp ⟨bs.toArray⟩ (footOf ⟨bs.toArray⟩) (entsN l b' r')) (i : Nat) (c : Cell) (hc : l[i]? = some c) => by
      have h1 := tget_spec hT hsm hne hlen hrise (ents_adj hB.check) c.key (by have := (check_sizes ((checkL_both hB.check).2 c (List.mem_of_getElem? hc))).1; omega) c.seq
      rw [hfil, getT_at hB.check hB.len.2 hc] at h1
      exact h1
    have hMY := fun (W : World) (tp : Nat) (hT : TabIs W tp ⟨bs.toArray⟩ (footOf ⟨bs.toArray⟩) (entsN l b' r')) (i : Nat) (c : Cell) (hc : l[i]? = some c) => by
      have h1 := tmay_spec hT hsm hne c.key (by have := (check_sizes ((checkL_both hB.check).2 c (List.mem_of_getElem? hc))).1; omega)
      rw [hfil, may_filter (keys_has hc)] at h1
      exact h1
    have hSH := fun (W : World) (tp : Nat) (hT : TabIs W tp ⟨bs.toArray⟩ (footOf ⟨bs.toArray⟩) (entsN l b' r')) => by
      have h1 := tshape_spec hT hne
      rw [hfoot] at h1
      exact h1
    have HGT := Lib.hid hGT
    have HMY := Lib.hid hMY
    have HSH := Lib.hid hSH
    have HSB := Lib.hid (fun (W : World) (v v' : Value) (hv : Reads W v bs.length 1 (bv bs)) (hv' : Reads W v' bs.length 1 (bv bs)) => by have := samebytes_spec hv hv'; rw [decide_eq_true rfl] at this; exact this)
    clear hGT hMY hSH hOP hZ hfil hfoot hopen hB hne hrise hlen hsm
    obtain ⟨y0, y1, y2, y3⟩ := cell3 HB1.out
    go_enter Try.func18, Try.ntmps18
    go_upto_region 1 with fail
    clear hw1
    go_wp2_with fail
    refine (tlives _).mono ?_
    rintro e w2 ⟨rfl, b2⟩
    obtain ⟨z0, z1, z2, z3⟩ := cell3 (HB1.out.below b2 HB1.out.lt)
    clear y0 y1 y2 y3
    go_wp2_with fail
    refine (HTB.out _ (H.out.kept b2)).mono ?_
    rintro e w3 ⟨v3, rfl, own3, b3⟩
    have b13 := b2.trans (b3.mono b2.size)
    obtain ⟨A3, c3, rfl⟩ := (Reads.of_own own3).form
    clear z0 z1 z2 z3
    go_wp2_with fail
    refine (HOP.out _ _ _ (Reads.of_own own3) (own_cap own3)).mono ?_
    rintro e w4 ⟨b4, tp, rfl, hT4, htp⟩
    have b14 := b13.trans (b4.mono b13.size)
    have R4 := Lib.hid ((Reads.of_own own3).kept b4)
    clear own3
    go_wp2_with fail
    refine (HSC.out _ _ hT4 (H.out.kept b14)).mono ?_
    rintro e w5 ⟨rfl, b5⟩
    have B15 := Lib.hid (b14.trans (b5.mono b14.size))
    have HT5 := Lib.hid (hT4.kept b5)
    have R5 := Lib.hid (R4.out.kept b5)
    clear b2 b3 b4 b5 b13 b14 hT4
    go_wp2_with fail
    go_loopw [10] (RtI w5 l.length 0) (fun i _ => l.length - (intOf i).toNat)
    case atStart => exact ⟨0, Nat.zero_le _, by omega, rfl, Below.refl _ _⟩
    case round =>
      obtain ⟨k, _, hk, rfl, hb⟩ := hrel
      by_cases hlt : k < l.length
      · obtain ⟨x, hx⟩ : ∃ x, l[k]? = some x := ⟨_, List.getElem?_eq_getElem hlt⟩
        obtain ⟨g, o, rfl, hbl, c0, c1, c2, c3'⟩ := ((H.out.kept B15.out).kept hb).cell_at hx
        have i0 : (0 : Int) ≤ (k : Int) := by omega
        have i1 : (k : Int) < (l.length : Int) := by omega
        have HX := Lib.hid hx
        have HB := Lib.hid hb
        have hS : wr.drew.cell? ⟨g, o + k * 4, none⟩ = some (.string x.key) ∧ wr.drew.cell? ⟨g, o + k * 4 + 1, none⟩ = some (.int .u64 x.seq) ∧ g < wr.drew.heap.size := ⟨c0, c1, hbl⟩
        clear hx hb
        have hBW := HB.out.drew
        have BW := Lib.hid hBW
        clear hBW
        go_upto_region 13 with fail
        go_cut [11, 12] from 61 to 95 (fun v11 v12 W => ∃ q : Nat, v11 = .pointer (some ⟨q, 0, none⟩) ∧ v12 = .bool true ∧ Blk W q #[.string x.key, .int .u64 x.seq, .string x.val, .bool x.gone] 25 ∧ Below w5.heap.size w5 W)
        case first =>
          refine region_tree (S := TkS g o k x)
            (.take 0 (.take 1 (.take 2 (.take 3 (.take 4 (.take 5 (.take 6 (.take 7 (.take 8 (.take 9 (.take 10 (.two 11 (.take 12 (.take 13 (.take 14 (.one 15 (.one 16 (.take 17 .nil)))))) 15 (.one 11 (.take 12 (.take 13 (.take 14 (.one 16 (.take 17 .nil))))))))))))))))))
            (by kernel_rfl) (by kernel_rfl) (by kernel_rfl) (fun _ _ _ dst _ h => by cases dst <;> exact h) hS (fun hH => ?_)
          clear c0 c1 c2 c3' hbl hS
          unfold TkS at *
          obtain ⟨wd, hwd⟩ : ∃ wd, wr.drew = wd := ⟨_, rfl⟩
          rw [hwd] at hH BW ⊢
          clear hwd
          (repeat (refine tree_take (v := ?_) (by (simp only [List.getElem?_toArray, List.getElem?_cons_succ, List.getElem?_cons_zero]; exact rfl)) (by rfl) ?_ ?_; rotate_left; (focus (intro wS hS; (try dsimp only at hS); go_split_ands; go_simp; (try with_reducible rfl))); simp only [Act.put, List.setIfInBounds_toArray, List.set_cons_zero, List.set_cons_succ]))
          refine tree_two (by (simp only [List.getElem?_toArray, List.getElem?_cons_succ, List.getElem?_cons_zero]; exact rfl)) (by rfl) (by (simp only [List.getElem?_toArray, List.getElem?_cons_succ, List.getElem?_cons_zero]; exact rfl)) (by rfl) ?_ ?_
          · intro K hK
            go_simp
            refine (HGT.out _ _ (HT5.out.kept BW.out) _ _ HX.out).mono ?_
            rintro e w6 ⟨he, hb6⟩
            obtain rfl : e = .returned (.tuple #[.agg #[.string x.key, .int .u64 x.seq, .string x.val, .bool x.gone], .bool true]) := he
            have b6 := BW.out.trans (hb6.mono BW.out.size)
            refine hK.out _ _ ⟨cell_keep hb6 hH.1, cell_keep hb6 hH.2.1, Nat.lt_of_lt_of_le hH.2.2 hb6.size⟩ (fun hH => ?_)
            clear hK K
            (try simp only [Act.put, List.setIfInBounds_toArray, List.set_cons_zero, List.set_cons_succ])
            (repeat (refine tree_take (v := ?_) (by (simp only [List.getElem?_toArray, List.getElem?_cons_succ, List.getElem?_cons_zero]; exact rfl)) (by rfl) ?_ ?_; rotate_left; (focus (intro wS hS; (try dsimp only at hS); go_split_ands; go_simp; (try with_reducible rfl))); simp only [Act.put, List.setIfInBounds_toArray, List.set_cons_zero, List.set_cons_succ]))
            have hgw : g < w6.heap.size := hH.2.2
            have bZ := (Below.refl w6.heap.size w6).alloc (Nat.le_refl _) (.cells #[.string ⟨#[]⟩, .int .u64 0, .string ⟨#[]⟩, .bool false] 25)
            have hZ := Blk.new w6 #[.string ⟨#[]⟩, .int .u64 0, .string ⟨#[]⟩, .bool false] 25
            have b7 := b6.trans (bZ.mono b6.size)
            (refine tree_one (by (simp only [List.getElem?_toArray, List.getElem?_cons_succ, List.getElem?_cons_zero]; exact rfl)) (by rfl) ?_; intro K hK; go_simp)
            obtain ⟨q, hqd⟩ : ∃ q, w6.heap.size = q := ⟨_, rfl⟩
            have hq5 : w5.heap.size ≤ q := by have := b6.size; omega
            rw [hqd] at hZ ⊢
            refine hK.out _ _ ⟨cell_keep bZ hH.1, cell_keep bZ hH.2.1, Nat.lt_of_lt_of_le hH.2.2 bZ.size⟩ (fun hH => ?_)
            clear hK K
            (try simp only [Act.put, List.setIfInBounds_toArray, List.set_cons_zero, List.set_cons_succ])
            (repeat (refine tree_take (v := ?_) (by (simp only [List.getElem?_toArray, List.getElem?_cons_succ, List.getElem?_cons_zero]; exact rfl)) (by rfl) ?_ ?_; rotate_left; (focus (intro wS hS; (try dsimp only at hS); go_split_ands; go_simp; (try with_reducible rfl))); simp only [Act.put, List.setIfInBounds_toArray, List.set_cons_zero, List.set_cons_succ]))
            have ql := hZ.lt
            have qf := hZ.frozen
            obtain ⟨z0, z1, z2, z3⟩ := cell4 hZ
            obtain ⟨V, hV⟩ : ∃ V, w6.alloc (.cells #[.string ⟨#[]⟩, .int .u64 0, .string ⟨#[]⟩, .bool false] 25) = V := ⟨_, rfl⟩
            have hgq : g < q := by have := hgw; omega
            rw [hV] at hZ b7 hH z0 z1 z2 z3 ql ⊢
            rw [hV] at qf
            clear hV hqd bZ hgw
            (refine tree_one (by (simp only [List.getElem?_toArray, List.getElem?_cons_succ, List.getElem?_cons_zero]; exact rfl)) (by rfl) ?_; intro K hK; go_simp)
            have bS := Below.set4 (Below.refl q V) (Nat.le_refl _) 0 1 2 3 (.string x.key) (.int .u64 x.seq) (.string x.val) (.bool x.gone)
            have hF : Blk ((((V.setCell ⟨q, 0, none⟩ (.string x.key)).setCell ⟨q, 1, none⟩ (.int .u64 x.seq)).setCell ⟨q, 2, none⟩ (.string x.val)).setCell ⟨q, 3, none⟩ (.bool x.gone)) q #[.string x.key, .int .u64 x.seq, .string x.val, .bool x.gone] 25 := (((hZ.setCell 0 (.string x.key)).setCell 1 (.int .u64 x.seq)).setCell 2 (.string x.val)).setCell 3 (.bool x.gone)
            refine hK.out _ _ ⟨(bS.cell (p := ⟨g, o + k * 4, none⟩) hgq).trans hH.1, (bS.cell (p := ⟨g, o + k * 4 + 1, none⟩) hgq).trans hH.2.1, Nat.lt_of_lt_of_le hH.2.2 bS.size⟩ (fun hH => ?_)
            clear hK K hH
            (try simp only [Act.put, List.setIfInBounds_toArray, List.set_cons_zero, List.set_cons_succ])
            (repeat (refine tree_take (v := ?_) (by (simp only [List.getElem?_toArray, List.getElem?_cons_succ, List.getElem?_cons_zero]; exact rfl)) (by rfl) ?_ ?_; rotate_left; (focus (intro wS hS; (try dsimp only at hS); go_split_ands; go_simp; (try with_reducible rfl))); simp only [Act.put, List.setIfInBounds_toArray, List.set_cons_zero, List.set_cons_succ]))
            refine tree_nil ?_
            go_wp2_with fail
            go_meet
            case rel => exact ⟨q, rfl, rfl, hF, b7.trans (bS.mono hq5)⟩
          · intro K hK
            go_simp
            have bZ := (Below.refl wd.heap.size wd).alloc (Nat.le_refl _) (.cells #[.string ⟨#[]⟩, .int .u64 0, .string ⟨#[]⟩, .bool false] 25)
            have hZ := Blk.new wd #[.string ⟨#[]⟩, .int .u64 0, .string ⟨#[]⟩, .bool false] 25
            have b6 := BW.out.trans (bZ.mono BW.out.size)
            have hgw : g < wd.heap.size := hH.2.2
            have hq5' := BW.out.size
            obtain ⟨W6, hW6⟩ : ∃ W6, wd.alloc (.cells #[.string ⟨#[]⟩, .int .u64 0, .string ⟨#[]⟩, .bool false] 25) = W6 := ⟨_, rfl⟩
            obtain ⟨q, hqd⟩ : ∃ q, wd.heap.size = q := ⟨_, rfl⟩
            rw [hW6] at bZ hZ b6 ⊢
            rw [hqd] at hZ hgw hq5'
            rw [hqd]
            have hgq := hgw
            have hq5 := hq5'
            refine hK.out _ _ ⟨cell_keep bZ hH.1, cell_keep bZ hH.2.1, Nat.lt_of_lt_of_le hH.2.2 bZ.size⟩ (fun hH => ?_)
            clear hK K hW6 hqd bZ
            (try simp only [Act.put, List.setIfInBounds_toArray, List.set_cons_zero, List.set_cons_succ])
            (repeat (refine tree_take (v := ?_) (by (simp only [List.getElem?_toArray, List.getElem?_cons_succ, List.getElem?_cons_zero]; exact rfl)) (by rfl) ?_ ?_; rotate_left; (focus (intro wS hS; (try dsimp only at hS); go_split_ands; go_simp; (try with_reducible rfl))); simp only [Act.put, List.setIfInBounds_toArray, List.set_cons_zero, List.set_cons_succ]))
            (refine tree_one (by (simp only [List.getElem?_toArray, List.getElem?_cons_succ, List.getElem?_cons_zero]; exact rfl)) (by rfl) ?_; intro K hK; go_simp)
            refine (HGT.out _ _ (HT5.out.kept b6) _ _ HX.out).mono ?_
            rintro e V ⟨he, hb6⟩
            obtain rfl : e = .returned (.tuple #[.agg #[.string x.key, .int .u64 x.seq, .string x.val, .bool x.gone], .bool true]) := he
            have b7 := b6.trans (hb6.mono b6.size)
            have hZ := hZ.kept hb6
            refine hK.out _ _ ⟨cell_keep hb6 hH.1, cell_keep hb6 hH.2.1, Nat.lt_of_lt_of_le hH.2.2 hb6.size⟩ (fun hH => ?_)
            clear hK K
            (try simp only [Act.put, List.setIfInBounds_toArray, List.set_cons_zero, List.set_cons_succ])
            (repeat (refine tree_take (v := ?_) (by (simp only [List.getElem?_toArray, List.getElem?_cons_succ, List.getElem?_cons_zero]; exact rfl)) (by rfl) ?_ ?_; rotate_left; (focus (intro wS hS; (try dsimp only at hS); go_split_ands; go_simp; (try with_reducible rfl))); simp only [Act.put, List.setIfInBounds_toArray, List.set_cons_zero, List.set_cons_succ]))
            have ql := hZ.lt
            have qf := hZ.frozen
            obtain ⟨z0, z1, z2, z3⟩ := cell4 hZ
            (refine tree_one (by (simp only [List.getElem?_toArray, List.getElem?_cons_succ, List.getElem?_cons_zero]; exact rfl)) (by rfl) ?_; intro K hK; go_simp)
            have bS := Below.set4 (Below.refl q V) (Nat.le_refl _) 0 1 2 3 (.string x.key) (.int .u64 x.seq) (.string x.val) (.bool x.gone)
            have hF : Blk ((((V.setCell ⟨q, 0, none⟩ (.string x.key)).setCell ⟨q, 1, none⟩ (.int .u64 x.seq)).setCell ⟨q, 2, none⟩ (.string x.val)).setCell ⟨q, 3, none⟩ (.bool x.gone)) q #[.string x.key, .int .u64 x.seq, .string x.val, .bool x.gone] 25 := (((hZ.setCell 0 (.string x.key)).setCell 1 (.int .u64 x.seq)).setCell 2 (.string x.val)).setCell 3 (.bool x.gone)
            refine hK.out _ _ ⟨(bS.cell (p := ⟨g, o + k * 4, none⟩) hgq).trans hH.1, (bS.cell (p := ⟨g, o + k * 4 + 1, none⟩) hgq).trans hH.2.1, Nat.lt_of_lt_of_le hH.2.2 bS.size⟩ (fun hH => ?_)
            clear hK K hH
            (try simp only [Act.put, List.setIfInBounds_toArray, List.set_cons_zero, List.set_cons_succ])
            (repeat (refine tree_take (v := ?_) (by (simp only [List.getElem?_toArray, List.getElem?_cons_succ, List.getElem?_cons_zero]; exact rfl)) (by rfl) ?_ ?_; rotate_left; (focus (intro wS hS; (try dsimp only at hS); go_split_ands; go_simp; (try with_reducible rfl))); simp only [Act.put, List.setIfInBounds_toArray, List.set_cons_zero, List.set_cons_succ]))
            refine tree_nil ?_
            go_wp2_with fail
            go_meet
            case rel => exact ⟨q, rfl, rfl, hF, b7.trans (bS.mono hq5)⟩
        case rest =>
          obtain ⟨q, rfl, rfl, hq, hb⟩ := hcut
          clear c0 c1 c2 c3' hbl hS BW HB
          obtain ⟨g', o', e', hbl, c0, c1, c2, c3'⟩ := ((H.out.kept B15.out).kept hb).cell_at HX.out
          cases e'
          obtain ⟨z0, z1, z2, z3⟩ := cell4 hq
          have zl := hq.lt
          have hne := cell_neq x x
          rw [decide_eq_true rfl] at hne
          have hS : wc.drew.cell? ⟨g, o + k * 4, none⟩ = some (.string x.key) ∧ wc.drew.cell? ⟨g, o + k * 4 + 1, none⟩ = some (.int .u64 x.seq) ∧ wc.drew.cell? ⟨g, o + k * 4 + 2, none⟩ = some (.string x.val) ∧ wc.drew.cell? ⟨g, o + k * 4 + 3, none⟩ = some (.bool x.gone) ∧ wc.drew.cell? ⟨q, 0, none⟩ = some (.string x.key) ∧ wc.drew.cell? ⟨q, 1, none⟩ = some (.int .u64 x.seq) ∧ wc.drew.cell? ⟨q, 2, none⟩ = some (.string x.val) ∧ wc.drew.cell? ⟨q, 3, none⟩ = some (.bool x.gone) ∧ g < wc.drew.heap.size ∧ q < wc.drew.heap.size := ⟨c0, c1, c2, c3', z0, z1, z2, z3, hbl, zl⟩
          have HB := Lib.hid hb
          clear hb hq
          go_wp2_with fail
          refine region_plan (S := fun w' => w'.cell? ⟨g, o + k * 4, none⟩ = some (.string x.key) ∧ w'.cell? ⟨g, o + k * 4 + 1, none⟩ = some (.int .u64 x.seq) ∧ w'.cell? ⟨g, o + k * 4 + 2, none⟩ = some (.string x.val) ∧ w'.cell? ⟨g, o + k * 4 + 3, none⟩ = some (.bool x.gone) ∧ w'.cell? ⟨q, 0, none⟩ = some (.string x.key) ∧ w'.cell? ⟨q, 1, none⟩ = some (.int .u64 x.seq) ∧ w'.cell? ⟨q, 2, none⟩ = some (.string x.val) ∧ w'.cell? ⟨q, 3, none⟩ = some (.bool x.gone) ∧ g < w'.heap.size ∧ q < w'.heap.size)
            ((0, true) :: (1, true) :: (2, true) :: (3, true) :: (4, true) :: (5, true) :: (6, true) :: (7, true) :: (8, true) :: (9, true) :: (10, true) :: (11, true) :: (12, true) :: (13, true) :: (14, true) :: (15, true) :: (16, true) :: (17, false) :: (18, true) :: (19, true) :: [])
            (by kernel_rfl) (by kernel_rfl) (by kernel_rfl) (by kernel_rfl) (fun _ _ _ dst _ h => by cases dst <;> exact h) hS (fun hH => ?_)
          (repeat (first | (refine plan_take (v := ?_) (by (simp only [List.getElem?_toArray, List.getElem?_cons_succ, List.getElem?_cons_zero]; exact rfl)) (by rfl) ?_ ?_; rotate_left; (focus (intro wS hS; (try dsimp only at hS); go_split_ands; go_simp; (try with_reducible rfl))); simp only [Act.put, List.setIfInBounds_toArray, List.set_cons_zero, List.set_cons_succ]) | (refine plan_skip (by (simp only [List.getElem?_toArray, List.getElem?_cons_succ, List.getElem?_cons_zero]; exact rfl)) (by rfl) ?_; simp only [Act.put, List.setIfInBounds_toArray, List.set_cons_zero, List.set_cons_succ])))
          (refine plan_solo (by (simp only [List.getElem?_toArray, List.getElem?_cons_succ, List.getElem?_cons_zero]; exact rfl)) (by rfl) ?_; intro K hK; go_simp)
          refine (HMY.out _ _ (HT5.out.kept HB.out.drew) _ _ HX.out).mono ?_
          rintro e w8 ⟨rfl, f8⟩
          have b8 := HB.out.drew.trans (f8.mono HB.out.drew.size)
          refine hK.out _ _ ⟨cell_keep f8 c0, cell_keep f8 c1, cell_keep f8 c2, cell_keep f8 c3', cell_keep f8 z0, cell_keep f8 z1, cell_keep f8 z2, cell_keep f8 z3, Nat.lt_of_lt_of_le hbl f8.size, Nat.lt_of_lt_of_le zl f8.size⟩ (fun hH => ?_)
          clear hK K hH
          (try simp only [Act.put, List.setIfInBounds_toArray, List.set_cons_zero, List.set_cons_succ])
          (repeat (first | (refine plan_take (v := ?_) (by (simp only [List.getElem?_toArray, List.getElem?_cons_succ, List.getElem?_cons_zero]; exact rfl)) (by rfl) ?_ ?_; rotate_left; (focus (intro wS hS; (try dsimp only at hS); go_split_ands; go_simp; (try with_reducible rfl))); simp only [Act.put, List.setIfInBounds_toArray, List.set_cons_zero, List.set_cons_succ]) | (refine plan_skip (by (simp only [List.getElem?_toArray, List.getElem?_cons_succ, List.getElem?_cons_zero]; exact rfl)) (by rfl) ?_; simp only [Act.put, List.setIfInBounds_toArray, List.set_cons_zero, List.set_cons_succ])))
          refine plan_nil ?_
          go_wp2_with fail
          go_roundw
          case rel =>
            exact ⟨k + 1, Nat.zero_le _, by omega, by go_num, b8⟩
          case measure => simp [intOf]; omega
      · obtain rfl : k = l.length := by omega
        have HB := Lib.hid hb
        clear hb
        go_wp2_with fail
        refine (HSH.out _ _ (HT5.out.kept HB.out)).mono ?_
        rintro e w8 ⟨rfl, f8⟩
        have b8 := HB.out.trans (f8.mono HB.out.size)
        go_wp2_with fail
        refine (HTB.out _ ((H.out.kept B15.out).kept b8)).mono ?_
        rintro e w9 ⟨v9, rfl, own9, f9⟩
        have b9 := b8.trans (f9.mono b8.size)
        obtain ⟨A9, c9, rfl⟩ := (Reads.of_own own9).form
        have R9 := Lib.hid (Reads.of_own own9)
        clear own9
        go_wp2_with fail
        refine (HSB.out _ _ _ R9.out (R5.out.kept b9)).mono ?_
        rintro e w10 ⟨rfl, f10⟩
        have b10 := b9.trans (f10.mono b9.size)
        go_wp2_with fail
        go_ret
        exact ⟨rfl, HB0.out.trans ((B15.out.trans (b10.mono B15.out.size)).mono HB0.out.size)⟩
  · have hbs := tableN_none HD.out hE
    subst hbs
    have hq : (E == 0) = false := by simpa using hE
    obtain ⟨y0, y1, y2, y3⟩ := cell3 HB1.out
    go_enter Try.func18, Try.ntmps18
    go_upto_region 1 with fail
    clear hw1
    go_wp2_with fail
    refine (tlives _).mono ?_
    rintro e w2 ⟨rfl, b2⟩
    obtain ⟨z0, z1, z2, z3⟩ := cell3 (HB1.out.below b2 HB1.out.lt)
    clear y0 y1 y2 y3
    go_wp2_with fail
    refine (HTB.out _ (H.out.kept b2)).mono ?_
    rintro e w3 ⟨v3, rfl, own3, b3⟩
    have b13 := b2.trans (b3.mono b2.size)
    obtain ⟨A3, c3, rfl⟩ := (Reads.of_own own3).form
    obtain ⟨y0, y1, y2, y3⟩ := cell3 (HB1.out.below b13 HB1.out.lt)
    clear z0 z1 z2 z3 own3
    go_wp2_with fail
    refine (HRB.out _ (H.out.kept b13)).mono ?_
    rintro e w4 ⟨v4, rfl, hv4, b4⟩
    have b14 := b13.trans (b4.mono b13.size)
    clear y0 y1 y2 y3 hv4
    go_wp2_with fail
    go_ret
    exact ⟨rfl, HB0.out.trans (b14.mono HB0.out.size)⟩
end Go.Proofs.Ytbcaiegglbdonaa
