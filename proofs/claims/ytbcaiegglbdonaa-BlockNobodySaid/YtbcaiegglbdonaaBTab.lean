/-
  The block's iterator in a loop of the law.
-/
import Derived.Test.YtbcaiegglbdonaaBScan
import Derived.Test.YtbcaiegglbdonaaMemTab
namespace Go.Proofs.Ytbcaiegglbdonaa
open Go.RowKit Go.Shelf

/-- Of the pointer p Cells tells cs, as long as the blocks of F lie as they lay. -/
structure BTab (p : Value) (F : Nat → Prop) (cs : List Cell) (W : World) : Prop where
  calls : ∀ W', Only (fun k => ¬ F k) W W' → Calls Try.prog 43 #[p] W' (CellsPost W' cs)
  len : cs.length ≤ 2932031007402
  ptr : ∃ q, p = .pointer q
theorem BTab.only {p : Value} {F : Nat → Prop} {cs : List Cell} {W W' : World} (h : BTab p F cs W) (ho : Only (fun k => ¬ F k) W W') : BTab p F cs W' := ⟨fun W2 h2 => h.calls W2 (ho.trans h2), h.len, h.ptr⟩
theorem BTab.kept {p : Value} {F : Nat → Prop} {cs : List Cell} {W W' : World} (h : BTab p F cs W) (hb : Below W.heap.size W W') : BTab p F cs W' := h.only (Only.of_below hb)
theorem btab_stops (n : Nat) (hn : 1 ≤ n) {w : World} {X : Nat → Prop} {pb b0 b1 b2 : Nat} {p : Value} {F : Nat → Prop} {cs : List Cell} {fr to : ByteArray}
    (h0 : Blk w b0 #[p] 68) (h1 : Blk w b1 #[.string fr] 9) (h2 : Blk w b2 #[.string to] 9) (n1 : ¬ Sx X pb w b1) (n2 : ¬ Sx X pb w b2) (hS : ∀ b, Sx X pb w b → b < w.heap.size) (hpb : pb < w.heap.size) (hm : BTab p F cs w) :
    SeqStopsK Fence.wide n Try.prog 106 #[.pointer (some ⟨b0, 0, none⟩), .pointer (some ⟨b1, 0, none⟩), .pointer (some ⟨b2, 0, none⟩)] (fun x : Cell => #[.agg #[.string x.key, .int .u64 x.seq, .string x.val, .bool x.gone]]) (KpC X pb)
      (fun ys => ys = cs.filter (partP fr to)) (fun pre => pre <+: cs.filter (partP fr to)) (cs.filter (partP fr to)).length w := fun l J Jx W hW hJ _ hY hj0 => by
  have hk : KpC X pb w W := KpC.of_below hW hpb
  exact bscan_any n hn l X pb b0 b1 b2 p cs fr to J Jx W hJ hY (h0.kept hW) (h1.kept hW) (h2.kept hW) (fun h => n1 (hk.sub _ h1.lt h)) (fun h => n2 (hk.sub _ h2.lt h))
    (fun b hs => Nat.lt_of_lt_of_le (hS b (hs.imp id fun ⟨o, x, c, h⟩ => ⟨o, x, c, by rw [← hW.cell (p := ⟨pb, 0, none⟩) hpb]; exact h⟩)) hW.size) (Nat.lt_of_lt_of_le hpb hW.size) (hm.calls W (Only.of_below hW)) (by have := hm.len; omega) hm.ptr hj0
theorem range_cells6 {n : Nat} (h1 : 1 ≤ n) {p q : Nat} {g : Operand} {assign body : Code} {Q : Exit → Act → World → Prop} {a : Act} {w : World} {lb : Array Value}
    (hg : a.eval g = .func (.func 106) #[] lb) {X : Nat → Prop} {pb : Nat} {Z : List Cell}
    (hseq : SeqStopsK Fence.wide (n - 1) Try.prog 106 lb (fun x : Cell => #[.agg #[.string x.key, .int .u64 x.seq, .string x.val, .bool x.gone]]) (KpC X pb) (fun ys => ys = Z) (fun pre => pre <+: Z) Z.length w) (hpb : pb < w.heap.size)
    (I : List Cell → World → Prop) (Ix : Code → List Cell → World → Prop) (hI : OwnFrom w.heap.size I) (hIx : ∀ c, OwnFrom w.heap.size (Ix c)) (h0 : I [] w)
    (hassign : ∀ (l : Nat) (x : Cell) (W : World) (K : Act → World → Prop), K ⟨(a.tmps.setIfInBounds p (.agg (cellA x))).setIfInBounds q (.pointer (some ⟨W.heap.size, 0, none⟩)), []⟩ (W.alloc (.cells (cellA x) 25)) →
      assign.wpIn (Fence.wide.inRound l) (n - 1 - 1) Try.prog (Exit.then K (fun _ _ _ => False)) ⟨a.tmps.setIfInBounds p (.agg (cellA x)), []⟩ W)
    (hbody : ∀ (l : Nat) (pre : List Cell) (x : Cell) (Bx : Nat) (W : World), I pre W → Blk W Bx (cellA x) 25 → w.heap.size ≤ Bx → pre.length < Z.length →
      body.wpIn (Fence.wide.inRound l) (n - 1 - 1) Try.prog (ownPostG w.heap.size (KpC X pb) I Ix (pre ++ [x]) W) ⟨(a.tmps.setIfInBounds p (.agg (cellA x))).setIfInBounds q (.pointer (some ⟨Bx, 0, none⟩)), []⟩ W)
    (hdone : ∀ (D : Nat) (W : World), w.heap.size ≤ D → I Z W → W.heap[D]? = some (.deferred (some [])) → Q .normal { a with defers := { target := .collected D, args := #[] } :: a.defers } W)
    (hstop : ∀ (D : Nat) (c : Code) (pre : List Cell) (W : World), w.heap.size ≤ D → pre <+: Z → Ix c pre W → W.heap[D]? = some (.deferred (some [])) → c.wpIn Fence.wide n Try.prog Q { a with defers := { target := .collected D, args := #[] } :: a.defers } W)
    (hIs : ∀ pre W, I pre W → w.heap.size ≤ W.heap.size) :
    (Code.rangeFunc g #[p] assign body).wpIn Fence.wide n Try.prog Q a w := by
  refine wpIn_rangeFunc_ownH rfl h1 (gf := 106) hg trivial (enters_of Try.func106 (by kernel_rfl) rfl) hseq (fun h k => h.trans k) (fun W l o o' => kpC_b hpb W l o o') (Below.refl _ _) (fun _ => rfl) I Ix hI hIx h0
    (fun x a' W => ∃ Bx, Blk W Bx (cellA x) 25 ∧ w.heap.size ≤ Bx ∧ a' = ⟨(a.tmps.setIfInBounds p (.agg (cellA x))).setIfInBounds q (.pointer (some ⟨Bx, 0, none⟩)), []⟩) ?_ ?_ ?_ (fun D xs W hD he hi hk => ?_) (fun D c pre W hD hp hx hk => hstop D c pre W hD hp hx hk)
  · rintro x a' s A B row ⟨Bx, hb, hB, rfl⟩ hgr hrow
    refine ⟨Bx, (hgr.block Bx hb.lt (fun e => ?_)).trans hb, hB, rfl⟩
    obtain ⟨_, o, ho, hc⟩ := hrow Bx e.symm
    rw [show A.heap[Bx]? = _ from hb] at ho; cases ho; cases hc
  · intro l pre x W K hi hK
    have he : ((#[p] : Array Tmp).zip #[Value.agg #[Value.string x.key, Value.int IntKind.u64 x.seq, Value.string x.val, Value.bool x.gone]]).foldl (fun t (p, v) => t.setIfInBounds p v) a.tmps = a.tmps.setIfInBounds p (.agg (cellA x)) := by simp [cellA]
    rw [he]
    refine hassign l x W K (hK _ _ ((KeepsOthers.alloc _ _).from _) ?_ (hI.alloc _ hi) ⟨W.heap.size, Blk.new _ _ _, hIs pre W hi, rfl⟩)
    exact KpC.of_below ((Below.refl _ _).alloc (Nat.le_refl _) _) (Nat.lt_of_lt_of_le hpb (hIs pre W hi))
  · rintro l pre x a' W _ _ hi ⟨Bx, hb, hB, rfl⟩ hlt
    exact hbody l pre x Bx W hi hb hB hlt
  · subst he
    exact hdone D W hD hi hk
theorem range_meet6 {n : Nat} (h1 : 1 ≤ n) {p q : Nat} {g : Operand} {assign body : Code} {Q : Exit → Act → World → Prop} {a : Act} {w : World} {lb : Array Value}
    (hg : a.eval g = .func (.func 106) #[] lb) {X : Nat → Prop} {pb : Nat} {Z : List Cell}
    (hseq : SeqStopsK Fence.wide (n - 1) Try.prog 106 lb (fun x : Cell => #[.agg #[.string x.key, .int .u64 x.seq, .string x.val, .bool x.gone]]) (KpC X pb) (fun ys => ys = Z) (fun pre => pre <+: Z) Z.length w) (hpb : pb < w.heap.size)
    (I : List Cell → World → Prop) (Ix : Code → List Cell → World → Prop) (hI : OwnFrom w.heap.size I) (hIx : ∀ c, OwnFrom w.heap.size (Ix c)) (h0 : I [] w)
    (hassign : ∀ (l : Nat) (x : Cell) (W : World) (K : Act → World → Prop), K ⟨(a.tmps.setIfInBounds p (.agg (cellA x))).setIfInBounds q (.pointer (some ⟨W.heap.size, 0, none⟩)), []⟩ (W.alloc (.cells (cellA x) 25)) →
      assign.wpIn (Fence.wide.inRound l) (n - 1 - 1) Try.prog (Exit.then K (fun _ _ _ => False)) ⟨a.tmps.setIfInBounds p (.agg (cellA x)), []⟩ W)
    (hbody : ∀ (l : Nat) (pre : List Cell) (x : Cell) (Bx : Nat) (W : World), I pre W → Blk W Bx (cellA x) 25 → w.heap.size ≤ Bx → pre.length < Z.length →
      body.wpIn (Fence.wide.inRound l) (n - 1 - 1) Try.prog (ownPostG w.heap.size (KpC X pb) I Ix (pre ++ [x]) W) ⟨(a.tmps.setIfInBounds p (.agg (cellA x))).setIfInBounds q (.pointer (some ⟨Bx, 0, none⟩)), []⟩ W)
    (R : Nat → World → Prop) (id : Nat)
    (hdone : ∀ (D : Nat) (W : World), w.heap.size ≤ D → I Z W → W.heap[D]? = some (.deferred (some [])) → R D W)
    (hstop : ∀ (D : Nat) (c : Code) (pre : List Cell) (W : World), w.heap.size ≤ D → pre <+: Z → Ix c pre W → W.heap[D]? = some (.deferred (some [])) → c = .exit id ∧ R D W)
    (hIs : ∀ pre W, I pre W → w.heap.size ≤ W.heap.size) (hx : ∀ a w, Q .normal a w → Q (.exit id) a w)
    (meet : ∀ D W, R D W → Q .normal { a with defers := { target := .collected D, args := #[] } :: a.defers } W) :
    (Code.rangeFunc g #[p] assign body).wpIn Fence.wide n Try.prog Q a w :=
  range_cells6 h1 hg hseq hpb I Ix hI hIx h0 hassign hbody (fun D W hD hi hk => meet D W (hdone D W hD hi hk)) (fun D c pre W hD hp hi hk => by
    obtain ⟨rfl, hr⟩ := hstop D c pre W hD hp hi hk
    exact wpIn_exit (hx _ _ (meet D W hr))) hIs
end Go.Proofs.Ytbcaiegglbdonaa
