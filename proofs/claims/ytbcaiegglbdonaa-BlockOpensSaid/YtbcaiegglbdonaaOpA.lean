/-
  The block's iterator, and the law's Goes over it.
-/
import Derived.OwnWalkIn
import Derived.Sort.QuietIn
import Derived.RangeFuncNested
import Derived.Test.YtbcaiegglbdonaaMemCol
import Derived.Test.YtbcaiegglbdonaaMemScan
import Derived.Test.YtbcaiegglbdonaaRefCells
import Derived.Sort.CutIn
namespace Go.Proofs.Ytbcaiegglbdonaa
open Go Go.RowKit Go.BigFrame
section
variable {F : Fence} {n : Nat} {P : Program} {ops : Array Oper} {Q : Exit → Act → World → Prop}

theorem oper_round {l : Nat} {o : Oper} {a : Act} {w : World} {K : Act → World → Prop} (hd : ∀ c, o.op ≠ .defer c) (h : o.wpIn F n P a w K Q) : o.wpIn (F.inRound l) n P a w K Q := by
  unfold Oper.wpIn at h ⊢
  rw [Oper.semAt_plain F _ _ hd] at h
  rw [Oper.semAt_plain (F.inRound l) _ _ hd]
  refine ⟨h.1, ?_⟩
  exact h.2
def noDefer (ops : Array Oper) : Bool := ops.all fun o => match o.op with | .defer .. => false | _ => true
theorem noDefer_spec (h : noDefer ops = true) {j : Nat} {o : Oper} (ho : ops[j]? = some o) : ∀ c, o.op ≠ .defer c := by
  intro c heq
  obtain ⟨hj, rfl⟩ := Array.getElem?_eq_some_iff.1 ho
  have := (Array.all_eq_true.1 h) j hj
  rw [heq] at this
  cases this
theorem any_round {l : Nat} {md : Region.Mode} (hd : noDefer ops = true) : ∀ (fuel : Nat) (listed : Array Bool) (a : Act) (w : World), wpAnyIn F n P md ops Q fuel listed a w → wpAnyIn (F.inRound l) n P md ops Q fuel listed a w := by
  intro fuel
  induction fuel with
  | zero => exact fun _ _ _ h => h
  | succ fuel ih =>
    intro listed a w h
    refine ⟨h.1, fun i hi => ?_⟩
    have h2 := wpOpIn_mono (fun a w => ih (listed.setIfInBounds i true) a w) (h.2 i hi)
    unfold wpOpIn at h2 ⊢
    split
    · simpa [*] using h2
    · rename_i o ho
      simp only [ho] at h2
      split
      · rename_i hw; simp only [hw, if_true] at h2; exact oper_round (noDefer_spec hd ho) h2
      · rename_i hw; simp only [hw] at h2; exact h2
theorem region_quiet_round {l₀ : Nat} {id : Nat} {a : Act} {w : World} {l : List Oper} (hro : F.round = none) (hd : noDefer l.toArray = true) (hm : P.follows .mixedOrders = true) (hB : Region.lexB .any l.toArray = true)
    (h : wpQuietIn F n P l.toArray (fun w' => ∃ n, w' = w.drewN n) (fun a' => ∀ w', (∃ n, w' = w.drewN n) → Q .normal a' w') l a) : (Code.region id l.toArray true).wpIn (F.inRound l₀) n P Q a w := by
  simp only [Region.lexB, Bool.and_eq_true] at hB
  refine wpIn_region_any hm (any_round hd _ _ _ _ (wpAnyIn_of_quiet (C := fun w' => ∃ n, w' = w.drewN n) (Q := fun a' => ∀ w', (∃ n, w' = w.drewN n) → Q .normal a' w') hro (fun _ w' hw' h => h w' hw') _ _ _ _ ⟨1, rfl⟩ ?_))
  have := wpAnyQIn_lex (F := F) (n := n) (C := fun w' => ∃ n, w' = w.drewN n) (md := .any) hB.1 l 0 (Array.replicate l.toArray.size false) a (by simp) (by simpa using hB.2) h
  simpa using this
end
end Go.Proofs.Ytbcaiegglbdonaa

namespace Go.Proofs.Ytbcaiegglbdonaa
open Go.RowKit Go.Shelf

/-- Of the pointer p Cells tells cs, as long as the blocks of F lie as they lay. -/
structure Tab (p : Value) (F : Nat → Prop) (cs : List Cell) (W : World) : Prop where
  calls : ∀ W', Only (fun k => ¬ F k) W W' → Calls Try.prog 24 #[p] W' (CellsPost W' cs)
  len : cs.length ≤ 2932031007402
  ptr : ∃ q, p = .pointer q
theorem Tab.only {p : Value} {F : Nat → Prop} {cs : List Cell} {W W' : World} (h : Tab p F cs W) (ho : Only (fun k => ¬ F k) W W') : Tab p F cs W' := ⟨fun W2 h2 => h.calls W2 (ho.trans h2), h.len, h.ptr⟩
theorem Tab.kept {p : Value} {F : Nat → Prop} {cs : List Cell} {W W' : World} (h : Tab p F cs W) (hb : Below W.heap.size W W') : Tab p F cs W' := h.only (Only.of_below hb)
theorem MemIs.tab {w : World} {a : Nat} {F : Nat → Prop} {M : MM} (h : MemIs w a F M) (hl : M.length * 48 ≤ 140737488355328) : Tab (.pointer (some ⟨a, 0, none⟩)) F (M.map (·.1)) w :=
  ⟨fun _ ho => cells_model (h.only ho fun _ hk hn => hn hk) hl, by rw [List.length_map]; omega, ⟨_, rfl⟩⟩
theorem tab_stops (n : Nat) (hn : 1 ≤ n) {w : World} {X : Nat → Prop} {pb b0 b1 b2 : Nat} {p : Value} {F : Nat → Prop} {cs : List Cell} {fr to : ByteArray}
    (h0 : Blk w b0 #[p] 26) (h1 : Blk w b1 #[.string fr] 9) (h2 : Blk w b2 #[.string to] 9) (n1 : ¬ Sx X pb w b1) (n2 : ¬ Sx X pb w b2) (hS : ∀ b, Sx X pb w b → b < w.heap.size) (hpb : pb < w.heap.size) (hm : Tab p F cs w) :
    SeqStopsK Fence.wide n Try.prog 77 #[.pointer (some ⟨b0, 0, none⟩), .pointer (some ⟨b1, 0, none⟩), .pointer (some ⟨b2, 0, none⟩)] (fun x : Cell => #[.agg #[.string x.key, .int .u64 x.seq, .string x.val, .bool x.gone]]) (KpC X pb)
      (fun ys => ys = scanL fr to cs) (fun pre => pre <+: scanL fr to cs) (scanL fr to cs).length w := fun l J Jx W hW hJ _ hY hj0 => by
  have hk : KpC X pb w W := KpC.of_below hW hpb
  exact scan1_any n hn l X pb b0 b1 b2 p cs fr to J Jx W hJ hY (h0.kept hW) (h1.kept hW) (h2.kept hW) (fun h => n1 (hk.sub _ h1.lt h)) (fun h => n2 (hk.sub _ h2.lt h))
    (fun b hs => Nat.lt_of_lt_of_le (hS b (hs.imp id fun ⟨o, x, c, h⟩ => ⟨o, x, c, by rw [← hW.cell (p := ⟨pb, 0, none⟩) hpb]; exact h⟩)) hW.size) (Nat.lt_of_lt_of_le hpb hW.size) (hm.calls W (Only.of_below hW)) (by have := hm.len; omega) hm.ptr hj0

/-- Blocks known whole, the memory that was there, the marks of the loops before. -/
structure Keep (w0 : World) (Bs : List (Nat × Array Value × TypeId)) (Ds : List Nat) (W : World) : Prop where
  blk : ∀ x ∈ Bs, Blk W x.1 x.2.1 x.2.2
  below : Below w0.heap.size w0 W
  marks : ∀ D ∈ Ds, W.heap[D]? = some (.deferred (some []))
theorem keep_own {β : Type} {w0 : World} {B : Nat} (Bs : β → List (Nat × Array Value × TypeId)) {Ds : List Nat} (hB : w0.heap.size ≤ B) (hD : ∀ D ∈ Ds, D < B) : OwnFrom B (fun s W => Keep w0 (Bs s) Ds W) := by
  rintro s X Y row ⟨h1, h2, h3⟩ hg hrow
  refine ⟨fun x hx => (hg.block x.1 (h1 x hx).lt (fun e => ?_)).trans (h1 x hx), h2.grown hg h2.size (fun k e => Nat.le_trans hB (hrow k e).1), fun D hd => (hg.block D (Array.getElem?_eq_some_iff.1 (h3 D hd)).1 (fun e => ?_)).trans (h3 D hd)⟩
  · obtain ⟨_, o, ho, hc⟩ := hrow x.1 e.symm
    rw [show X.heap[x.1]? = _ from h1 x hx] at ho; cases ho; cases hc
  · have := (hrow D e.symm).1; have := hD D hd; omega
theorem Keep.kept {w0 W W' : World} {Bs : List (Nat × Array Value × TypeId)} {Ds : List Nat} (h : Keep w0 Bs Ds W) (hb : Below W.heap.size W W') : Keep w0 Bs Ds W' :=
  ⟨fun x hx => (h.blk x hx).kept hb, h.below.trans (hb.mono h.below.size), fun D hd => (hb.block D (Array.getElem?_eq_some_iff.1 (h.marks D hd)).1).trans (h.marks D hd)⟩
theorem Keep.less {w0 W : World} {Bs Bs' : List (Nat × Array Value × TypeId)} {Ds : List Nat} (h : Keep w0 Bs Ds W) (hs : ∀ x ∈ Bs', x ∈ Bs) : Keep w0 Bs' Ds W := ⟨fun x hx => h.blk x (hs x hx), h.below, h.marks⟩
theorem Keep.mark {w0 W : World} {Bs : List (Nat × Array Value × TypeId)} {Ds : List Nat} {D : Nat} (h : Keep w0 Bs Ds W) (hk : W.heap[D]? = some (.deferred (some []))) : Keep w0 Bs (D :: Ds) W :=
  ⟨h.blk, h.below, fun D' hD => by rcases List.mem_cons.1 hD with rfl | hD; exact hk; exact h.marks _ hD⟩
theorem Keep.add {w0 W : World} {Bs : List (Nat × Array Value × TypeId)} {Ds : List Nat} (h : Keep w0 Bs Ds W) {b : Nat} {arr : Array Value} {t : TypeId} (hb : Blk W b arr t) : Keep w0 ((b, arr, t) :: Bs) Ds W :=
  ⟨fun x hx => by rcases List.mem_cons.1 hx with rfl | hx; exact hb; exact h.blk x hx, h.below, h.marks⟩
/-- A store into a box that stands first. -/
theorem Keep.set {w0 W : World} {Bs : List (Nat × Array Value × TypeId)} {Ds : List Nat} {b : Nat} {v : Value} {t : TypeId} (h : Keep w0 ((b, #[v], t) :: Bs) Ds W) (hn : ∀ x ∈ Bs, x.1 ≠ b) (hb : w0.heap.size ≤ b) (v' : Value) :
    Keep w0 ((b, #[v'], t) :: Bs) Ds (W.setCell ⟨b, 0, none⟩ v') := by
  have hbB := h.blk _ (by simp : (b, #[v], t) ∈ _)
  refine ⟨fun x hx => ?_, h.below.setCell (p := ⟨b, 0, none⟩) hb v', fun D hd => (Below.heap_setCell _ _ _ _ (fun e => ?_)).trans (h.marks D hd)⟩
  · rcases List.mem_cons.1 hx with rfl | hx
    · exact hbB.setCell 0 v'
    · exact (h.blk x (by simp [hx])).setCell_ne (hn x hx) 0 v'
  · subst e
    have h1 := h.marks D hd
    rw [show W.heap[D]? = _ from hbB] at h1
    cases h1
theorem KpC.setInt {X : Nat → Prop} {W : World} {b : Nat} (hX : X b) (x : Int) (k : IntKind) {v : Value} {t : TypeId} (hb : Blk W b #[v] t) : KpC X b W (W.setCell ⟨b, 0, none⟩ (.int k x)) := by
  refine ⟨by simp, fun b' o hn h _ => (Below.heap_setCell _ _ _ _ (fun e => hn (.inl (by rw [show b' = b from e]; exact hX)))).trans h, fun b' _ hs => hs.imp id ?_⟩
  rintro ⟨o, n, c, h⟩
  rw [(hb.setCell 0 (.int k x)).cell 0 (.int k x) (by simp)] at h
  cases h
theorem keeps_drewN (W : World) (n : Nat) : KeepsOthers W (W.drewN n) := ⟨Nat.le_refl _, fun _ _ h _ => h⟩
/-- The two ways out of a loop over an iterator meet. -/
theorem wpIn_cutD {F : Fence} {n : Nat} {P : Program} {s : Code} {K : Act → World → Prop} {Q' : Exit → Act → World → Prop} {a : Act} {w : World} (R : Nat → World → Prop)
    (first : s.wpIn F n P (Exit.then (fun a' w' => ∃ D, a' = { a with defers := { target := .collected D, args := #[] } :: a.defers } ∧ R D w') Q') a w)
    (rest : ∀ D w', R D w' → K { a with defers := { target := .collected D, args := #[] } :: a.defers } w') : s.wpIn F n P (Exit.then K Q') a w := by
  refine wpIn_mono first ?_
  intro e a' w' hq
  cases e with
  | normal => obtain ⟨D, rfl, h⟩ := hq; exact rest D w' h
  | exit id => exact hq
  | goto l => exact hq
  | ret => exact hq
  | panic ch => exact hq
  | outgrown => exact hq

/-- A loop over the iterator whose two ways out meet. -/
theorem range_meet {n : Nat} (h1 : 1 ≤ n) {p q : Nat} {g : Operand} {assign body : Code} {Q : Exit → Act → World → Prop} {a : Act} {w : World} {lb : Array Value}
    (hg : a.eval g = .func (.func 77) #[] lb) {X : Nat → Prop} {pb : Nat} {Z : List Cell}
    (hseq : SeqStopsK Fence.wide (n - 1) Try.prog 77 lb (fun x : Cell => #[.agg #[.string x.key, .int .u64 x.seq, .string x.val, .bool x.gone]]) (KpC X pb) (fun ys => ys = Z) (fun pre => pre <+: Z) Z.length w) (hpb : pb < w.heap.size)
    (I : List Cell → World → Prop) (Ix : Code → List Cell → World → Prop) (hI : OwnFrom w.heap.size I) (hIx : ∀ c, OwnFrom w.heap.size (Ix c)) (h0 : I [] w)
    (hassign : ∀ (l : Nat) (x : Cell) (W : World) (K : Act → World → Prop), K ⟨(a.tmps.setIfInBounds p (.agg (cellA x))).setIfInBounds q (.pointer (some ⟨W.heap.size, 0, none⟩)), []⟩ (W.alloc (.cells (cellA x) 25)) →
      assign.wpIn (Fence.wide.inRound l) (n - 1 - 1) Try.prog (Exit.then K (fun _ _ _ => False)) ⟨a.tmps.setIfInBounds p (.agg (cellA x)), []⟩ W)
    (hbody : ∀ (l : Nat) (pre : List Cell) (x : Cell) (Bx : Nat) (W : World), I pre W → Blk W Bx (cellA x) 25 → w.heap.size ≤ Bx → pre.length < Z.length →
      body.wpIn (Fence.wide.inRound l) (n - 1 - 1) Try.prog (ownPostG w.heap.size (KpC X pb) I Ix (pre ++ [x]) W) ⟨(a.tmps.setIfInBounds p (.agg (cellA x))).setIfInBounds q (.pointer (some ⟨Bx, 0, none⟩)), []⟩ W)
    (R : Nat → World → Prop) (id : Nat)
    (hdone : ∀ (D : Nat) (W : World), w.heap.size ≤ D → I Z W → W.heap[D]? = some (.deferred (some [])) → R D W)
    (hstop : ∀ (D : Nat) (c : Code) (pre : List Cell) (W : World), w.heap.size ≤ D → pre <+: Z → Ix c pre W → W.heap[D]? = some (.deferred (some [])) → c = .exit id ∧ R D W)
    (hIs : ∀ pre W, I pre W → w.heap.size ≤ W.heap.size) (hx : ∀ a w, Q .normal a w → Q (.exit id) a w)
    (meet : ∀ D W, R D W → Q .normal { a with defers := { target := .collected D, args := #[] } :: a.defers } W) :
    (Code.rangeFunc g #[p] assign body).wpIn Fence.wide n Try.prog Q a w :=
  range_cells h1 hg hseq hpb I Ix hI hIx h0 hassign hbody (fun D W hD hi hk => meet D W (hdone D W hD hi hk)) (fun D c pre W hD hp hi hk => by
    obtain ⟨rfl, hr⟩ := hstop D c pre W hD hp hi hk
    exact wpIn_exit (hx _ _ (meet D W hr))) hIs

end Go.Proofs.Ytbcaiegglbdonaa

namespace Go.Proofs.Ytbcaiegglbdonaa
open Go.RowKit Go.Shelf
attribute [local go_sem] Oper.semAt_some

def BScanRel (J : List Cell → World → Prop) (X : Nat → Prop) (pb b1 b2 : Nat) (fr to : ByteArray) (cs : List Cell) (v : Value) (i : Value) (wr : World) : Prop :=
  ∃ (k : Nat) (pre : List Cell), k ≤ cs.length ∧ i = .int .i64 k ∧ cs.filter (partP fr to) = pre ++ (cs.drop k).filter (partP fr to) ∧ J pre wr ∧ Blk wr b1 #[.string fr] 9 ∧ Blk wr b2 #[.string to] 9 ∧ ¬ Sx X pb wr b1 ∧ ¬ Sx X pb wr b2 ∧
    pb < wr.heap.size ∧
    (∃ B, wr.ownsRow B 25 4 v cs.length (cellVals cs)) ∧ ∀ g, v.ownBlock = some g → ¬ Sx X pb wr g

set_option maxRecDepth 100000 in
set_option maxHeartbeats 1000000 in
theorem bscan_any (n : Nat) (hn : 1 ≤ n) (l : Nat) (X : Nat → Prop) (pb b0 b1 b2 : Nat) (p : Value) (cs : List Cell) (fr to : ByteArray) (J Jx : List Cell → World → Prop) (W : World)
    (hJ : AbidesFrom W.heap.size J)
    (hY : ∀ pre x W1, J pre W1 → pre.length < (cs.filter (partP fr to)).length → YieldAt Fence.wide (n - 1) Try.prog l #[.agg #[.string x.key, .int .u64 x.seq, .string x.val, .bool x.gone]] W1 fun e W' =>
      (e = .returned (.bool true) ∧ J (pre ++ [x]) W' ∧ KpC X pb W1 W') ∨ (e = .returned (.bool false) ∧ Jx (pre ++ [x]) W'))
    (h0 : Blk W b0 #[p] 68) (h1 : Blk W b1 #[.string fr] 9) (h2 : Blk W b2 #[.string to] 9) (n1 : ¬ Sx X pb W b1) (n2 : ¬ Sx X pb W b2) (hS : ∀ b, Sx X pb W b → b < W.heap.size) (hpb : pb < W.heap.size)
    (hcs : Calls Try.prog 43 #[p] W (CellsPost W cs)) (hcb : cs.length ≤ 2932031007403) (hp1 : ∃ q, p = .pointer q) (hj0 : J [] W) :
    CallsIn Fence.wide n Try.prog 106 #[.func (.yield l) #[] #[], .pointer (some ⟨b0, 0, none⟩), .pointer (some ⟨b1, 0, none⟩), .pointer (some ⟨b2, 0, none⟩)] W fun e W' => (∃ v, e = .returned v) ∧
      ((∃ ys, ys = cs.filter (partP fr to) ∧ J ys W') ∨ (∃ pre, pre <+: cs.filter (partP fr to) ∧ Jx pre W')) := by
  obtain ⟨q, rfl⟩ := hp1
  have c0 : W.cell? ⟨b0, 0, none⟩ = some (.pointer q) := h0.cell 0 _ rfl
  have l0 := h0.lt
  refine callsIn_of_wp Try.func106 rfl trivial ?_ rfl
  simp only [Try.ntmps106, List.size_toArray, List.length_cons, List.length_nil, Nat.reduceAdd, Nat.reduceSub, Array.replicate_succ, Array.replicate_zero, List.push_toArray, List.append_toArray, List.nil_append, List.cons_append]
  have hn1 : 1 ≤ n - 1 + 1 := by omega
  gi_wp2_with (first | (refine ⟨trivial, ?_⟩; gi_at_call 43; refine (callsIn_wide.2 hcs).mono ?_; rintro e w' ⟨v, rfl, hown, hbel⟩; obtain ⟨A, cap, rfl⟩ := (Reads.of_own hown).form))
  have hsx : ∀ b, Sx X pb w' b → b < W.heap.size := fun b hs => hS b (hs.imp id fun ⟨o, x, c, h⟩ => ⟨o, x, c, by rw [← hbel.cell (p := ⟨pb, 0, none⟩) hpb]; exact h⟩)
  have hk0 : KpC X pb W w' := KpC.of_below hbel hpb
  gi_loopw [10] (BScanRel J X pb b1 b2 fr to cs (.slice A cs.length cap)) (fun i _ => cs.length - (intOf i).toNat)
  case atStart =>
    exact ⟨0, [], Nat.zero_le _, rfl, rfl, hJ _ _ _ none hj0 ⟨hbel.os, hbel.tape, hbel.output, hbel.size, fun k hk _ => hbel.block k hk⟩ (fun r e => by cases e), h1.kept hbel, h2.kept hbel, fun h => n1 (hk0.sub _ h1.lt h), fun h => n2 (hk0.sub _ h2.lt h), Nat.lt_of_lt_of_le hpb hbel.size, ⟨_, hown⟩,
      fun g hg h => by have := hsx g h; have := (hown.lt g hg).1; omega⟩
  case round =>
    obtain ⟨k, pre, hk, rfl, hsc, hJr, r1, r2, m1, m2, hpw, ⟨B, how⟩, hAo⟩ := hrel
    by_cases hlt : k < cs.length
    · obtain ⟨x, hx⟩ : ∃ x, cs[k]? = some x := ⟨_, List.getElem?_eq_getElem hlt⟩
      obtain ⟨b, o, rfl, g1, p0, p1, p2, p3⟩ := (Reads.of_own how).cell_at hx
      have i1 : (k : Int) < (cs.length : Int) := by omega
      have i0 : (0 : Int) ≤ (k : Int) := by omega
      have hJ1 : J pre (wr.alloc (.cells #[.string x.key, .int .u64 x.seq, .string x.val, .bool x.gone] 25)) := hJ _ _ _ none hJr (World.grownBy_alloc _ _ none) (fun r e => by cases e)
      have hka : KpC X pb wr (wr.alloc (.cells #[.string x.key, .int .u64 x.seq, .string x.val, .bool x.gone] 25)) := KpC.of_below ((Below.refl _ _).alloc (Nat.le_refl _) _) hpw
      have hdr : cs.drop k = x :: cs.drop (k + 1) := by rw [List.drop_eq_getElem_cons hlt]; congr; simpa [List.getElem?_eq_getElem hlt] using hx
      have HX := Lib.hid hx
      have HD := Lib.hid hdr
      have HS := Lib.hid hsc
      have e1 : wr.cell? ⟨b1, 0, none⟩ = some (.string fr) := r1.cell 0 _ rfl
      have e2 : wr.cell? ⟨b2, 0, none⟩ = some (.string to) := r2.cell 0 _ rfl
      have d1 := r1.lt
      have d2 := r2.lt
      clear hx hdr hsc
      by_cases hlow : Op.bytesLess x.key.toList fr.toList = true
      · have hsl := Lib.hid (show (x :: cs.drop (k + 1)).filter (partP fr to) = (cs.drop (k + 1)).filter (partP fr to) by rw [List.filter_cons, if_neg (by simp [partP, hlow])])
        gi_wp2_with fail
        refine ⟨fun _ h => (by cases h), ?_⟩
        gi_wp2_with fail
        go_roundw
        case rel =>
          exact ⟨k + 1, pre, by omega, by go_num, by rw [HS.out, HD.out, hsl.out], hJ1, r1.kp hka m1, r2.kp hka m2, fun h => m1 (hka.sub _ d1 h), fun h => m2 (hka.sub _ d2 h), Nat.lt_of_lt_of_le hpw hka.size, ⟨B, KpC.own how hka hAo⟩, fun g hg h => hAo g hg (hka.sub _ (how.lt g hg).2 h)⟩
        case measure => simp [intOf]; omega
      have hlow : Op.bytesLess x.key.toList fr.toList = false := by simpa using hlow
      by_cases hto : to.toList = []
      · have hsl := Lib.hid (show (x :: cs.drop (k + 1)).filter (partP fr to) = x :: (cs.drop (k + 1)).filter (partP fr to) by rw [List.filter_cons, if_pos (by simp [partP, hlow, hto])])
        obtain ⟨fn, tmps, assign, body, hy, hR⟩ := hY pre x _ hJ1 (by rw [HS.out, HD.out, hsl.out]; simp)
        gi_wp2_with fail
        refine hR.mono ?_
        rintro e W3 (⟨rfl, hJ3, hk3⟩ | ⟨rfl, hJx3⟩)
        · gi_wp2_with fail
          go_roundw
          case rel =>
            have hk4 := hka.trans hk3
            exact ⟨k + 1, pre ++ [x], by omega, by go_num, by rw [HS.out, HD.out, hsl.out]; simp, hJ3, r1.kp hk4 m1, r2.kp hk4 m2, fun h => m1 (hk4.sub _ d1 h), fun h => m2 (hk4.sub _ d2 h), Nat.lt_of_lt_of_le hpw hk4.size, ⟨B, KpC.own how hk4 hAo⟩, fun g hg h => hAo g hg (hk4.sub _ (how.lt g hg).2 h)⟩
          case measure => simp [intOf]; omega
        · gi_wp2_with fail
          refine bodyPost_ret (results_none rfl _ _ _) rfl ?_
          exact ⟨⟨_, rfl⟩, .inr ⟨pre ++ [x], by rw [HS.out, HD.out, hsl.out]; exact ⟨_, by rw [List.append_assoc]; rfl⟩, hJx3⟩⟩
      by_cases hhi : Op.bytesLess x.key.toList to.toList = true
      · have hsl := Lib.hid (show (x :: cs.drop (k + 1)).filter (partP fr to) = x :: (cs.drop (k + 1)).filter (partP fr to) by rw [List.filter_cons, if_pos (by simp [partP, hlow, hhi])])
        obtain ⟨fn, tmps, assign, body, hy, hR⟩ := hY pre x _ hJ1 (by rw [HS.out, HD.out, hsl.out]; simp)
        gi_wp2_with fail
        refine hR.mono ?_
        rintro e W3 (⟨rfl, hJ3, hk3⟩ | ⟨rfl, hJx3⟩)
        · gi_wp2_with fail
          go_roundw
          case rel =>
            have hk4 := hka.trans hk3
            exact ⟨k + 1, pre ++ [x], by omega, by go_num, by rw [HS.out, HD.out, hsl.out]; simp, hJ3, r1.kp hk4 m1, r2.kp hk4 m2, fun h => m1 (hk4.sub _ d1 h), fun h => m2 (hk4.sub _ d2 h), Nat.lt_of_lt_of_le hpw hk4.size, ⟨B, KpC.own how hk4 hAo⟩, fun g hg h => hAo g hg (hk4.sub _ (how.lt g hg).2 h)⟩
          case measure => simp [intOf]; omega
        · gi_wp2_with fail
          refine bodyPost_ret (results_none rfl _ _ _) rfl ?_
          exact ⟨⟨_, rfl⟩, .inr ⟨pre ++ [x], by rw [HS.out, HD.out, hsl.out]; exact ⟨_, by rw [List.append_assoc]; rfl⟩, hJx3⟩⟩
      have hhi : Op.bytesLess x.key.toList to.toList = false := by simpa using hhi
      have hsl := Lib.hid (show (x :: cs.drop (k + 1)).filter (partP fr to) = (cs.drop (k + 1)).filter (partP fr to) by rw [List.filter_cons, if_neg (by simp [partP, hto, hhi])])
      gi_wp2_with fail
      refine ⟨fun _ h => (by cases h), ?_⟩
      gi_wp2_with fail
      go_roundw
      case rel =>
        exact ⟨k + 1, pre, by omega, by go_num, by rw [HS.out, HD.out, hsl.out], hJ1, r1.kp hka m1, r2.kp hka m2, fun h => m1 (hka.sub _ d1 h), fun h => m2 (hka.sub _ d2 h), Nat.lt_of_lt_of_le hpw hka.size, ⟨B, KpC.own how hka hAo⟩, fun g hg h => hAo g hg (hka.sub _ (how.lt g hg).2 h)⟩
      case measure => simp [intOf]; omega
    · obtain rfl : k = cs.length := by omega
      have HS := Lib.hid hsc
      clear hsc
      gi_wp2_with fail
      go_end0
      exact ⟨⟨_, rfl⟩, .inl ⟨pre, by rw [HS.out]; simp, hJr⟩⟩
end Go.Proofs.Ytbcaiegglbdonaa

namespace Go.Proofs.Ytbcaiegglbdonaa
open Go.RowKit Go.Shelf

/-- Of the pointer p Cells tells cs, as long as the blocks of F lie as they lay. -/
structure BTab (p : Value) (F : Nat → Prop) (cs : List Cell) (W : World) : Prop where
  calls : ∀ W', Only (fun k => ¬ F k) W W' → Calls Try.prog 43 #[p] W' (CellsPost W' cs)
  len : cs.length ≤ 2932031007402
  ptr : ∃ q, p = .pointer q
theorem BTab.only {p : Value} {F : Nat → Prop} {cs : List Cell} {W W' : World} (h : BTab p F cs W) (ho : Only (fun k => ¬ F k) W W') : BTab p F cs W' := ⟨fun W2 h2 => h.calls W2 (ho.trans h2), h.len, h.ptr⟩
theorem BTab.kept {p : Value} {F : Nat → Prop} {cs : List Cell} {W W' : World} (h : BTab p F cs W) (hb : Below W.heap.size W W') : BTab p F cs W' := h.only (Only.of_below hb)
theorem btab_stops (n : Nat) (hn : 1 ≤ n) {w : World} {X : Nat → Prop} {pb b0 b1 b2 : Nat} {p : Value} {F : Nat → Prop} {cs : List Cell} {fr to : ByteArray}
    (h0 : Blk w b0 #[p] 68) (h1 : Blk w b1 #[.string fr] 9) (h2 : Blk w b2 #[.string to] 9) (n1 : ¬ Sx X pb w b1) (n2 : ¬ Sx X pb w b2) (hS : ∀ b, Sx X pb w b → b < w.heap.size) (hpb : pb < w.heap.size) (hm : BTab p F cs w) :
    SeqStopsK Fence.wide n Try.prog 106 #[.pointer (some ⟨b0, 0, none⟩), .pointer (some ⟨b1, 0, none⟩), .pointer (some ⟨b2, 0, none⟩)] (fun x : Cell => #[.agg #[.string x.key, .int .u64 x.seq, .string x.val, .bool x.gone]]) (KpC X pb)
      (fun ys => ys = cs.filter (partP fr to)) (fun pre => pre <+: cs.filter (partP fr to)) (cs.filter (partP fr to)).length w := fun l J Jx W hW hJ _ hY hj0 => by
  have hk : KpC X pb w W := KpC.of_below hW hpb
  exact bscan_any n hn l X pb b0 b1 b2 p cs fr to J Jx W hJ hY (h0.kept hW) (h1.kept hW) (h2.kept hW) (fun h => n1 (hk.sub _ h1.lt h)) (fun h => n2 (hk.sub _ h2.lt h))
    (fun b hs => Nat.lt_of_lt_of_le (hS b (hs.imp id fun ⟨o, x, c, h⟩ => ⟨o, x, c, by rw [← hW.cell (p := ⟨pb, 0, none⟩) hpb]; exact h⟩)) hW.size) (Nat.lt_of_lt_of_le hpb hW.size) (hm.calls W (Only.of_below hW)) (by have := hm.len; omega) hm.ptr hj0
theorem range_cells6 {n : Nat} (h1 : 1 ≤ n) {p q : Nat} {g : Operand} {assign body : Code} {Q : Exit → Act → World → Prop} {a : Act} {w : World} {lb : Array Value}
    (hg : a.eval g = .func (.func 106) #[] lb) {X : Nat → Prop} {pb : Nat} {Z : List Cell}
    (hseq : SeqStopsK Fence.wide (n - 1) Try.prog 106 lb (fun x : Cell => #[.agg #[.string x.key, .int .u64 x.seq, .string x.val, .bool x.gone]]) (KpC X pb) (fun ys => ys = Z) (fun pre => pre <+: Z) Z.length w) (hpb : pb < w.heap.size)
    (I : List Cell → World → Prop) (Ix : Code → List Cell → World → Prop) (hI : OwnFrom w.heap.size I) (hIx : ∀ c, OwnFrom w.heap.size (Ix c)) (h0 : I [] w)
    (hassign : ∀ (l : Nat) (x : Cell) (W : World) (K : Act → World → Prop), K ⟨(a.tmps.setIfInBounds p (.agg (cellA x))).setIfInBounds q (.pointer (some ⟨W.heap.size, 0, none⟩)), []⟩ (W.alloc (.cells (cellA x) 25)) →
      assign.wpIn (Fence.wide.inRound l) (n - 1 - 1) Try.prog (Exit.then K (fun _ _ _ => False)) ⟨a.tmps.setIfInBounds p (.agg (cellA x)), []⟩ W)
    (hbody : ∀ (l : Nat) (pre : List Cell) (x : Cell) (Bx : Nat) (W : World), I pre W → Blk W Bx (cellA x) 25 → w.heap.size ≤ Bx → pre.length < Z.length →
      body.wpIn (Fence.wide.inRound l) (n - 1 - 1) Try.prog (ownPostG w.heap.size (KpC X pb) I Ix (pre ++ [x]) W) ⟨(a.tmps.setIfInBounds p (.agg (cellA x))).setIfInBounds q (.pointer (some ⟨Bx, 0, none⟩)), []⟩ W)
    (hdone : ∀ (D : Nat) (W : World), w.heap.size ≤ D → I Z W → W.heap[D]? = some (.deferred (some [])) → Q .normal { a with defers := { target := .collected D, args := #[] } :: a.defers } W)
    (hstop : ∀ (D : Nat) (c : Code) (pre : List Cell) (W : World), w.heap.size ≤ D → pre <+: Z → Ix c pre W → W.heap[D]? = some (.deferred (some [])) → c.wpIn Fence.wide n Try.prog Q { a with defers := { target := .collected D, args := #[] } :: a.defers } W)
    (hIs : ∀ pre W, I pre W → w.heap.size ≤ W.heap.size) :
    (Code.rangeFunc g #[p] assign body).wpIn Fence.wide n Try.prog Q a w := by
  refine wpIn_rangeFunc_ownH rfl h1 (gf := 106) hg trivial (enters_of Try.func106 (by kernel_rfl) rfl) hseq (fun h k => h.trans k) (fun W l o o' => kpC_b hpb W l o o') (Below.refl _ _) (fun _ => rfl) I Ix hI hIx h0
    (fun x a' W => ∃ Bx, Blk W Bx (cellA x) 25 ∧ w.heap.size ≤ Bx ∧ a' = ⟨(a.tmps.setIfInBounds p (.agg (cellA x))).setIfInBounds q (.pointer (some ⟨Bx, 0, none⟩)), []⟩) ?_ ?_ ?_ (fun D xs W hD he hi hk => ?_) (fun D c pre W hD hp hx hk => hstop D c pre W hD hp hx hk)
  · rintro x a' s A B row ⟨Bx, hb, hB, rfl⟩ hgr hrow
    refine ⟨Bx, (hgr.block Bx hb.lt (fun e => ?_)).trans hb, hB, rfl⟩
    obtain ⟨_, o, ho, hc⟩ := hrow Bx e.symm
    rw [show A.heap[Bx]? = _ from hb] at ho; cases ho; cases hc
  · intro l pre x W K hi hK
    have he : ((#[p] : Array Tmp).zip #[Value.agg #[Value.string x.key, Value.int IntKind.u64 x.seq, Value.string x.val, Value.bool x.gone]]).foldl (fun t (p, v) => t.setIfInBounds p v) a.tmps = a.tmps.setIfInBounds p (.agg (cellA x)) := by simp [cellA]
    rw [he]
    refine hassign l x W K (hK _ _ ((KeepsOthers.alloc _ _).from _) ?_ (hI.alloc _ hi) ⟨W.heap.size, Blk.new _ _ _, hIs pre W hi, rfl⟩)
    exact KpC.of_below ((Below.refl _ _).alloc (Nat.le_refl _) _) (Nat.lt_of_lt_of_le hpb (hIs pre W hi))
  · rintro l pre x a' W _ _ hi ⟨Bx, hb, hB, rfl⟩ hlt
    exact hbody l pre x Bx W hi hb hB hlt
  · subst he
    exact hdone D W hD hi hk
theorem range_meet6 {n : Nat} (h1 : 1 ≤ n) {p q : Nat} {g : Operand} {assign body : Code} {Q : Exit → Act → World → Prop} {a : Act} {w : World} {lb : Array Value}
    (hg : a.eval g = .func (.func 106) #[] lb) {X : Nat → Prop} {pb : Nat} {Z : List Cell}
    (hseq : SeqStopsK Fence.wide (n - 1) Try.prog 106 lb (fun x : Cell => #[.agg #[.string x.key, .int .u64 x.seq, .string x.val, .bool x.gone]]) (KpC X pb) (fun ys => ys = Z) (fun pre => pre <+: Z) Z.length w) (hpb : pb < w.heap.size)
    (I : List Cell → World → Prop) (Ix : Code → List Cell → World → Prop) (hI : OwnFrom w.heap.size I) (hIx : ∀ c, OwnFrom w.heap.size (Ix c)) (h0 : I [] w)
    (hassign : ∀ (l : Nat) (x : Cell) (W : World) (K : Act → World → Prop), K ⟨(a.tmps.setIfInBounds p (.agg (cellA x))).setIfInBounds q (.pointer (some ⟨W.heap.size, 0, none⟩)), []⟩ (W.alloc (.cells (cellA x) 25)) →
      assign.wpIn (Fence.wide.inRound l) (n - 1 - 1) Try.prog (Exit.then K (fun _ _ _ => False)) ⟨a.tmps.setIfInBounds p (.agg (cellA x)), []⟩ W)
    (hbody : ∀ (l : Nat) (pre : List Cell) (x : Cell) (Bx : Nat) (W : World), I pre W → Blk W Bx (cellA x) 25 → w.heap.size ≤ Bx → pre.length < Z.length →
      body.wpIn (Fence.wide.inRound l) (n - 1 - 1) Try.prog (ownPostG w.heap.size (KpC X pb) I Ix (pre ++ [x]) W) ⟨(a.tmps.setIfInBounds p (.agg (cellA x))).setIfInBounds q (.pointer (some ⟨Bx, 0, none⟩)), []⟩ W)
    (R : Nat → World → Prop) (id : Nat)
    (hdone : ∀ (D : Nat) (W : World), w.heap.size ≤ D → I Z W → W.heap[D]? = some (.deferred (some [])) → R D W)
    (hstop : ∀ (D : Nat) (c : Code) (pre : List Cell) (W : World), w.heap.size ≤ D → pre <+: Z → Ix c pre W → W.heap[D]? = some (.deferred (some [])) → c = .exit id ∧ R D W)
    (hIs : ∀ pre W, I pre W → w.heap.size ≤ W.heap.size) (hx : ∀ a w, Q .normal a w → Q (.exit id) a w)
    (meet : ∀ D W, R D W → Q .normal { a with defers := { target := .collected D, args := #[] } :: a.defers } W) :
    (Code.rangeFunc g #[p] assign body).wpIn Fence.wide n Try.prog Q a w :=
  range_cells6 h1 hg hseq hpb I Ix hI hIx h0 hassign hbody (fun D W hD hi hk => meet D W (hdone D W hD hi hk)) (fun D c pre W hD hp hi hk => by
    obtain ⟨rfl, hr⟩ := hstop D c pre W hD hp hi hk
    exact wpIn_exit (hx _ _ (meet D W hr))) hIs
end Go.Proofs.Ytbcaiegglbdonaa

namespace Go.Proofs.Ytbcaiegglbdonaa
open Go.RowKit Go.Shelf
attribute [local go_sem] Oper.semAt_some
set_option linter.unusedSimpArgs false

theorem func_eql6 (x y z : Value) (W : World) : (binOp .eql 38 (.func (.func 106) #[] #[x, y, z]) .nilFunc).run Try.prog W = .ok (.bool false) W := by kernel_rfl
set_option maxRecDepth 100000 in
theorem bgoes_result {tmps : Array Value} {b : Nat} {W : World} (hp : tmps.getD 6 undef = .pointer (some ⟨b, 0, none⟩)) (hc : Blk W b #[.bool true] 4) : (results Try.f35 tmps).run Try.prog W = .ok (.bool true) W := by
  have c0 : W.cell? ⟨b, 0, none⟩ = some (.bool true) := hc.cell 0 _ rfl
  have hr : Try.f35.results = #[.cell 6 4] := rfl
  have hp' : tmps[6]?.getD undef = .pointer (some ⟨b, 0, none⟩) := by simpa using hp
  simp only [results, hr]
  simp [hp', asAddr, loadVar, Sem.run_bind, Result.andThen]
  go_simp

set_option maxRecDepth 100000 in
set_option maxHeartbeats 4000000 in
theorem bgoes_spec {w : World} {p vw : Value} {F : Nat → Prop} {cs Z : List Cell} {b0 b1 b2 : Nat} {fr to : ByteArray} (stop : Int) (x0 : Blk w b0 #[p] 68) (x1 : Blk w b1 #[.string fr] 9) (x2 : Blk w b2 #[.string to] 9) (hT : BTab p F cs w)
    (hz : Z = cs.filter (partP fr to)) (hw : Reads w vw Z.length 4 (cellVals Z)) :
    Calls Try.prog 35 #[.func (.func 106) #[] #[.pointer (some ⟨b0, 0, none⟩), .pointer (some ⟨b1, 0, none⟩), .pointer (some ⟨b2, 0, none⟩)], vw, .int .i64 stop] w fun e w' => e = .returned (.bool true) ∧ Below w.heap.size w w' := by
  have fq := func_eql6
  obtain ⟨A, cap, rfl⟩ := hw.form
  have HW := Lib.hid hw
  have hzl : Z.length ≤ 2932031007402 := by rw [hz]; exact Nat.le_trans (List.length_filter_le _ _) hT.len
  have HZ := Lib.hid hz
  clear hw hz
  refine (callsIn_wide (n := 6)).1 ?_
  refine callsIn_of_wp_marks Try.func35 rfl trivial ?_ rfl
  simp only [Try.ntmps35, List.size_toArray, List.length_cons, List.length_nil, Nat.reduceAdd, Nat.reduceSub, Array.replicate_succ, Array.replicate_zero, List.push_toArray, List.append_toArray, List.nil_append, List.cons_append]
  gi_wp2_with fail
  obtain ⟨W0, hW0⟩ : ∃ W0, W0 = ((((w.alloc (.cells #[.slice A Z.length cap] 22)).alloc (.cells #[.int .i64 stop] 3)).alloc (.cells #[.bool false] 4)).alloc (.cells #[.int .i64 0] 3)) := ⟨_, rfl⟩
  have hk0 : Keep w [(w.heap.size + 1 + 1 + 1, #[.int .i64 0], 3), (w.heap.size, #[.slice A Z.length cap], 22), (w.heap.size + 1, #[.int .i64 stop], 3), (w.heap.size + 1 + 1, #[.bool false], 4)] [] W0 := by
    rw [hW0]
    refine ⟨fun x hx => ?_, (((((Below.refl _ _).alloc (Nat.le_refl _) _).alloc (by simp) _).alloc (by simp; omega) _).alloc (by simp; omega) _), fun D hD => by cases hD⟩
    simp only [List.mem_cons, List.not_mem_nil, or_false] at hx
    rcases hx with rfl | rfl | rfl | rfl
    · exact Blk.new' _ _ _ (by simp)
    · exact (((Blk.new _ _ _).alloc _).alloc _).alloc _
    · exact ((Blk.new' _ _ _ (by simp)).alloc _).alloc _
    · exact (Blk.new' _ _ _ (by simp)).alloc _
  rw [← hW0]
  clear hW0
  obtain ⟨b7, hb7⟩ : ∃ b7, b7 = w.heap.size + 1 + 1 + 1 := ⟨_, rfl⟩
  rw [← hb7] at hk0 ⊢
  have hge7 : w.heap.size + 2 < b7 := by omega
  clear hb7
  refine wpIn_loop_rounds 3 ?_
  rw [roundsIn_succ]
  have d7 := hk0.blk (b7, #[.int .i64 0], 3) (by simp)
  have c7 := d7.cell 0 _ rfl
  have l7 := d7.lt
  have hlt7 : w.heap.size + 2 < W0.heap.size := (hk0.blk (w.heap.size + 1 + 1, #[.bool false], 4) (by simp)).lt
  have hlt0 : ∀ x ∈ ([(b7, #[.int .i64 0], 3), (w.heap.size, #[.slice A Z.length cap], 22), (w.heap.size + 1, #[.int .i64 stop], 3), (w.heap.size + 1 + 1, #[.bool false], 4)] : List (Nat × Array Value × TypeId)), x.1 ≠ W0.heap.size := fun x hx e => by have := (hk0.blk x hx).lt; omega
  gi_wp2_with fail
  clear c7 l7 d7
  have hk1 : Keep w ((W0.heap.size, #[.int .i64 (([] : List Cell).length : Int)], 3) :: [(b7, #[.int .i64 0], 3), (w.heap.size, #[.slice A Z.length cap], 22), (w.heap.size + 1, #[.int .i64 stop], 3), (w.heap.size + 1 + 1, #[.bool false], 4)]) [] (W0.alloc (.cells #[.int .i64 0] 3)) := (hk0.kept ((Below.refl _ _).alloc (Nat.le_refl _) _)).add (Blk.new _ _ _)
  obtain ⟨b8, hb8⟩ : ∃ b8, b8 = W0.heap.size := ⟨_, rfl⟩
  obtain ⟨W1, hW1⟩ : ∃ W1, W1 = W0.alloc (.cells #[.int .i64 0] 3) := ⟨_, rfl⟩
  have hge8 : w.heap.size ≤ b8 := by rw [hb8]; exact hk0.below.size
  rw [← hb8] at hk1 hlt0
  rw [← hW1] at hk1
  rw [← hW1, ← hb8]
  have hgs : w.heap.size + 3 ≤ W1.heap.size := by have := hlt7; rw [hW1, World.size_alloc]; omega
  have hgw : W0.heap.size < W1.heap.size := by rw [hW1, World.size_alloc]; omega
  clear hb8 hW1 hk0 hlt7
  have e8 := hk1.blk (b8, #[.int .i64 (([] : List Cell).length : Int)], 3) (by simp)
  have nsx : ∀ b, Sx (fun k => k = b8) b8 W1 b → b = b8 := by
    rintro b (h | ⟨o, n, c, h⟩)
    · exact h
    · rw [e8.cell 0 _ rfl] at h; cases h
  have hseq := btab_stops 5 (by omega) (X := fun k => k = b8) (pb := b8) (x0.kept hk1.below) (x1.kept hk1.below) (x2.kept hk1.below) (fun h => by have := nsx _ h; have := x1.lt; omega) (fun h => by have := nsx _ h; have := x2.lt; omega) (fun b h => by rw [nsx b h]; exact e8.lt) e8.lt (hT.only (Only.of_below hk1.below))
  rw [← HZ.out] at hseq
  have hown : OwnFrom W1.heap.size (fun (pre : List Cell) W => Keep w ((b8, #[.int .i64 (pre.length : Int)], 3) :: [(b7, #[.int .i64 0], 3), (w.heap.size, #[.slice A Z.length cap], 22), (w.heap.size + 1, #[.int .i64 stop], 3), (w.heap.size + 1 + 1, #[.bool false], 4)]) [] W ∧ W1.heap.size ≤ W.heap.size) :=
    OwnFrom.and (keep_own (fun (pre : List Cell) => (b8, #[.int .i64 (pre.length : Int)], 3) :: [(b7, #[.int .i64 0], 3), (w.heap.size, #[.slice A Z.length cap], 22), (w.heap.size + 1, #[.int .i64 stop], 3), (w.heap.size + 1 + 1, #[.bool false], 4)]) hk1.below.size (fun D hD => (Array.getElem?_eq_some_iff.1 (hk1.marks D hD)).1)) (fun _ _ _ _ h hg _ => Nat.le_trans h hg.size)
  refine range_meet6 (p := 17) (q := 9) (by omega) rfl hseq e8.lt (fun pre W => Keep w ((b8, #[.int .i64 (pre.length : Int)], 3) :: [(b7, #[.int .i64 0], 3), (w.heap.size, #[.slice A Z.length cap], 22), (w.heap.size + 1, #[.int .i64 stop], 3), (w.heap.size + 1 + 1, #[.bool false], 4)]) [] W ∧ W1.heap.size ≤ W.heap.size)
    (fun c pre W => (c = .ret ∧ ¬ pre <+: Z) ∨ (c = .exit 2 ∧ (0 = 0) ∧ (pre.length : Int) = stop ∧ Keep w ((b8, #[.int .i64 (pre.length : Int)], 3) :: [(b7, #[.int .i64 0], 3), (w.heap.size, #[.slice A Z.length cap], 22), (w.heap.size + 1, #[.int .i64 stop], 3), (w.heap.size + 1 + 1, #[.bool false], 4)]) [] W ∧ W1.heap.size ≤ W.heap.size))
    hown (fun c s A B row hs hg hr => hs.imp id fun ⟨h1, h2, h3, h4⟩ => ⟨h1, h2, h3, hown s A B row h4 hg hr⟩) ⟨hk1, Nat.le_refl _⟩ ?assign ?body
    (fun Dn W => W1.heap.size ≤ Dn ∧ ∃ k : Nat, k ≤ Z.length ∧ (k = Z.length ∨ ((0 = 0) ∧ (k : Int) = stop)) ∧ Keep w ((b8, #[.int .i64 (k : Int)], 3) :: [(b7, #[.int .i64 0], 3), (w.heap.size, #[.slice A Z.length cap], 22), (w.heap.size + 1, #[.int .i64 stop], 3), (w.heap.size + 1 + 1, #[.bool false], 4)]) (Dn :: []) W) 2
    (fun D W hD hi hk => ⟨hD, Z.length, Nat.le_refl _, .inl rfl, hi.1.mark hk⟩)
    (fun D c pre W hD hp hi hk => by
      rcases hi with ⟨_, hn⟩ | ⟨rfl, h2, h3, h4, _⟩
      · exact absurd hp hn
      · exact ⟨rfl, hD, pre.length, hp.length_le, .inr ⟨h2, h3⟩, h4.mark hk⟩) (fun pre W h => h.2) (by intro a w h; simpa [Exit.inBlock] using h) ?meet
  case assign =>
    intro l x W K hK
    unfold cellA at hK ⊢
    simp only [List.setIfInBounds_toArray, List.set_cons_succ, List.set_cons_zero] at hK ⊢
    gi_wp2
    exact hK
  case body =>
    rintro l pre x Bx W ⟨hk, hsz⟩ hB _ hlt
    clear hseq hown e8 nsx hk1
    unfold cellA at hB ⊢
    simp only [List.setIfInBounds_toArray, List.set_cons_succ, List.set_cons_zero]
    obtain ⟨y0, y1, y2, y3⟩ := cell4 hB
    have hBl := hB.lt
    clear hB
    have g8 := hk.blk (b8, #[.int .i64 (pre.length : Int)], 3) (by simp)
    have g7 := hk.blk (b7, #[.int .i64 0], 3) (by simp)
    have gw := hk.blk (w.heap.size, #[.slice A Z.length cap], 22) (by simp)
    have gs := hk.blk (w.heap.size + 1, #[.int .i64 stop], 3) (by simp)
    have g6 := hk.blk (w.heap.size + 1 + 1, #[.bool false], 4) (by simp)
    have a1 := g8.cell 0 _ rfl
    have a2 := g8.lt
    have a3 := g8.frozen 0
    have a4 := g7.cell 0 _ rfl
    have a5 := g7.lt
    have a6 := gw.cell 0 _ rfl
    have a7 := gw.lt
    have a8 := gs.cell 0 _ rfl
    have a9 := gs.lt
    have a10 := g6.cell 0 _ rfl
    have a11 := g6.lt
    have a12 := g6.frozen 0
    have hn7 : b7 ≠ b8 := hlt0 (b7, #[.int .i64 0], 3) (by simp)
    have hns : w.heap.size + 1 ≠ b8 := hlt0 (w.heap.size + 1, #[.int .i64 stop], 3) (by simp)
    obtain ⟨z, hz⟩ : ∃ z, Z[pre.length]? = some z := ⟨_, List.getElem?_eq_getElem hlt⟩
    obtain ⟨b, o, hA, hbl, z0, z1, z2, z3⟩ := (HW.out.kept hk.below).cell_at hz
    subst hA
    have i0 : (0 : Int) ≤ (pre.length : Int) := by omega
    have i1 : (pre.length : Int) < (Z.length : Int) := by omega
    have i3 : ¬ (Z.length ≤ pre.length) := by omega
    have i4 : decide (Z.length ≤ pre.length) = false := by simp; omega
    have i2 : IntKind.i64.wrap ((pre.length : Int) + 1) = (pre.length : Int) + 1 := IntWalk.i64_in _ (by omega)
    have HZz := Lib.hid hz
    have hne := cell_neq x z
    clear hz g8 g7 gw gs g6
    by_cases hxz : x = z
    · have hb : decide (x = z) = true := by simp [hxz]
      rw [hb] at hne
      clear hb hxz
      gi_wp2_with fail
      have he : (((pre ++ [x]).length : Nat) : Int) = (pre.length : Int) + 1 := by simp
      have HE := Lib.hid he
      clear he
      by_cases hst : (pre.length : Int) + 1 = stop
      · have hsb : ((pre.length : Int) + 1 == stop) = true := by simpa using hst
        have HST := Lib.hid hst
        clear hst
        gi_wp2_with fail
        (refine region_quiet_round (F := Fence.wide) rfl (by kernel_rfl) (by kernel_rfl) (by kernel_rfl) ?_; (repeat (gi_big_quiet_step (fail))); refine wpQuietIn_nil ?_; intro _ hw'; obtain ⟨nq, hw''⟩ := hw'; subst hw'')
        have hkq := (hk.kept (below_drewN (Below.refl _ _) nq)).set (fun y hy => hlt0 y hy) hge8 (.int .i64 ((pre.length : Int) + 1))
        gi_wp2_with fail
        exact ⟨(((keeps_drewN W nq).trans (KeepsOthers.setCell _ _ _)).from _), .inr ⟨rfl, by simp, by rw [HE.out]; exact HST.out, by rw [HE.out]; exact hkq, by simpa using hsz⟩⟩
      · have hsb : ((pre.length : Int) + 1 == stop) = false := by simpa using hst
        clear hst
        gi_wp2_with fail
        (refine region_quiet_round (F := Fence.wide) rfl (by kernel_rfl) (by kernel_rfl) (by kernel_rfl) ?_; (repeat (gi_big_quiet_step (fail))); refine wpQuietIn_nil ?_; intro _ hw'; obtain ⟨nq, hw''⟩ := hw'; subst hw'')
        have hkq := (hk.kept (below_drewN (Below.refl _ _) nq)).set (fun y hy => hlt0 y hy) hge8 (.int .i64 ((pre.length : Int) + 1))
        have hkp : KpC (fun k => k = b8) b8 W ((W.drewN nq).setCell ⟨b8, 0, none⟩ (.int .i64 ((pre.length : Int) + 1))) :=
          (KpC.of_below (below_drewN (Below.refl _ _) nq) a2).trans (KpC.setInt (X := fun k => k = b8) (b := b8) rfl _ _ ((hk.blk (b8, #[.int .i64 (pre.length : Int)], 3) (by simp)).kept (below_drewN (Below.refl _ _) nq)))
        gi_wp2_with fail
        exact ⟨(((keeps_drewN W nq).trans (KeepsOthers.setCell _ _ _)).from _), hkp, by rw [HE.out]; exact hkq, by simpa using hsz⟩
    · have hb : decide (x = z) = false := by simp [hxz]
      rw [hb] at hne
      have hnp : ¬ (pre ++ [x]) <+: Z := by
        rintro ⟨t, ht⟩
        have h1 := HZz.out
        rw [← ht] at h1
        simp at h1
        exact hxz h1
      have HNP := Lib.hid hnp
      clear hb hxz hnp
      gi_wp2_with fail
      (refine region_quiet_round (F := Fence.wide) rfl (by kernel_rfl) (by kernel_rfl) (by kernel_rfl) ?_; (repeat (gi_big_quiet_step (fail))); refine wpQuietIn_nil ?_; intro _ hw'; obtain ⟨nq, hw''⟩ := hw'; subst hw'')
      gi_wp2_with fail
      exact ⟨(((keeps_drewN W nq).trans (KeepsOthers.setCell _ _ _)).from _), .inl ⟨rfl, HNP.out⟩⟩
  case meet =>
    rintro D W ⟨hD, k, hkZ, hor, hk⟩
    have hk1s := Nat.le_trans hgs hD
    clear hseq hown e8 nsx hk1
    have g8 := hk.blk (b8, #[.int .i64 (k : Int)], 3) (by simp)
    have g7 := hk.blk (b7, #[.int .i64 0], 3) (by simp)
    have gw := hk.blk (w.heap.size, #[.slice A Z.length cap], 22) (by simp)
    have gs := hk.blk (w.heap.size + 1, #[.int .i64 stop], 3) (by simp)
    have g6 := hk.blk (w.heap.size + 1 + 1, #[.bool false], 4) (by simp)
    have a1 := g8.cell 0 _ rfl
    have a2 := g8.lt
    have a4 := g7.cell 0 _ rfl
    have a5 := g7.lt
    have a6 := gw.cell 0 _ rfl
    have a7 := gw.lt
    have a8 := gs.cell 0 _ rfl
    have a9 := gs.lt
    have a10 := g6.cell 0 _ rfl
    have a11 := g6.lt
    clear g8 g7 gw gs g6
    gi_upto_region 13 with fail
    gi_cut [51] from 39 (fun v wx => wx = W ∧ v = .bool false)
    case first =>
      by_cases hkz : k = Z.length
      · subst hkz
        gi_wp2_with fail
        gi_meet
        exact ⟨rfl, rfl⟩
      · obtain ⟨_, hks⟩ := hor.resolve_left hkz
        have m1 : ((k : Int) != (Z.length : Int)) = true := by simp; omega
        have m2 : ((k : Int) != stop) = false := by simp [hks]
        clear hks hkz
        gi_wp2_with fail
        gi_meet
        exact ⟨rfl, rfl⟩
    case rest =>
      obtain ⟨rfl, rfl⟩ := hcut
      gi_wp2_with fail
      obtain ⟨b7', hb7⟩ : ∃ b7', b7' = wc.heap.size := ⟨_, rfl⟩
      have hk0 : Keep w [(b7', #[.int .i64 1], 3), (w.heap.size, #[.slice A Z.length cap], 22), (w.heap.size + 1, #[.int .i64 stop], 3), (w.heap.size + 1 + 1, #[.bool false], 4)] [D] (wc.alloc (.cells #[.int .i64 1] 3)) := ((hk.kept ((Below.refl _ _).alloc (Nat.le_refl _) _)).less (fun y hy => List.mem_cons_of_mem _ (List.mem_cons_of_mem _ hy))).add (by rw [hb7]; exact Blk.new _ _ _)
      obtain ⟨W2, hW2⟩ : ∃ W2, W2 = wc.alloc (.cells #[.int .i64 1] 3) := ⟨_, rfl⟩
      rw [← hW2] at hk0
      rw [← hW2, ← hb7]
      have hge9 : w.heap.size + 2 < D := by have := hk1s; omega
      have hlD : D < W2.heap.size := (Array.getElem?_eq_some_iff.1 (hk0.marks D (by simp))).1
      clear hb7 hW2 hk hor hkZ a1 a2 a4 a5 a6 a7 a8 a9 a10 a11 hlt0 hge8 hD hgw hgs hk1s
      rw [roundsIn_succ]
      have d7 := hk0.blk (b7', #[.int .i64 1], 3) (by simp)
      have c7 := d7.cell 0 _ rfl
      have l7 := d7.lt
      have hlt7 : w.heap.size + 2 < W2.heap.size := (hk0.blk (w.heap.size + 1 + 1, #[.bool false], 4) (by simp)).lt
      have hlt0 : ∀ x ∈ ([(b7', #[.int .i64 1], 3), (w.heap.size, #[.slice A Z.length cap], 22), (w.heap.size + 1, #[.int .i64 stop], 3), (w.heap.size + 1 + 1, #[.bool false], 4)] : List (Nat × Array Value × TypeId)), x.1 ≠ W2.heap.size := fun x hx e => by have := (hk0.blk x hx).lt; omega
      gi_wp2_with fail
      clear c7 l7 d7
      have hk1 : Keep w ((W2.heap.size, #[.int .i64 (([] : List Cell).length : Int)], 3) :: [(b7', #[.int .i64 1], 3), (w.heap.size, #[.slice A Z.length cap], 22), (w.heap.size + 1, #[.int .i64 stop], 3), (w.heap.size + 1 + 1, #[.bool false], 4)]) [D] (W2.alloc (.cells #[.int .i64 0] 3)) := (hk0.kept ((Below.refl _ _).alloc (Nat.le_refl _) _)).add (Blk.new _ _ _)
      obtain ⟨b8, hb8⟩ : ∃ b8, b8 = W2.heap.size := ⟨_, rfl⟩
      obtain ⟨W1, hW1⟩ : ∃ W1, W1 = W2.alloc (.cells #[.int .i64 0] 3) := ⟨_, rfl⟩
      have hge8 : w.heap.size ≤ b8 := by rw [hb8]; exact hk0.below.size
      rw [← hb8] at hk1 hlt0
      rw [← hW1] at hk1
      rw [← hW1, ← hb8]
      have hgs : w.heap.size + 3 ≤ W1.heap.size := by have := hlt7; rw [hW1, World.size_alloc]; omega
      have hgw : W2.heap.size < W1.heap.size := by rw [hW1, World.size_alloc]; omega
      clear hb8 hW1 hk0 hlt7
      have e8 := hk1.blk (b8, #[.int .i64 (([] : List Cell).length : Int)], 3) (by simp)
      have nsx : ∀ b, Sx (fun k => k = b8) b8 W1 b → b = b8 := by
        rintro b (h | ⟨o, n, c, h⟩)
        · exact h
        · rw [e8.cell 0 _ rfl] at h; cases h
      have hseq := btab_stops 5 (by omega) (X := fun k => k = b8) (pb := b8) (x0.kept hk1.below) (x1.kept hk1.below) (x2.kept hk1.below) (fun h => by have := nsx _ h; have := x1.lt; omega) (fun h => by have := nsx _ h; have := x2.lt; omega) (fun b h => by rw [nsx b h]; exact e8.lt) e8.lt (hT.only (Only.of_below hk1.below))
      rw [← HZ.out] at hseq
      have hown : OwnFrom W1.heap.size (fun (pre : List Cell) W => Keep w ((b8, #[.int .i64 (pre.length : Int)], 3) :: [(b7', #[.int .i64 1], 3), (w.heap.size, #[.slice A Z.length cap], 22), (w.heap.size + 1, #[.int .i64 stop], 3), (w.heap.size + 1 + 1, #[.bool false], 4)]) [D] W ∧ W1.heap.size ≤ W.heap.size) :=
        OwnFrom.and (keep_own (fun (pre : List Cell) => (b8, #[.int .i64 (pre.length : Int)], 3) :: [(b7', #[.int .i64 1], 3), (w.heap.size, #[.slice A Z.length cap], 22), (w.heap.size + 1, #[.int .i64 stop], 3), (w.heap.size + 1 + 1, #[.bool false], 4)]) hk1.below.size (fun D hD => (Array.getElem?_eq_some_iff.1 (hk1.marks D hD)).1)) (fun _ _ _ _ h hg _ => Nat.le_trans h hg.size)
      refine range_meet6 (p := 17) (q := 9) (by omega) rfl hseq e8.lt (fun pre W => Keep w ((b8, #[.int .i64 (pre.length : Int)], 3) :: [(b7', #[.int .i64 1], 3), (w.heap.size, #[.slice A Z.length cap], 22), (w.heap.size + 1, #[.int .i64 stop], 3), (w.heap.size + 1 + 1, #[.bool false], 4)]) [D] W ∧ W1.heap.size ≤ W.heap.size)
        (fun c pre W => (c = .ret ∧ ¬ pre <+: Z) ∨ (c = .exit 2 ∧ (1 = 0) ∧ (pre.length : Int) = stop ∧ Keep w ((b8, #[.int .i64 (pre.length : Int)], 3) :: [(b7', #[.int .i64 1], 3), (w.heap.size, #[.slice A Z.length cap], 22), (w.heap.size + 1, #[.int .i64 stop], 3), (w.heap.size + 1 + 1, #[.bool false], 4)]) [D] W ∧ W1.heap.size ≤ W.heap.size))
        hown (fun c s A B row hs hg hr => hs.imp id fun ⟨h1, h2, h3, h4⟩ => ⟨h1, h2, h3, hown s A B row h4 hg hr⟩) ⟨hk1, Nat.le_refl _⟩ ?assign ?body
        (fun Dn W => W1.heap.size ≤ Dn ∧ ∃ k : Nat, k ≤ Z.length ∧ (k = Z.length ∨ ((1 = 0) ∧ (k : Int) = stop)) ∧ Keep w ((b8, #[.int .i64 (k : Int)], 3) :: [(b7', #[.int .i64 1], 3), (w.heap.size, #[.slice A Z.length cap], 22), (w.heap.size + 1, #[.int .i64 stop], 3), (w.heap.size + 1 + 1, #[.bool false], 4)]) (Dn :: [D]) W) 2
        (fun D W hD hi hk => ⟨hD, Z.length, Nat.le_refl _, .inl rfl, hi.1.mark hk⟩)
        (fun D c pre W hD hp hi hk => by
          rcases hi with ⟨_, hn⟩ | ⟨rfl, h2, h3, h4, _⟩
          · exact absurd hp hn
          · exact ⟨rfl, hD, pre.length, hp.length_le, .inr ⟨h2, h3⟩, h4.mark hk⟩) (fun pre W h => h.2) (by intro a w h; simpa [Exit.inBlock] using h) ?meet
      case assign =>
        intro l x W K hK
        unfold cellA at hK ⊢
        simp only [List.setIfInBounds_toArray, List.set_cons_succ, List.set_cons_zero] at hK ⊢
        gi_wp2
        exact hK
      case body =>
        rintro l pre x Bx W ⟨hk, hsz⟩ hB _ hlt
        clear hseq hown e8 nsx hk1
        unfold cellA at hB ⊢
        simp only [List.setIfInBounds_toArray, List.set_cons_succ, List.set_cons_zero]
        obtain ⟨y0, y1, y2, y3⟩ := cell4 hB
        have hBl := hB.lt
        clear hB
        have g8 := hk.blk (b8, #[.int .i64 (pre.length : Int)], 3) (by simp)
        have g7 := hk.blk (b7', #[.int .i64 1], 3) (by simp)
        have gw := hk.blk (w.heap.size, #[.slice A Z.length cap], 22) (by simp)
        have gs := hk.blk (w.heap.size + 1, #[.int .i64 stop], 3) (by simp)
        have g6 := hk.blk (w.heap.size + 1 + 1, #[.bool false], 4) (by simp)
        have a1 := g8.cell 0 _ rfl
        have a2 := g8.lt
        have a3 := g8.frozen 0
        have a4 := g7.cell 0 _ rfl
        have a5 := g7.lt
        have a6 := gw.cell 0 _ rfl
        have a7 := gw.lt
        have a8 := gs.cell 0 _ rfl
        have a9 := gs.lt
        have a10 := g6.cell 0 _ rfl
        have a11 := g6.lt
        have a12 := g6.frozen 0
        have hn7 : b7' ≠ b8 := hlt0 (b7', #[.int .i64 1], 3) (by simp)
        have hns : w.heap.size + 1 ≠ b8 := hlt0 (w.heap.size + 1, #[.int .i64 stop], 3) (by simp)
        obtain ⟨z, hz⟩ : ∃ z, Z[pre.length]? = some z := ⟨_, List.getElem?_eq_getElem hlt⟩
        obtain ⟨b, o, hA, hbl, z0, z1, z2, z3⟩ := (HW.out.kept hk.below).cell_at hz
        subst hA
        have i0 : (0 : Int) ≤ (pre.length : Int) := by omega
        have i1 : (pre.length : Int) < (Z.length : Int) := by omega
        have i3 : ¬ (Z.length ≤ pre.length) := by omega
        have i4 : decide (Z.length ≤ pre.length) = false := by simp; omega
        have i2 : IntKind.i64.wrap ((pre.length : Int) + 1) = (pre.length : Int) + 1 := IntWalk.i64_in _ (by omega)
        have HZz := Lib.hid hz
        have hne := cell_neq x z
        clear hz g8 g7 gw gs g6
        by_cases hxz : x = z
        · have hb : decide (x = z) = true := by simp [hxz]
          rw [hb] at hne
          clear hb hxz
          gi_wp2_with fail
          have he : (((pre ++ [x]).length : Nat) : Int) = (pre.length : Int) + 1 := by simp
          have HE := Lib.hid he
          clear he
          gi_wp2_with fail
          (refine region_quiet_round (F := Fence.wide) rfl (by kernel_rfl) (by kernel_rfl) (by kernel_rfl) ?_; (repeat (gi_big_quiet_step (fail))); refine wpQuietIn_nil ?_; intro _ hw'; obtain ⟨nq, hw''⟩ := hw'; subst hw'')
          have hkq := (hk.kept (below_drewN (Below.refl _ _) nq)).set (fun y hy => hlt0 y hy) hge8 (.int .i64 ((pre.length : Int) + 1))
          have hkp : KpC (fun k => k = b8) b8 W ((W.drewN nq).setCell ⟨b8, 0, none⟩ (.int .i64 ((pre.length : Int) + 1))) :=
            (KpC.of_below (below_drewN (Below.refl _ _) nq) a2).trans (KpC.setInt (X := fun k => k = b8) (b := b8) rfl _ _ ((hk.blk (b8, #[.int .i64 (pre.length : Int)], 3) (by simp)).kept (below_drewN (Below.refl _ _) nq)))
          gi_wp2_with fail
          exact ⟨(((keeps_drewN W nq).trans (KeepsOthers.setCell _ _ _)).from _), hkp, by rw [HE.out]; exact hkq, by simpa using hsz⟩
        · have hb : decide (x = z) = false := by simp [hxz]
          rw [hb] at hne
          have hnp : ¬ (pre ++ [x]) <+: Z := by
            rintro ⟨t, ht⟩
            have h1 := HZz.out
            rw [← ht] at h1
            simp at h1
            exact hxz h1
          have HNP := Lib.hid hnp
          clear hb hxz hnp
          gi_wp2_with fail
          (refine region_quiet_round (F := Fence.wide) rfl (by kernel_rfl) (by kernel_rfl) (by kernel_rfl) ?_; (repeat (gi_big_quiet_step (fail))); refine wpQuietIn_nil ?_; intro _ hw'; obtain ⟨nq, hw''⟩ := hw'; subst hw'')
          gi_wp2_with fail
          exact ⟨(((keeps_drewN W nq).trans (KeepsOthers.setCell _ _ _)).from _), .inl ⟨rfl, HNP.out⟩⟩
      case meet =>
        rintro D2 W ⟨hD, k, hkZ, hor, hk⟩
        have hk1s := Nat.le_trans hgs hD
        clear hseq hown e8 nsx hk1
        have g8 := hk.blk (b8, #[.int .i64 (k : Int)], 3) (by simp)
        have g7 := hk.blk (b7', #[.int .i64 1], 3) (by simp)
        have gw := hk.blk (w.heap.size, #[.slice A Z.length cap], 22) (by simp)
        have gs := hk.blk (w.heap.size + 1, #[.int .i64 stop], 3) (by simp)
        have g6 := hk.blk (w.heap.size + 1 + 1, #[.bool false], 4) (by simp)
        have a1 := g8.cell 0 _ rfl
        have a2 := g8.lt
        have a4 := g7.cell 0 _ rfl
        have a5 := g7.lt
        have a6 := gw.cell 0 _ rfl
        have a7 := gw.lt
        have a8 := gs.cell 0 _ rfl
        have a9 := gs.lt
        have a10 := g6.cell 0 _ rfl
        have a11 := g6.lt
        clear g8 g7 gw gs g6
        gi_upto_region 13 with fail
        gi_cut [51] from 39 (fun v wx => wx = W ∧ v = .bool false)
        case first =>
          by_cases hkz : k = Z.length
          · subst hkz
            gi_wp2_with fail
            gi_meet
            exact ⟨rfl, rfl⟩
          · exact absurd (hor.resolve_left hkz).1 (by decide)
        case rest =>
          obtain ⟨rfl, rfl⟩ := hcut
          gi_wp2_with fail
          rw [roundsIn_succ]
          have g7 := (hk.kept ((Below.refl _ _).alloc (Nat.le_refl _) (.cells #[.int .i64 2] 3)))
          have g6 := g7.blk (w.heap.size + 1 + 1, #[.bool false], 4) (by simp)
          have f1 := g6.lt
          have f2 := g6.frozen 0
          have f3 := g6.cell 0 _ rfl
          have hkF := ((hk.less (Bs' := [(w.heap.size + 1 + 1, #[.bool false], 4)]) (by simp)).set (by simp) (by omega) (.bool true)).kept ((Below.refl _ _).alloc (Nat.le_refl _) (.cells #[.int .i64 2] 3))
          gi_wp2_with fail
          refine leaves_marks (B := w.heap.size + 3) [D2, D] _ ?_ ?_ ?_ (fun W' hb => ⟨_, bgoes_result (b := w.heap.size + 1 + 1) rfl ((hkF.blk (w.heap.size + 1 + 1, #[.bool true], 4) (by simp)).below hb (by omega)), rfl, hkF.below.trans (hb.mono (by omega))⟩)
          · simp; omega
          · intro d hd
            refine ⟨hkF.marks d hd, ?_⟩
            simp at hd
            rcases hd with rfl | rfl <;> omega
          · have := (hkF.blk (w.heap.size + 1 + 1, #[.bool true], 4) (by simp)).lt
            omega

end Go.Proofs.Ytbcaiegglbdonaa
