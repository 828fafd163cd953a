/-
  What Scan's iterator goes over, for whatever value Cells answers of; blocks that a loop over an iterator keeps.
-/
import Derived.Test.YtbcaiegglbdonaaMemCol
import Derived.Test.YtbcaiegglbdonaaRound
namespace Go.Proofs.Ytbcaiegglbdonaa
open Go.RowKit Go.Shelf

/-- Of the pointer p Cells tells cs, as long as the blocks of F lie as they lay. -/
structure Tab (p : Value) (F : Nat → Prop) (cs : List Cell) (W : World) : Prop where
  calls : ∀ W', Only (fun k => ¬ F k) W W' → Calls Try.prog 24 #[p] W' (CellsPost W' cs)
  len : cs.length ≤ 2932031007402
  ptr : ∃ q, p = .pointer q
theorem Tab.only {p : Value} {F : Nat → Prop} {cs : List Cell} {W W' : World} (h : Tab p F cs W) (ho : Only (fun k => ¬ F k) W W') : Tab p F cs W' := ⟨fun W2 h2 => h.calls W2 (ho.trans h2), h.len, h.ptr⟩
theorem Tab.kept {p : Value} {F : Nat → Prop} {cs : List Cell} {W W' : World} (h : Tab p F cs W) (hb : Below W.heap.size W W') : Tab p F cs W' := h.only (Only.of_below hb)
theorem MemIs.tab {w : World} {a : Nat} {F : Nat → Prop} {M : MM} (h : MemIs w a F M) (hl : M.length * 48 ≤ 140737488355328) : Tab (.pointer (some ⟨a, 0, none⟩)) F (M.map (·.1)) w :=
  ⟨fun _ ho => cells_model (h.only ho fun _ hk hn => hn hk) hl, by rw [List.length_map]; omega, ⟨_, rfl⟩⟩
theorem tab_stops (n : Nat) (hn : 1 ≤ n) {w : World} {X : Nat → Prop} {pb b0 b1 b2 : Nat} {p : Value} {F : Nat → Prop} {cs : List Cell} {fr to : ByteArray}
    (h0 : Blk w b0 #[p] 26) (h1 : Blk w b1 #[.string fr] 9) (h2 : Blk w b2 #[.string to] 9) (n1 : ¬ Sx X pb w b1) (n2 : ¬ Sx X pb w b2) (hS : ∀ b, Sx X pb w b → b < w.heap.size) (hpb : pb < w.heap.size) (hm : Tab p F cs w) :
    SeqStopsK Fence.wide n Try.prog 77 #[.pointer (some ⟨b0, 0, none⟩), .pointer (some ⟨b1, 0, none⟩), .pointer (some ⟨b2, 0, none⟩)] (fun x : Cell => #[.agg #[.string x.key, .int .u64 x.seq, .string x.val, .bool x.gone]]) (KpC X pb)
      (fun ys => ys = scanL fr to cs) (fun pre => pre <+: scanL fr to cs) (scanL fr to cs).length w := fun l J Jx W hW hJ _ hY hj0 => by
  have hk : KpC X pb w W := KpC.of_below hW hpb
  exact scan1_any n hn l X pb b0 b1 b2 p cs fr to J Jx W hJ hY (h0.kept hW) (h1.kept hW) (h2.kept hW) (fun h => n1 (hk.sub _ h1.lt h)) (fun h => n2 (hk.sub _ h2.lt h))
    (fun b hs => Nat.lt_of_lt_of_le (hS b (hs.imp id fun ⟨o, x, c, h⟩ => ⟨o, x, c, by rw [← hW.cell (p := ⟨pb, 0, none⟩) hpb]; exact h⟩)) hW.size) (Nat.lt_of_lt_of_le hpb hW.size) (hm.calls W (Only.of_below hW)) (by have := hm.len; omega) hm.ptr hj0

/-- Blocks known whole, the memory that was there, the marks of the loops before. -/
structure Keep (w0 : World) (Bs : List (Nat × Array Value × TypeId)) (Ds : List Nat) (W : World) : Prop where
  blk : ∀ x ∈ Bs, Blk W x.1 x.2.1 x.2.2
  below : Below w0.heap.size w0 W
  marks : ∀ D ∈ Ds, W.heap[D]? = some (.deferred (some []))
theorem keep_own {β : Type} {w0 : World} {B : Nat} (Bs : β → List (Nat × Array Value × TypeId)) {Ds : List Nat} (hB : w0.heap.size ≤ B) (hD : ∀ D ∈ Ds, D < B) : OwnFrom B (fun s W => Keep w0 (Bs s) Ds W) := by
  rintro s X Y row ⟨h1, h2, h3⟩ hg hrow
  refine ⟨fun x hx => (hg.block x.1 (h1 x hx).lt (fun e => ?_)).trans (h1 x hx), h2.grown hg h2.size (fun k e => Nat.le_trans hB (hrow k e).1), fun D hd => (hg.block D (Array.getElem?_eq_some_iff.1 (h3 D hd)).1 (fun e => ?_)).trans (h3 D hd)⟩
  · obtain ⟨_, o, ho, hc⟩ := hrow x.1 e.symm
    rw [show X.heap[x.1]? = _ from h1 x hx] at ho; cases ho; cases hc
  · have := (hrow D e.symm).1; have := hD D hd; omega
theorem Keep.kept {w0 W W' : World} {Bs : List (Nat × Array Value × TypeId)} {Ds : List Nat} (h : Keep w0 Bs Ds W) (hb : Below W.heap.size W W') : Keep w0 Bs Ds W' :=
  ⟨fun x hx => (h.blk x hx).kept hb, h.below.trans (hb.mono h.below.size), fun D hd => (hb.block D (Array.getElem?_eq_some_iff.1 (h.marks D hd)).1).trans (h.marks D hd)⟩
theorem Keep.less {w0 W : World} {Bs Bs' : List (Nat × Array Value × TypeId)} {Ds : List Nat} (h : Keep w0 Bs Ds W) (hs : ∀ x ∈ Bs', x ∈ Bs) : Keep w0 Bs' Ds W := ⟨fun x hx => h.blk x (hs x hx), h.below, h.marks⟩
theorem Keep.mark {w0 W : World} {Bs : List (Nat × Array Value × TypeId)} {Ds : List Nat} {D : Nat} (h : Keep w0 Bs Ds W) (hk : W.heap[D]? = some (.deferred (some []))) : Keep w0 Bs (D :: Ds) W :=
  ⟨h.blk, h.below, fun D' hD => by rcases List.mem_cons.1 hD with rfl | hD; exact hk; exact h.marks _ hD⟩
theorem Keep.add {w0 W : World} {Bs : List (Nat × Array Value × TypeId)} {Ds : List Nat} (h : Keep w0 Bs Ds W) {b : Nat} {arr : Array Value} {t : TypeId} (hb : Blk W b arr t) : Keep w0 ((b, arr, t) :: Bs) Ds W :=
  ⟨fun x hx => by rcases List.mem_cons.1 hx with rfl | hx; exact hb; exact h.blk x hx, h.below, h.marks⟩
/-- A store into a box that stands first. -/
theorem Keep.set {w0 W : World} {Bs : List (Nat × Array Value × TypeId)} {Ds : List Nat} {b : Nat} {v : Value} {t : TypeId} (h : Keep w0 ((b, #[v], t) :: Bs) Ds W) (hn : ∀ x ∈ Bs, x.1 ≠ b) (hb : w0.heap.size ≤ b) (v' : Value) :
    Keep w0 ((b, #[v'], t) :: Bs) Ds (W.setCell ⟨b, 0, none⟩ v') := by
  have hbB := h.blk _ (by simp : (b, #[v], t) ∈ _)
  refine ⟨fun x hx => ?_, h.below.setCell (p := ⟨b, 0, none⟩) hb v', fun D hd => (Below.heap_setCell _ _ _ _ (fun e => ?_)).trans (h.marks D hd)⟩
  · rcases List.mem_cons.1 hx with rfl | hx
    · exact hbB.setCell 0 v'
    · exact (h.blk x (by simp [hx])).setCell_ne (hn x hx) 0 v'
  · subst e
    have h1 := h.marks D hd
    rw [show W.heap[D]? = _ from hbB] at h1
    cases h1
theorem KpC.setInt {X : Nat → Prop} {W : World} {b : Nat} (hX : X b) (x : Int) (k : IntKind) {v : Value} {t : TypeId} (hb : Blk W b #[v] t) : KpC X b W (W.setCell ⟨b, 0, none⟩ (.int k x)) := by
  refine ⟨by simp, fun b' o hn h _ => (Below.heap_setCell _ _ _ _ (fun e => hn (.inl (by rw [show b' = b from e]; exact hX)))).trans h, fun b' _ hs => hs.imp id ?_⟩
  rintro ⟨o, n, c, h⟩
  rw [(hb.setCell 0 (.int k x)).cell 0 (.int k x) (by simp)] at h
  cases h
theorem keeps_drewN (W : World) (n : Nat) : KeepsOthers W (W.drewN n) := ⟨Nat.le_refl _, fun _ _ h _ => h⟩
/-- The two ways out of a loop over an iterator meet. -/
theorem wpIn_cutD {F : Fence} {n : Nat} {P : Program} {s : Code} {K : Act → World → Prop} {Q' : Exit → Act → World → Prop} {a : Act} {w : World} (R : Nat → World → Prop)
    (first : s.wpIn F n P (Exit.then (fun a' w' => ∃ D, a' = { a with defers := { target := .collected D, args := #[] } :: a.defers } ∧ R D w') Q') a w)
    (rest : ∀ D w', R D w' → K { a with defers := { target := .collected D, args := #[] } :: a.defers } w') : s.wpIn F n P (Exit.then K Q') a w := by
  refine wpIn_mono first ?_
  intro e a' w' hq
  cases e with
  | normal => obtain ⟨D, rfl, h⟩ := hq; exact rest D w' h
  | exit id => exact hq
  | goto l => exact hq
  | ret => exact hq
  | panic ch => exact hq
  | outgrown => exact hq

/-- A loop over the iterator whose two ways out meet. -/
theorem range_meet {n : Nat} (h1 : 1 ≤ n) {p q : Nat} {g : Operand} {assign body : Code} {Q : Exit → Act → World → Prop} {a : Act} {w : World} {lb : Array Value}
    (hg : a.eval g = .func (.func 77) #[] lb) {X : Nat → Prop} {pb : Nat} {Z : List Cell}
    (hseq : SeqStopsK Fence.wide (n - 1) Try.prog 77 lb (fun x : Cell => #[.agg #[.string x.key, .int .u64 x.seq, .string x.val, .bool x.gone]]) (KpC X pb) (fun ys => ys = Z) (fun pre => pre <+: Z) Z.length w) (hpb : pb < w.heap.size)
    (I : List Cell → World → Prop) (Ix : Code → List Cell → World → Prop) (hI : OwnFrom w.heap.size I) (hIx : ∀ c, OwnFrom w.heap.size (Ix c)) (h0 : I [] w)
    (hassign : ∀ (l : Nat) (x : Cell) (W : World) (K : Act → World → Prop), K ⟨(a.tmps.setIfInBounds p (.agg (cellA x))).setIfInBounds q (.pointer (some ⟨W.heap.size, 0, none⟩)), []⟩ (W.alloc (.cells (cellA x) 25)) →
      assign.wpIn (Fence.wide.inRound l) (n - 1 - 1) Try.prog (Exit.then K (fun _ _ _ => False)) ⟨a.tmps.setIfInBounds p (.agg (cellA x)), []⟩ W)
    (hbody : ∀ (l : Nat) (pre : List Cell) (x : Cell) (Bx : Nat) (W : World), I pre W → Blk W Bx (cellA x) 25 → w.heap.size ≤ Bx → pre.length < Z.length →
      body.wpIn (Fence.wide.inRound l) (n - 1 - 1) Try.prog (ownPostG w.heap.size (KpC X pb) I Ix (pre ++ [x]) W) ⟨(a.tmps.setIfInBounds p (.agg (cellA x))).setIfInBounds q (.pointer (some ⟨Bx, 0, none⟩)), []⟩ W)
    (R : Nat → World → Prop) (id : Nat)
    (hdone : ∀ (D : Nat) (W : World), w.heap.size ≤ D → I Z W → W.heap[D]? = some (.deferred (some [])) → R D W)
    (hstop : ∀ (D : Nat) (c : Code) (pre : List Cell) (W : World), w.heap.size ≤ D → pre <+: Z → Ix c pre W → W.heap[D]? = some (.deferred (some [])) → c = .exit id ∧ R D W)
    (hIs : ∀ pre W, I pre W → w.heap.size ≤ W.heap.size) (hx : ∀ a w, Q .normal a w → Q (.exit id) a w)
    (meet : ∀ D W, R D W → Q .normal { a with defers := { target := .collected D, args := #[] } :: a.defers } W) :
    (Code.rangeFunc g #[p] assign body).wpIn Fence.wide n Try.prog Q a w :=
  range_cells h1 hg hseq hpb I Ix hI hIx h0 hassign hbody (fun D W hD hi hk => meet D W (hdone D W hD hi hk)) (fun D c pre W hD hp hi hk => by
    obtain ⟨rfl, hr⟩ := hstop D c pre W hD hp hi hk
    exact wpIn_exit (hx _ _ (meet D W hr))) hIs

end Go.Proofs.Ytbcaiegglbdonaa
