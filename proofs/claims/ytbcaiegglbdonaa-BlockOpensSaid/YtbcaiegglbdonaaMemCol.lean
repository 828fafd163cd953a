/-
  A loop over an iterator that collects the cells: what its rounds keep.
-/
import Derived.Test.YtbcaiegglbdonaaMemLess
import Derived.Test.YtbcaiegglbdonaaFresh
namespace Go.Proofs.Ytbcaiegglbdonaa
open Go.RowKit Go.Shelf

def cellV (x : Cell) : Value := .agg #[.string x.key, .int .u64 x.seq, .string x.val, .bool x.gone]
theorem scan_stops (n : Nat) (hn : 1 ≤ n) {w : World} {X : Nat → Prop} {pb b0 b1 b2 a : Nat} {F : Nat → Prop} {M : MM} {fr to : ByteArray}
    (h0 : Blk w b0 #[.pointer (some ⟨a, 0, none⟩)] 26) (h1 : Blk w b1 #[.string fr] 9) (h2 : Blk w b2 #[.string to] 9) (n1 : ¬ Sx X pb w b1) (n2 : ¬ Sx X pb w b2) (hS : ∀ b, Sx X pb w b → b < w.heap.size) (hpb : pb < w.heap.size)
    (hm : MemIs w a F M) (hl : M.length * 48 ≤ 140737488355328) :
    SeqStopsK Fence.wide n Try.prog 77 #[.pointer (some ⟨b0, 0, none⟩), .pointer (some ⟨b1, 0, none⟩), .pointer (some ⟨b2, 0, none⟩)] (fun x : Cell => #[.agg #[.string x.key, .int .u64 x.seq, .string x.val, .bool x.gone]]) (KpC X pb)
      (fun ys => ys = scanL fr to (M.map (·.1))) (fun pre => pre <+: scanL fr to (M.map (·.1))) (scanL fr to (M.map (·.1))).length w := fun l J Jx W hW hJ hJx hY hj0 => by
  have hk : KpC X pb w W := KpC.of_below hW hpb
  exact scan1_in n hn l X pb b0 b1 b2 a F M fr to J Jx W hJ hJx hY (h0.kept hW) (h1.kept hW) (h2.kept hW) (fun h => n1 (hk.sub _ h1.lt h)) (fun h => n2 (hk.sub _ h2.lt h))
    (fun b hs => Nat.lt_of_lt_of_le (hS b (hs.imp id fun ⟨o, x, c, h⟩ => ⟨o, x, c, by rw [← hW.cell (p := ⟨pb, 0, none⟩) hpb]; exact h⟩)) hW.size) (Nat.lt_of_lt_of_le hpb hW.size) (hm.kept hW) hl hj0

/-- The blocks of F lie as they lay. -/
structure ColI (w0 : World) (F : Nat → Prop) (Ws : World) (pb : Nat) (Ds : List Nat) (xs : List Cell) (W : World) : Prop where
  row : ∃ v, Boxed W pb 22 v ∧ W.ownsRow w0.heap.size 25 4 v xs.length (cellVals xs) ∧ ∀ g, v.ownBlock = some g → ¬ F g
  only : Only (fun k => ¬ F k) Ws W
  below : Below w0.heap.size w0 W
  marks : ∀ D ∈ Ds, W.heap[D]? = some (.deferred (some []))
theorem Only.grown {S : Nat → Prop} {a w w' : World} {row : Option Nat} (h : Only S a w) (hg : w.grownBy w' row) (hr : ∀ k, k < a.heap.size → ¬ S k → some k ≠ row) : Only S a w' :=
  ⟨hg.os.trans h.os, hg.tape.trans h.tape, hg.output.trans h.output, Nat.le_trans h.size hg.size, fun k hk hn => (hg.block k (Nat.lt_of_lt_of_le hk h.size) (hr k hk hn)).trans (h.block k hk hn)⟩
def Solid (F : Nat → Prop) (W : World) : Prop := ∀ k, F k → ∃ o, W.heap[k]? = some o ∧ o.isCells = true
theorem colI_own {w0 Ws : World} {F : Nat → Prop} {pb B : Nat} {Ds : List Nat} (pre0 : List Cell) (hF : Solid F Ws) (hB : w0.heap.size ≤ B) (hD : ∀ D ∈ Ds, D < B) : OwnFrom B (fun pre W => ColI w0 F Ws pb Ds (pre0 ++ pre) W) := by
  rintro s X Y row ⟨⟨v, hv, hr, hn⟩, ho, hb, hd⟩ hg hrow
  refine ⟨⟨v, hv.kept hg (fun e' => ?_), hr.kept hg ?_, hn⟩, ho.grown hg (fun k hk hk' e => ?_), hb.grown hg hb.size (fun k e => Nat.le_trans hB (hrow k e).1), fun D hDs => (hg.block D ?_ (fun e => ?_)).trans (hd D hDs)⟩
  · obtain ⟨_, o, ho, hc⟩ := hrow pb e'.symm
    rw [show X.heap[pb]? = _ from hv] at ho; cases ho; cases hc
  · rcases hr.2 with ⟨rfl, _⟩ | ⟨g, cap, cur, rfl, _, hgb, _⟩
    · exact .inl rfl
    · refine .inr fun e' => ?_
      obtain ⟨_, o, ho, hc⟩ := hrow g (by simpa [Value.ownBlock] using e'.symm)
      rw [hgb] at ho; cases ho; cases hc
  · obtain ⟨_, o, h1, hc⟩ := hrow k e.symm
    obtain ⟨o', h2, hc'⟩ := hF k (Classical.not_not.1 hk')
    rw [ho.block k hk hk', h2] at h1; cases h1; rw [hc] at hc'; cases hc'
  · exact (Array.getElem?_eq_some_iff.1 (hd D hDs)).1
  · have := (hrow D e.symm).1; have := hD D hDs; omega

theorem cellVals_snoc (xs : List Cell) (x : Cell) : cellVals (xs ++ [x]) = cellVals xs ++ [.string x.key, .int .u64 x.seq, .string x.val, .bool x.gone] := by simp [cellVals]
theorem own_cell {W : World} {pb : Nat} {v : Value} {n k e B : Nat} {xs : List Value} (hv : Boxed W pb 22 v) (hr : W.ownsRow B e k v n xs) {b : Nat} (hb : v.ownBlock = some b) : Sx (fun k => k = pb) pb W b := by
  rcases hr.2 with ⟨rfl, _⟩ | ⟨g, cap, cur, rfl, _, hgb, _⟩
  · cases hb
  · cases hb
    exact .inr ⟨0, n, cap, hv.cell⟩
/-- One round of 'box = append(box, c)'. -/
theorem ColI.step {w0 Ws W w1 : World} {F : Nat → Prop} {pb : Nat} {Ds : List Nat} {xs : List Cell} {x : Cell} {v v' : Value} {tmp : Obj} (h : ColI w0 F Ws pb Ds xs W) (hp : ¬ F pb) (hpb : w0.heap.size ≤ pb) (hlt : ∀ k, F k → k < Ws.heap.size)
    (hv : Boxed W pb 22 v) (hrow : W.ownsRow w0.heap.size 25 4 v xs.length (cellVals xs)) (hvF : ∀ g, v.ownBlock = some g → ¬ F g)
    (hown' : w1.ownsRow w0.heap.size 25 4 v' (xs.length + 1) (cellVals xs ++ [.string x.key, .int .u64 x.seq, .string x.val, .bool x.gone])) (hgrow : (W.alloc tmp).grownBy w1 v.ownBlock)
    (hfr : ∀ g, v'.ownBlock = some g → v.ownBlock = some g ∨ (W.alloc tmp).heap.size ≤ g) :
    Boxed w1 pb 22 v ∧ KeepsOthers W (w1.setCell ⟨pb, 0, none⟩ v') ∧ KpC (fun k => k = pb) pb W (w1.setCell ⟨pb, 0, none⟩ v') ∧ ColI w0 F Ws pb Ds (xs ++ [x]) (w1.setCell ⟨pb, 0, none⟩ v') := by
  obtain ⟨hv1, hv2, hr2, hk2, hb2⟩ := hv.appended (by decide) hrow h.below.size hpb hown' hgrow
  have hoth : ∀ k, k < W.heap.size → k ≠ pb → v.ownBlock ≠ some k → (w1.setCell ⟨pb, 0, none⟩ v').heap[k]? = W.heap[k]? := fun k hk h1 h2 =>
    (Below.heap_setCell _ _ _ _ h1).trans ((hgrow.block k (by simp; omega) (fun e => h2 e.symm)).trans (Below.heap_alloc _ _ _ hk))
  refine ⟨hv1, hk2, ⟨hb2.size, fun b o hn hb _ => ?_, fun b hb hs => ?_⟩, ⟨⟨v', hv2, ?_, fun g hg hF => ?_⟩, ⟨?_, ?_, ?_, ?_, fun k hk hF => ?_⟩, h.below.trans hb2, fun D hD => hk2.same D _ (h.marks D hD) rfl⟩⟩
  · exact (hoth b (lt_of_block hb) (fun e => hn (.inl e)) (fun e => hn (own_cell hv hrow e))).trans hb
  · rcases hs with hs | ⟨o, n, c, hs⟩
    · exact .inl hs
    · rw [hv2.cell] at hs
      cases hs
      rcases hfr b rfl with h1 | h1
      · exact own_cell hv hrow h1
      · simp at h1; omega
  · rw [cellVals_snoc, List.length_append]; exact hr2
  · rcases hfr g hg with h1 | h1
    · exact hvF g h1 hF
    · have := hlt g hF; have := h.only.size; simp at h1; omega
  · exact hb2.os.trans h.only.os
  · exact hb2.tape.trans h.only.tape
  · exact hb2.output.trans h.only.output
  · exact Nat.le_trans h.only.size hb2.size
  · have hF' := Classical.not_not.1 hF
    exact (hoth k (Nat.lt_of_lt_of_le hk h.only.size) (fun e => hp (e ▸ hF')) (fun e => hvF k e hF')).trans (h.only.block k hk hF)
theorem ColI.alloc {w0 Ws W : World} {F : Nat → Prop} {pb : Nat} {Ds : List Nat} {xs : List Cell} (h : ColI w0 F Ws pb Ds xs W) (o : Obj) : ColI w0 F Ws pb Ds xs (W.alloc o) := by
  obtain ⟨⟨v, hv, hr, hn⟩, ho, hb, hd⟩ := h
  exact ⟨⟨v, hv.alloc _, hr.alloc _, hn⟩, ho.alloc o, hb.alloc hb.size o, fun D hD => (Below.heap_alloc _ _ _ (Array.getElem?_eq_some_iff.1 (hd D hD)).1).trans (hd D hD)⟩
/-- A table's set of blocks, made of blocks of cells alone. -/
theorem MemIs.solid {w : World} {a : Nat} {F : Nat → Prop} {M : MM} (h : MemIs w a F M) : ∃ F', MemIs w a F' M ∧ Solid F' w ∧ ∀ k, F' k → F k := by
  obtain ⟨hb, L, h1, h2, h3⟩ := h.skip
  refine ⟨foot a hb L, ⟨fun k hk => h.lt k (h3 k hk), h.sorted, h.pos, h.ok, hb, L, h1, h2, fun k hk => hk⟩, ?_, h3⟩
  rintro k (rfl | rfl | ⟨n, hn, rfl⟩)
  · exact ⟨_, h1.mem, rfl⟩
  · exact ⟨_, h1.head, rfl⟩
  · obtain ⟨f, hf⟩ := h1.nodes.mem hn
    exact ⟨_, hf, rfl⟩
/-- One more block of cells beside the table. -/
theorem MemIs.wider {w : World} {a : Nat} {F : Nat → Prop} {M : MM} (h : MemIs w a F M) (hs : Solid F w) {b : Nat} {o : Obj} (hb : w.heap[b]? = some o) (ho : o.isCells = true) : MemIs w a (fun k => F k ∨ k = b) M ∧ Solid (fun k => F k ∨ k = b) w := by
  obtain ⟨hb', L, h1, h2, h3⟩ := h.skip
  refine ⟨⟨?_, h.sorted, h.pos, h.ok, hb', L, h1, h2, fun k hk => .inl (h3 k hk)⟩, ?_⟩
  · rintro k (hk | rfl)
    · exact h.lt k hk
    · exact lt_of_block hb
  · rintro k (hk | rfl)
    · exact hs k hk
    · exact ⟨o, hb, ho⟩
theorem Solid.only {F : Nat → Prop} {w w' : World} (h : Solid F w) (ho : Only (fun k => ¬ F k) w w') : Solid F w' := fun k hk => by
  obtain ⟨o, h1, h2⟩ := h k hk
  exact ⟨o, (ho.block k (lt_of_block h1) (fun h => h hk)).trans h1, h2⟩
theorem Solid.kept {F : Nat → Prop} {w w' : World} (h : Solid F w) (hb : Below w.heap.size w w') : Solid F w' := h.only (Only.of_below hb)

theorem scanL_len (fr to : ByteArray) : ∀ cs : List Cell, (scanL fr to cs).length ≤ cs.length := by
  intro cs
  induction cs with
  | nil => exact Nat.le_refl _
  | cons c cs ih =>
    unfold scanL
    split
    · simp only [List.length_cons]; omega
    · split
      · simp
      · simp only [List.length_cons]; omega

/-! ### A loop over the iterator whose variable lies in a box -/
def cellA (x : Cell) : Array Value := #[.string x.key, .int .u64 x.seq, .string x.val, .bool x.gone]
theorem range_cells {n : Nat} (h1 : 1 ≤ n) {p q : Nat} {g : Operand} {assign body : Code} {Q : Exit → Act → World → Prop} {a : Act} {w : World} {lb : Array Value}
    (hg : a.eval g = .func (.func 77) #[] lb) {X : Nat → Prop} {pb : Nat} {Z : List Cell}
    (hseq : SeqStopsK Fence.wide (n - 1) Try.prog 77 lb (fun x : Cell => #[.agg #[.string x.key, .int .u64 x.seq, .string x.val, .bool x.gone]]) (KpC X pb) (fun ys => ys = Z) (fun pre => pre <+: Z) Z.length w) (hpb : pb < w.heap.size)
    (I : List Cell → World → Prop) (Ix : Code → List Cell → World → Prop) (hI : OwnFrom w.heap.size I) (hIx : ∀ c, OwnFrom w.heap.size (Ix c)) (h0 : I [] w)
    (hassign : ∀ (l : Nat) (x : Cell) (W : World) (K : Act → World → Prop), K ⟨(a.tmps.setIfInBounds p (.agg (cellA x))).setIfInBounds q (.pointer (some ⟨W.heap.size, 0, none⟩)), []⟩ (W.alloc (.cells (cellA x) 25)) →
      assign.wpIn (Fence.wide.inRound l) (n - 1 - 1) Try.prog (Exit.then K (fun _ _ _ => False)) ⟨a.tmps.setIfInBounds p (.agg (cellA x)), []⟩ W)
    (hbody : ∀ (l : Nat) (pre : List Cell) (x : Cell) (Bx : Nat) (W : World), I pre W → Blk W Bx (cellA x) 25 → w.heap.size ≤ Bx → pre.length < Z.length →
      body.wpIn (Fence.wide.inRound l) (n - 1 - 1) Try.prog (ownPostG w.heap.size (KpC X pb) I Ix (pre ++ [x]) W) ⟨(a.tmps.setIfInBounds p (.agg (cellA x))).setIfInBounds q (.pointer (some ⟨Bx, 0, none⟩)), []⟩ W)
    (hdone : ∀ (D : Nat) (W : World), w.heap.size ≤ D → I Z W → W.heap[D]? = some (.deferred (some [])) → Q .normal { a with defers := { target := .collected D, args := #[] } :: a.defers } W)
    (hstop : ∀ (D : Nat) (c : Code) (pre : List Cell) (W : World), w.heap.size ≤ D → pre <+: Z → Ix c pre W → W.heap[D]? = some (.deferred (some [])) → c.wpIn Fence.wide n Try.prog Q { a with defers := { target := .collected D, args := #[] } :: a.defers } W)
    (hIs : ∀ pre W, I pre W → w.heap.size ≤ W.heap.size) :
    (Code.rangeFunc g #[p] assign body).wpIn Fence.wide n Try.prog Q a w := by
  refine wpIn_rangeFunc_ownH rfl h1 (gf := 77) hg trivial (enters_of Try.func77 (by kernel_rfl) rfl) hseq (fun h k => h.trans k) (fun W l o o' => kpC_b hpb W l o o') (Below.refl _ _) (fun _ => rfl) I Ix hI hIx h0
    (fun x a' W => ∃ Bx, Blk W Bx (cellA x) 25 ∧ w.heap.size ≤ Bx ∧ a' = ⟨(a.tmps.setIfInBounds p (.agg (cellA x))).setIfInBounds q (.pointer (some ⟨Bx, 0, none⟩)), []⟩) ?_ ?_ ?_ (fun D xs W hD he hi hk => ?_) (fun D c pre W hD hp hx hk => hstop D c pre W hD hp hx hk)
  · rintro x a' s A B row ⟨Bx, hb, hB, rfl⟩ hgr hrow
    refine ⟨Bx, (hgr.block Bx hb.lt (fun e => ?_)).trans hb, hB, rfl⟩
    obtain ⟨_, o, ho, hc⟩ := hrow Bx e.symm
    rw [show A.heap[Bx]? = _ from hb] at ho; cases ho; cases hc
  · intro l pre x W K hi hK
    have he : ((#[p] : Array Tmp).zip #[Value.agg #[Value.string x.key, Value.int IntKind.u64 x.seq, Value.string x.val, Value.bool x.gone]]).foldl (fun t (p, v) => t.setIfInBounds p v) a.tmps = a.tmps.setIfInBounds p (.agg (cellA x)) := by simp [cellA]
    rw [he]
    refine hassign l x W K (hK _ _ ((KeepsOthers.alloc _ _).from _) ?_ (hI.alloc _ hi) ⟨W.heap.size, Blk.new _ _ _, hIs pre W hi, rfl⟩)
    exact KpC.of_below ((Below.refl _ _).alloc (Nat.le_refl _) _) (Nat.lt_of_lt_of_le hpb (hIs pre W hi))
  · rintro l pre x a' W _ _ hi ⟨Bx, hb, hB, rfl⟩ hlt
    exact hbody l pre x Bx W hi hb hB hlt
  · subst he
    exact hdone D W hD hi hk

theorem grown_below {w w' : World} (hb : Below w.heap.size w w') : w.grownBy w' none := ⟨hb.os, hb.tape, hb.output, hb.size, fun k hk _ => hb.block k hk⟩
theorem own_kept {w w' : World} {B e k n : Nat} {v : Value} {xs : List Value} (h : w.ownsRow B e k v n xs) (hb : Below w.heap.size w w') : w'.ownsRow B e k v n xs :=
  h.kept (grown_below hb) (by cases hv : v.ownBlock with | none => exact .inl rfl | some g => exact .inr (by simp))
theorem ColI.again {w0 Ws W W' : World} {F : Nat → Prop} {pb : Nat} {Ds : List Nat} {xs : List Cell} (h : ColI w0 F Ws pb Ds xs W) (hb : Below W.heap.size W W') : ColI w0 F W' pb Ds xs W' := by
  obtain ⟨v, hv, hr, hn⟩ := h.row
  exact ⟨⟨v, (hb.block pb hv.lt).trans hv, own_kept hr hb, hn⟩, Only.refl _ _, h.below.trans (hb.mono h.below.size), fun D hD => (hb.block D (Array.getElem?_eq_some_iff.1 (h.marks D hD)).1).trans (h.marks D hD)⟩
theorem ColI.fresh {w0 Ws W W' : World} {F : Nat → Prop} {pb : Nat} {Ds : List Nat} {xs : List Cell} (h : ColI w0 F Ws pb Ds xs W) (hb : Below W.heap.size W W') (b : Nat) (hs : Sx (fun k => k = pb) pb W' b) : b < W.heap.size := by
  obtain ⟨v, hv, hr, hn⟩ := h.row
  rcases hs with rfl | ⟨o, n, c, hs⟩
  · exact hv.lt
  · rw [hb.cell (p := ⟨pb, 0, none⟩) hv.lt, hv.cell] at hs
    cases hs
    exact (hr.lt b rfl).2
theorem ColI.mark {w0 Ws W : World} {F : Nat → Prop} {pb D : Nat} {Ds : List Nat} {xs : List Cell} (h : ColI w0 F Ws pb Ds xs W) (hk : W.heap[D]? = some (.deferred (some []))) : ColI w0 F Ws pb (D :: Ds) xs W :=
  ⟨h.row, h.only, h.below, fun D' hD => by rcases List.mem_cons.1 hD with rfl | hD; exact hk; exact h.marks _ hD⟩
theorem scan_ready (n : Nat) (hn : 1 ≤ n) {w0 Ws W W' : World} {F : Nat → Prop} {pb a : Nat} {Ds : List Nat} {xs : List Cell} {M : MM} {fr to : ByteArray} (h : ColI w0 F Ws pb Ds xs W) (hm : MemIs Ws a F M) (hS : Solid F Ws) (hl : M.length * 48 ≤ 140737488355328)
    (x0 : Blk W' W.heap.size #[.pointer (some ⟨a, 0, none⟩)] 26) (x1 : Blk W' (W.heap.size + 1) #[.string fr] 9) (x2 : Blk W' (W.heap.size + 2) #[.string to] 9) (hb : Below W.heap.size W W') :
    MemIs W' a F M ∧ Solid F W' ∧ ColI w0 F W' pb Ds xs W' ∧ pb < W'.heap.size ∧ (∀ k, F k → k < W'.heap.size) ∧ (∀ D ∈ Ds, D < W'.heap.size) ∧
    SeqStopsK Fence.wide n Try.prog 77 #[.pointer (some ⟨W.heap.size, 0, none⟩), .pointer (some ⟨W.heap.size + 1, 0, none⟩), .pointer (some ⟨W.heap.size + 2, 0, none⟩)] (fun x : Cell => #[.agg #[.string x.key, .int .u64 x.seq, .string x.val, .bool x.gone]]) (KpC (fun k => k = pb) pb)
      (fun ys => ys = scanL fr to (M.map (·.1))) (fun pre => pre <+: scanL fr to (M.map (·.1))) (scanL fr to (M.map (·.1))).length W' := by
  have hm2 := (hm.only h.only fun k hk hn => hn hk).kept hb
  have h2 := h.again hb
  obtain ⟨v, hv, _, _⟩ := h2.row
  refine ⟨hm2, (hS.only h.only).kept hb, h2, hv.lt, hm2.lt, fun D hD => (Array.getElem?_eq_some_iff.1 (h2.marks D hD)).1, scan_stops n hn x0 x1 x2 (fun hs => ?_) (fun hs => ?_) (fun b hs => Nat.lt_of_lt_of_le (h.fresh hb b hs) hb.size) hv.lt hm2 hl⟩
  · have := h.fresh hb _ hs; omega
  · have := h.fresh hb _ hs; omega

theorem MemIs.widen {w : World} {a : Nat} {F G : Nat → Prop} {M : MM} (h : MemIs w a F M) (hs : Solid F w) (hG : Solid G w) : MemIs w a (fun k => F k ∨ G k) M ∧ Solid (fun k => F k ∨ G k) w := by
  obtain ⟨hb', L, h1, h2, h3⟩ := h.skip
  refine ⟨⟨?_, h.sorted, h.pos, h.ok, hb', L, h1, h2, fun k hk => .inl (h3 k hk)⟩, ?_⟩
  · rintro k (hk | hk)
    · exact h.lt k hk
    · obtain ⟨o, ho, _⟩ := hG k hk
      exact lt_of_block ho
  · rintro k (hk | hk)
    · exact hs k hk
    · exact hG k hk
theorem own_only {w w' : World} {F : Nat → Prop} {B e k n : Nat} {v : Value} {xs : List Value} (h : w.ownsRow B e k v n xs) (ho : Only (fun k => ¬ F k) w w') (hF : ∀ g, v.ownBlock = some g → F g) : w'.ownsRow B e k v n xs := by
  obtain ⟨h1, h2⟩ := h
  refine ⟨h1, h2.imp id ?_⟩
  rintro ⟨g, cap, cur, rfl, hB, hg, hr⟩
  exact ⟨g, cap, cur, rfl, hB, (ho.block g (lt_of_block hg) (fun h => h (hF g rfl))).trans hg, hr⟩
theorem leaves_marks {F : Fence} {n : Nat} {P : Program} {fn : Func} {tmps : Array Value} {R : Ending → World → Prop} {B : Nat} : ∀ (Ds : List Nat) (W : World), Ds.Nodup → (∀ D ∈ Ds, W.heap[D]? = some (.deferred (some [])) ∧ B ≤ D) → B ≤ W.heap.size →
    (∀ W', Below B W W' → LeavesInM F n P fn tmps R [] .returning W') → LeavesInM F n P fn tmps R (Ds.map fun D => { target := .collected D, args := #[] }) .returning W := by
  intro Ds
  induction Ds with
  | nil => intro W _ _ _ h; exact h W (Below.refl _ _)
  | cons D Ds ih =>
    intro W hnd hk hB h
    obtain ⟨hn1, hn2⟩ := List.nodup_cons.1 hnd
    obtain ⟨hD, hDB⟩ := hk D (by simp)
    have hbw : Below B W (W.putObj D (.deferred none)) := (Below.refl B W).grown (grownBy_putObj' W D _) hB (fun j e => by cases e; exact hDB)
    refine ⟨by simp, .inl ⟨D, _, rfl, run_takeDeferred hD, ih _ hn2 (fun D' hD' => ⟨(World.putObj_heap_other (fun e => hn1 (by subst e; exact hD'))).trans (hk D' (by simp [hD'])).1, (hk D' (by simp [hD'])).2⟩) (Nat.le_trans hB hbw.size) (fun W' hb => h W' (hbw.trans hb))⟩⟩

end Go.Proofs.Ytbcaiegglbdonaa
