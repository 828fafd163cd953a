/-
  Arguments opened: slices of cells, a cell by value; what is read again behind a call that makes memory alone.
-/
import Derived.Test.YtbcaiegglbdonaaMemAwake
import Derived.ProofKit
import Derived.OpenShut
import Derived.JoinedCond
import Derived.SizedLaws
import Derived.Deep.CondSized
import Derived.Deep.Slices
import Derived.Deep.Fields
import Derived.ChangeSame
import Derived.Lib.SmallJoins
namespace Go.Proofs.Ytbcaiegglbdonaa
open Go.ChangeShapes Go.WideShapes Go.ChangeAt Go.RowKit Go.Deep Go.Joins
open Go.ChangeMaps (open_string shut_string)
section
variable {H : Type} {enc : TypeId × Value → H} {P : Program} {w : World} {base : Nat} {spare : Nat → Bool} {held : Bool}
theorem open_slice_fields {t e : TypeId} {fs : Array Field} {fuel : Nat} {cs : List Value} {x : DataW H × List MemPlace} (ht : P.underlying t = some (.slice e)) (he : P.underlying e = some (.struct fs))
    (hone : oneCellFields P fs = true) (hC : P.cellsOf e = fs.size) (h : DataW.trod enc P w base spare held fuel t cs = some x) :
    (cs = [.slice none 0 0] ∧ x = (.nil, [])) ∨
    ∃ (a : Addr) (len cap m : Nat) (D : Nat → DataW H) (Pl : Nat → List MemPlace), cs = [.slice (some a) len cap] ∧ base ≤ a.block ∧ len ≤ cap ∧ cap ≤ maxLen ∧ m = (if spare a.block then cap else len) ∧
      x = (.slice ((List.range len).map D) ((List.range (m - len)).map fun j => D (len + j)), MemPlace.row a (m * fs.size) ++ (List.range m).flatMap Pl) ∧
      ∀ i, i < m → ∃ (ys : List (DataW H × List MemPlace)) (n : Nat), D i = .agg (ys.map (·.1)) ∧ Pl i = ys.flatMap (·.2) ∧ ys.length = fs.size ∧
        ∀ (j : Nat) (f : Field), fs[j]? = some f → ∃ (v : Value) (y : DataW H × List MemPlace), w.cell? (a.add (i * fs.size + j)) = some v ∧ ys[j]? = some y ∧ DataW.trod enc P w base spare held n f.type [v] = some y := by
  rcases open_slice ht h with h0 | ⟨a, len, cap, m, n, D, Pl, hcs, hb, hl, hm, hmm, hx, hi⟩
  · exact .inl h0
  · refine .inr ⟨a, len, cap, m, D, Pl, hcs, hb, hl, hm, hmm, by rw [hC] at hx; exact hx, fun i him => ?_⟩
    obtain ⟨cs', hc, ht'⟩ := hi i him
    rw [hC] at hc
    obtain ⟨ys, n', hn', hy, hlen, hyl, hf⟩ := DataW.trod_struct he ht'
    obtain ⟨_, hcl, hat⟩ := World.cells?_some hc
    simp only [Prod.mk.injEq] at hy
    refine ⟨ys, n', hy.1, hy.2, hyl, fun j f hj => ?_⟩
    obtain ⟨ho, hk⟩ := hone_of hone j f hj
    have hjl : j < fs.size := (Array.getElem?_eq_some_iff.1 hj).1
    have hcell := hat j hjl
    have hv : cs'[j]? = some (cs'[j]'(by omega)) := List.getElem?_eq_getElem (by omega)
    have h1 := hf j f hj
    rw [ho, hk] at h1
    have hone' : (cs'.drop j).take 1 = [cs'[j]'(by omega)] := by
      rw [List.drop_eq_getElem_cons (by omega)]
      rfl
    rw [hone'] at h1
    have hys : ys[j]? = some (ys[j]'(by omega)) := List.getElem?_eq_getElem (by omega)
    refine ⟨_, _, ?_, hys, h1.trans hys⟩
    rw [← Go.Deep.add_add, hcell, hv]
end

theorem Try.own : ownKnob Try.prog.godebug = none := by kernel_rfl
theorem Try.laidOut : laidOutB Try.prog = true := by kernel_rfl
theorem Try.cells25 : Try.prog.cellsOf 25 = 4 := by kernel_rfl

def CellWf (c : Cell) : Prop := 0 ≤ c.seq ∧ c.seq ≤ 18446744073709551615 ∧ c.key.size ≤ maxLen ∧ c.val.size ≤ maxLen
def cellD {H : Type} (c : Cell) : DataW H := .agg [.lit (.string c.key.data.toList), .lit (.int .u64 c.seq), .lit (.string c.val.data.toList), .lit (.bool c.gone)]
def cellVals (cs : List Cell) : List Value := cs.flatMap fun c => [.string c.key, .int .u64 c.seq, .string c.val, .bool c.gone]
theorem cellVals_length (cs : List Cell) : (cellVals cs).length = cs.length * 4 := by
  induction cs with
  | nil => rfl
  | cons c cs ih => simp only [cellVals, List.flatMap_cons, List.length_append] at *; simp [ih]; omega
theorem cellVals_get (cs : List Cell) : ∀ (i : Nat) (c : Cell), cs[i]? = some c → (cellVals cs)[4 * i]? = some (.string c.key) ∧ (cellVals cs)[4 * i + 1]? = some (.int .u64 c.seq) ∧ (cellVals cs)[4 * i + 2]? = some (.string c.val) ∧ (cellVals cs)[4 * i + 3]? = some (.bool c.gone) := by
  induction cs with
  | nil => intro i c h; simp at h
  | cons c0 cs ih =>
    intro i c h
    have e : cellVals (c0 :: cs) = [.string c0.key, .int .u64 c0.seq, .string c0.val, .bool c0.gone] ++ cellVals cs := rfl
    cases i with
    | zero => simp at h; subst h; rw [e]; simp
    | succ i =>
      have := ih i c (by simpa using h)
      rw [e, show 4 * (i + 1) = 4 * i + 4 by omega]
      simpa [List.getElem?_cons, show 4 * i + 4 + 1 = 4 * i + 1 + 4 by omega, show 4 * i + 4 + 2 = 4 * i + 2 + 4 by omega, show 4 * i + 4 + 3 = 4 * i + 3 + 4 by omega] using this

section
variable {H : Type} {enc : TypeId × Value → H} {W : World}
theorem spot_none {a : Addr} {v : Value} (h : W.cell? a = some v) : a.spot = none := by
  unfold World.cell? at h
  split at h
  · split at h
    · cases h
    · rename_i hs; simpa using hs
  · cases h

set_option maxRecDepth 100000 in
theorem open_cell {base : Nat} {sp : Nat → Bool} {hd : Bool} {v : Value} {d : DataW H} {p : List MemPlace} {r : Reach} {b0 : Nat} (hv : Value.okWide Try.prog W r b0 25 v) (h : DataW.Trod enc Try.prog W base sp hd 25 v d p) :
    ∃ c : Cell, v = .agg #[.string c.key, .int .u64 c.seq, .string c.val, .bool c.gone] ∧ CellWf c ∧ d = cellD c := by
  obtain ⟨v0, v1, v2, v3, y0, y1, y2, y3, n, rfl, rfl, _, h0, h1, h2, h3⟩ := open_agg4 Try.underlying25 (by kernel_rfl) Try.cells25 hv h
  obtain ⟨s0, e0, rfl, w0⟩ := DataW.trod_string Try.underlying9 h0
  obtain ⟨s1, e1, rfl, w1⟩ := DataW.trod_int Try.underlying23 h1
  obtain ⟨s2, e2, rfl, w2⟩ := DataW.trod_string Try.underlying9 h2
  obtain ⟨s3, e3, rfl⟩ := DataW.trod_bool Try.underlying4 h3
  simp at e0 e1 e2 e3
  subst e0 e1 e2 e3
  have hw : 0 ≤ s1 ∧ s1 ≤ 18446744073709551615 := by simpa [Lit.wf, IntKind.min, IntKind.max, IntKind.signed, IntKind.bits] using w1
  exact ⟨⟨s0, s1, s2, s3⟩, rfl, ⟨hw.1, hw.2, w0, w2⟩, rfl⟩

instance : Inhabited Cell := ⟨Cell.zero⟩
theorem add_at {a : Addr} (ha : a.spot = none) (j : Nat) : a.add j = ⟨a.block, a.off + j, none⟩ := by
  cases a
  simp only at ha
  subst ha
  unfold Addr.add
  by_cases h : j = 0 <;> simp [h]

/-- A slice of cells, whatever it is, reads as a list. -/
def CellsD (d : DataW H) (cs : List Cell) : Prop := (d = .nil ∧ cs = []) ∨ ∃ spare, d = .slice (cs.map cellD) spare
set_option maxRecDepth 100000 in
theorem open_cells {v : Value} {d : DataW H} {p : List MemPlace} {r : Reach} {b0 : Nat} (hv : Value.okWide Try.prog W r b0 22 v) (h : DataW.Trod enc Try.prog W 0 (fun _ => true) true 22 v d p) :
    ∃ cs : List Cell, Reads W v cs.length 4 (cellVals cs) ∧ (∀ c ∈ cs, CellWf c) ∧ CellsD d cs := by
  obtain ⟨a0, len, cap, rfl⟩ := okWide_slice Try.underlying22 hv
  obtain ⟨fuel, hf⟩ := h
  rcases open_slice_fields Try.underlying22 Try.underlying25 (by kernel_rfl) Try.cells25 hf with ⟨hcs, hx⟩ | ⟨a, len', cap', m, D, Pl, hcs, _, hl, hm, hmm, hx, hcell⟩
  · simp [Value.cells] at hcs
    obtain ⟨rfl, rfl, rfl⟩ := hcs
    simp only [Prod.mk.injEq] at hx
    exact ⟨[], ⟨rfl, by simp, none, 0, rfl, .inl rfl⟩, by simp, .inl ⟨hx.1, rfl⟩⟩
  · simp [Value.cells] at hcs
    obtain ⟨rfl, rfl, rfl⟩ := hcs
    simp only [Prod.mk.injEq] at hx
    simp only [if_true] at hmm
    subst hmm
    obtain ⟨C, hC⟩ := choose_lt (α := Cell) (p := fun i c => CellWf c ∧ D i = cellD c ∧ W.cell? (a.add (i * 4 + 0)) = some (.string c.key) ∧ W.cell? (a.add (i * 4 + 1)) = some (.int .u64 c.seq) ∧ W.cell? (a.add (i * 4 + 2)) = some (.string c.val) ∧ W.cell? (a.add (i * 4 + 3)) = some (.bool c.gone)) (fun i (hi : i < m) => by
      obtain ⟨ys, n, hD, _, hyl, hfld⟩ := hcell i hi
      obtain ⟨v0, y0, c0, e0, t0⟩ := hfld 0 _ rfl
      obtain ⟨v1, y1, c1, e1, t1⟩ := hfld 1 _ rfl
      obtain ⟨v2, y2, c2, e2, t2⟩ := hfld 2 _ rfl
      obtain ⟨v3, y3, c3, e3, t3⟩ := hfld 3 _ rfl
      obtain ⟨s0, g0, rfl, w0⟩ := DataW.trod_string Try.underlying9 t0
      obtain ⟨s1, g1, rfl, w1⟩ := DataW.trod_int Try.underlying23 t1
      obtain ⟨s2, g2, rfl, w2⟩ := DataW.trod_string Try.underlying9 t2
      obtain ⟨s3, g3, rfl⟩ := DataW.trod_bool Try.underlying4 t3
      simp at g0 g1 g2 g3
      subst g0 g1 g2 g3
      have hw : 0 ≤ s1 ∧ s1 ≤ 18446744073709551615 := by simpa [Lit.wf, IntKind.min, IntKind.max, IntKind.signed, IntKind.bits] using w1
      refine ⟨⟨s0, s1, s2, s3⟩, ⟨hw.1, hw.2, w0, w2⟩, ?_, c0, c1, c2, c3⟩
      rw [hD]
      match ys, hyl, e0, e1, e2, e3 with
      | [z0, z1, z2, z3], _, e0, e1, e2, e3 =>
        simp at e0 e1 e2 e3
        subst e0 e1 e2 e3
        rfl)
    have hlen : ((List.range len).map C).length = len := by simp
    refine ⟨(List.range len).map C, ⟨cellVals_length _, by rw [hlen]; simp only [maxLen] at hm; omega, some a, m, by rw [hlen], ?_⟩, ?_, .inr ⟨(List.range (m - len)).map fun j => D (len + j), ?_⟩⟩
    · rw [hlen]
      rcases Nat.eq_zero_or_pos len with h0 | h0
      · exact .inl h0
      · right
        have hc0 : W.cell? a = some (.string (C 0).key) := (hC 0 (by omega)).2.2.1
        have hsp : a.spot = none := spot_none hc0
        have ha : a = ⟨a.block, a.off, none⟩ := by cases a; simp only at hsp; subst hsp; rfl
        refine ⟨a.block, a.off, by rw [← ha], World.block_lt_of_cell? W _ hc0, fun j u hj => ?_⟩
        have hjl : j < len * 4 := by
          have := (List.getElem?_eq_some_iff.1 hj).1
          rw [cellVals_length, hlen] at this; exact this
        have hq : ((List.range len).map C)[j / 4]? = some (C (j / 4)) := by
          rw [List.getElem?_map, List.getElem?_range (by omega)]; rfl
        obtain ⟨g0, g1, g2, g3⟩ := cellVals_get _ _ _ hq
        obtain ⟨_, _, c0, c1, c2, c3⟩ := hC (j / 4) (by omega)
        rw [add_at hsp] at c0 c1 c2 c3
        have hcase : j % 4 = 0 ∨ j % 4 = 1 ∨ j % 4 = 2 ∨ j % 4 = 3 := by omega
        rcases hcase with h | h | h | h
        · rw [show 4 * (j / 4) = j by omega, hj] at g0
          rw [show j / 4 * 4 + 0 = j by omega] at c0
          rw [c0]; exact g0.symm
        · rw [show 4 * (j / 4) + 1 = j by omega, hj] at g1
          rw [show j / 4 * 4 + 1 = j by omega] at c1
          rw [c1]; exact g1.symm
        · rw [show 4 * (j / 4) + 2 = j by omega, hj] at g2
          rw [show j / 4 * 4 + 2 = j by omega] at c2
          rw [c2]; exact g2.symm
        · rw [show 4 * (j / 4) + 3 = j by omega, hj] at g3
          rw [show j / 4 * 4 + 3 = j by omega] at c3
          rw [c3]; exact g3.symm
    · intro c hc
      obtain ⟨i, hi, rfl⟩ := List.mem_map.1 hc
      have := List.mem_range.1 hi
      exact (hC i (by omega)).1
    · rw [hx.1, List.map_map]
      congr 1
      exact List.map_congr_left fun i hi => (hC i (by have := List.mem_range.1 hi; omega)).2.1

theorem trodAll_below {W' : World} (hb : Below W.heap.size W W') : ∀ {ts : List TypeId} {vs : List Value} {ds : List (DataW H)} {ps : List MemPlace}, (∀ t ∈ ts, Try.prog.readableRec t = true ∧ t < Try.prog.types.size) →
    DataW.TrodAll enc Try.prog W 0 (fun _ => true) true ts vs ds ps → (∀ x ∈ ps, x.block < W.heap.size) → DataW.TrodAll enc Try.prog W' 0 (fun b => decide (b < W.heap.size)) true ts vs ds ps := by
  intro ts
  induction ts with
  | nil =>
    intro vs ds ps _ h _
    obtain ⟨rfl, rfl, rfl⟩ := trodAll_nil h
    exact trodAll_mk0
  | cons t ts ih =>
    intro vs ds ps hr h hlt
    obtain ⟨v, vs', d, ds', p, q, rfl, rfl, rfl, h0, r0⟩ := trodAll_cons h
    exact trodAll_cons_mk (Below.trod Try.laidOut (hr t (by simp)).1 (hr t (by simp)).2 h0 hb fun x hx => hlt x (by simp [hx])) (ih (fun t' ht' => hr t' (by simp [ht'])) r0 fun x hx => hlt x (by simp [hx]))

/-- What a law's row asks behind the walk. -/
theorem law_post {f : Func} {s : ChangeSpec} {W' : World} {args : Array Value} {ds gs : List (DataW H)} {p : List MemPlace} (hvars : s.vars = [])
    (hW : DataW.Whole enc Try.prog f.params.toList s.vars false W args.toList ds gs p) (hres : f.resultTypes = #[4]) (hr : (s.fn H (ds ++ gs)).results = [.lit (.bool true)]) (ha : (s.fn H (ds ++ gs)).args = ds) (hvs : (s.fn H (ds ++ gs)).vars = [])
    (hread : ∀ t ∈ f.params.toList, Try.prog.readableRec t = true ∧ t < Try.prog.types.size) (hb : Below W.heap.size W W') :
    s.post enc Try.prog f false true false false W args (.bool true) W' := by
  have hW0 := hW
  obtain ⟨p1, q1, hA, hV, rfl, hfz, hnd⟩ := hW
  rw [hvars] at hV
  obtain ⟨rfl, rfl⟩ := trodVars_none hV
  refine ⟨_, _, _, [], p1, [], hW0, ?_, ?_, ?_, hb.frame _, fun h => by cases h⟩
  · rw [hr, hres]; exact trodAll_mk1 (shut_bool Try.underlying4 true)
  · rw [ha]; exact trodAll_below hb hread hA fun x hx => hW0.lt x (by simpa using hx)
  · rw [hvs, hvars]; rfl
end

end Go.Proofs.Ytbcaiegglbdonaa
