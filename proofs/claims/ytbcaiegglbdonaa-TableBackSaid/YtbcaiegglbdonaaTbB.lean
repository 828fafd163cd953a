/-
  Texts of this seat, part 2: Open, CellEq, MemCells, MemSame, MemScan, MemLess, Shared, Small, RefCells, Plan, Check8, Fresh, MemCol.
-/
import Derived.Test.YtbcaiegglbdonaaTbA
import Derived.ProofKit
import Derived.OpenShut
import Derived.JoinedCond
import Derived.SizedLaws
import Derived.Deep.CondSized
import Derived.Deep.Slices
import Derived.Deep.Fields
import Derived.ChangeSame
import Derived.Lib.SmallJoins
import Derived.Laws.StructEq
import Derived.RangeFuncNested
import Derived.RangeFuncBound
import Derived.RangeFuncCalls
import Derived.RangeFuncLeaves
import Derived.Shelf.Abstract
import Derived.WalkKit
import Derived.OwnWalkIn
import Derived.TacticsInMore
import Derived.LoopNIn
import Derived.LoopIn
import Derived.OrdersHeld
import Derived.Deep.RegionHeld
import Derived.RangeFuncBox
/-
  Arguments opened: slices of cells, a cell by value; what is read again behind a call that makes memory alone.
-/
namespace Go.Proofs.Ytbcaiegglbdonaa
open Go.ChangeShapes Go.WideShapes Go.ChangeAt Go.RowKit Go.Deep Go.Joins
open Go.ChangeMaps (open_string shut_string)
section
variable {H : Type} {enc : TypeId × Value → H} {P : Program} {w : World} {base : Nat} {spare : Nat → Bool} {held : Bool}
theorem open_slice_fields {t e : TypeId} {fs : Array Field} {fuel : Nat} {cs : List Value} {x : DataW H × List MemPlace} (ht : P.underlying t = some (.slice e)) (he : P.underlying e = some (.struct fs))
    (hone : oneCellFields P fs = true) (hC : P.cellsOf e = fs.size) (h : DataW.trod enc P w base spare held fuel t cs = some x) :
    (cs = [.slice none 0 0] ∧ x = (.nil, [])) ∨
    ∃ (a : Addr) (len cap m : Nat) (D : Nat → DataW H) (Pl : Nat → List MemPlace), cs = [.slice (some a) len cap] ∧ base ≤ a.block ∧ len ≤ cap ∧ cap ≤ maxLen ∧ m = (if spare a.block then cap else len) ∧
      x = (.slice ((List.range len).map D) ((List.range (m - len)).map fun j => D (len + j)), MemPlace.row a (m * fs.size) ++ (List.range m).flatMap Pl) ∧
      ∀ i, i < m → ∃ (ys : List (DataW H × List MemPlace)) (n : Nat), D i = .agg (ys.map (·.1)) ∧ Pl i = ys.flatMap (·.2) ∧ ys.length = fs.size ∧
        ∀ (j : Nat) (f : Field), fs[j]? = some f → ∃ (v : Value) (y : DataW H × List MemPlace), w.cell? (a.add (i * fs.size + j)) = some v ∧ ys[j]? = some y ∧ DataW.trod enc P w base spare held n f.type [v] = some y := by
  rcases open_slice ht h with h0 | ⟨a, len, cap, m, n, D, Pl, hcs, hb, hl, hm, hmm, hx, hi⟩
  · exact .inl h0
  · refine .inr ⟨a, len, cap, m, D, Pl, hcs, hb, hl, hm, hmm, by rw [hC] at hx; exact hx, fun i him => ?_⟩
    obtain ⟨cs', hc, ht'⟩ := hi i him
    rw [hC] at hc
    obtain ⟨ys, n', hn', hy, hlen, hyl, hf⟩ := DataW.trod_struct he ht'
    obtain ⟨_, hcl, hat⟩ := World.cells?_some hc
    simp only [Prod.mk.injEq] at hy
    refine ⟨ys, n', hy.1, hy.2, hyl, fun j f hj => ?_⟩
    obtain ⟨ho, hk⟩ := hone_of hone j f hj
    have hjl : j < fs.size := (Array.getElem?_eq_some_iff.1 hj).1
    have hcell := hat j hjl
    have hv : cs'[j]? = some (cs'[j]'(by omega)) := List.getElem?_eq_getElem (by omega)
    have h1 := hf j f hj
    rw [ho, hk] at h1
    have hone' : (cs'.drop j).take 1 = [cs'[j]'(by omega)] := by
      rw [List.drop_eq_getElem_cons (by omega)]
      rfl
    rw [hone'] at h1
    have hys : ys[j]? = some (ys[j]'(by omega)) := List.getElem?_eq_getElem (by omega)
    refine ⟨_, _, ?_, hys, h1.trans hys⟩
    rw [← Go.Deep.add_add, hcell, hv]
end

theorem Try.own : ownKnob Try.prog.godebug = none := by kernel_rfl
theorem Try.laidOut : laidOutB Try.prog = true := by kernel_rfl
theorem Try.cells25 : Try.prog.cellsOf 25 = 4 := by kernel_rfl

def CellWf (c : Cell) : Prop := 0 ≤ c.seq ∧ c.seq ≤ 18446744073709551615 ∧ c.key.size ≤ maxLen ∧ c.val.size ≤ maxLen
def cellD {H : Type} (c : Cell) : DataW H := .agg [.lit (.string c.key.data.toList), .lit (.int .u64 c.seq), .lit (.string c.val.data.toList), .lit (.bool c.gone)]
def cellVals (cs : List Cell) : List Value := cs.flatMap fun c => [.string c.key, .int .u64 c.seq, .string c.val, .bool c.gone]
theorem cellVals_length (cs : List Cell) : (cellVals cs).length = cs.length * 4 := by
  induction cs with
  | nil => rfl
  | cons c cs ih => simp only [cellVals, List.flatMap_cons, List.length_append] at *; simp [ih]; omega
theorem cellVals_get (cs : List Cell) : ∀ (i : Nat) (c : Cell), cs[i]? = some c → (cellVals cs)[4 * i]? = some (.string c.key) ∧ (cellVals cs)[4 * i + 1]? = some (.int .u64 c.seq) ∧ (cellVals cs)[4 * i + 2]? = some (.string c.val) ∧ (cellVals cs)[4 * i + 3]? = some (.bool c.gone) := by
  induction cs with
  | nil => intro i c h; simp at h
  | cons c0 cs ih =>
    intro i c h
    have e : cellVals (c0 :: cs) = [.string c0.key, .int .u64 c0.seq, .string c0.val, .bool c0.gone] ++ cellVals cs := rfl
    cases i with
    | zero => simp at h; subst h; rw [e]; simp
    | succ i =>
      have := ih i c (by simpa using h)
      rw [e, show 4 * (i + 1) = 4 * i + 4 by omega]
      simpa [List.getElem?_cons, show 4 * i + 4 + 1 = 4 * i + 1 + 4 by omega, show 4 * i + 4 + 2 = 4 * i + 2 + 4 by omega, show 4 * i + 4 + 3 = 4 * i + 3 + 4 by omega] using this

section
variable {H : Type} {enc : TypeId × Value → H} {W : World}
theorem spot_none {a : Addr} {v : Value} (h : W.cell? a = some v) : a.spot = none := by
  unfold World.cell? at h
  split at h
  · split at h
    · cases h
    · rename_i hs; simpa using hs
  · cases h

set_option maxRecDepth 100000 in
theorem open_cell {base : Nat} {sp : Nat → Bool} {hd : Bool} {v : Value} {d : DataW H} {p : List MemPlace} {r : Reach} {b0 : Nat} (hv : Value.okWide Try.prog W r b0 25 v) (h : DataW.Trod enc Try.prog W base sp hd 25 v d p) :
    ∃ c : Cell, v = .agg #[.string c.key, .int .u64 c.seq, .string c.val, .bool c.gone] ∧ CellWf c ∧ d = cellD c := by
  obtain ⟨v0, v1, v2, v3, y0, y1, y2, y3, n, rfl, rfl, _, h0, h1, h2, h3⟩ := open_agg4 Try.underlying25 (by kernel_rfl) Try.cells25 hv h
  obtain ⟨s0, e0, rfl, w0⟩ := DataW.trod_string Try.underlying9 h0
  obtain ⟨s1, e1, rfl, w1⟩ := DataW.trod_int Try.underlying23 h1
  obtain ⟨s2, e2, rfl, w2⟩ := DataW.trod_string Try.underlying9 h2
  obtain ⟨s3, e3, rfl⟩ := DataW.trod_bool Try.underlying4 h3
  simp at e0 e1 e2 e3
  subst e0 e1 e2 e3
  have hw : 0 ≤ s1 ∧ s1 ≤ 18446744073709551615 := by simpa [Lit.wf, IntKind.min, IntKind.max, IntKind.signed, IntKind.bits] using w1
  exact ⟨⟨s0, s1, s2, s3⟩, rfl, ⟨hw.1, hw.2, w0, w2⟩, rfl⟩

instance : Inhabited Cell := ⟨Cell.zero⟩
theorem add_at {a : Addr} (ha : a.spot = none) (j : Nat) : a.add j = ⟨a.block, a.off + j, none⟩ := by
  cases a
  simp only at ha
  subst ha
  unfold Addr.add
  by_cases h : j = 0 <;> simp [h]

/-- A slice of cells, whatever it is, reads as a list. -/
def CellsD (d : DataW H) (cs : List Cell) : Prop := (d = .nil ∧ cs = []) ∨ ∃ spare, d = .slice (cs.map cellD) spare
set_option maxRecDepth 100000 in
theorem open_cells {v : Value} {d : DataW H} {p : List MemPlace} {r : Reach} {b0 : Nat} (hv : Value.okWide Try.prog W r b0 22 v) (h : DataW.Trod enc Try.prog W 0 (fun _ => true) true 22 v d p) :
    ∃ cs : List Cell, Reads W v cs.length 4 (cellVals cs) ∧ (∀ c ∈ cs, CellWf c) ∧ CellsD d cs := by
  obtain ⟨a0, len, cap, rfl⟩ := okWide_slice Try.underlying22 hv
  obtain ⟨fuel, hf⟩ := h
  rcases open_slice_fields Try.underlying22 Try.underlying25 (by kernel_rfl) Try.cells25 hf with ⟨hcs, hx⟩ | ⟨a, len', cap', m, D, Pl, hcs, _, hl, hm, hmm, hx, hcell⟩
  · simp [Value.cells] at hcs
    obtain ⟨rfl, rfl, rfl⟩ := hcs
    simp only [Prod.mk.injEq] at hx
    exact ⟨[], ⟨rfl, by simp, none, 0, rfl, .inl rfl⟩, by simp, .inl ⟨hx.1, rfl⟩⟩
  · simp [Value.cells] at hcs
    obtain ⟨rfl, rfl, rfl⟩ := hcs
    simp only [Prod.mk.injEq] at hx
    simp only [if_true] at hmm
    subst hmm
    obtain ⟨C, hC⟩ := choose_lt (α := Cell) (p := fun i c => CellWf c ∧ D i = cellD c ∧ W.cell? (a.add (i * 4 + 0)) = some (.string c.key) ∧ W.cell? (a.add (i * 4 + 1)) = some (.int .u64 c.seq) ∧ W.cell? (a.add (i * 4 + 2)) = some (.string c.val) ∧ W.cell? (a.add (i * 4 + 3)) = some (.bool c.gone)) (fun i (hi : i < m) => by
      obtain ⟨ys, n, hD, _, hyl, hfld⟩ := hcell i hi
      obtain ⟨v0, y0, c0, e0, t0⟩ := hfld 0 _ rfl
      obtain ⟨v1, y1, c1, e1, t1⟩ := hfld 1 _ rfl
      obtain ⟨v2, y2, c2, e2, t2⟩ := hfld 2 _ rfl
      obtain ⟨v3, y3, c3, e3, t3⟩ := hfld 3 _ rfl
      obtain ⟨s0, g0, rfl, w0⟩ := DataW.trod_string Try.underlying9 t0
      obtain ⟨s1, g1, rfl, w1⟩ := DataW.trod_int Try.underlying23 t1
      obtain ⟨s2, g2, rfl, w2⟩ := DataW.trod_string Try.underlying9 t2
      obtain ⟨s3, g3, rfl⟩ := DataW.trod_bool Try.underlying4 t3
      simp at g0 g1 g2 g3
      subst g0 g1 g2 g3
      have hw : 0 ≤ s1 ∧ s1 ≤ 18446744073709551615 := by simpa [Lit.wf, IntKind.min, IntKind.max, IntKind.signed, IntKind.bits] using w1
      refine ⟨⟨s0, s1, s2, s3⟩, ⟨hw.1, hw.2, w0, w2⟩, ?_, c0, c1, c2, c3⟩
      rw [hD]
      match ys, hyl, e0, e1, e2, e3 with
      | [z0, z1, z2, z3], _, e0, e1, e2, e3 =>
        simp at e0 e1 e2 e3
        subst e0 e1 e2 e3
        rfl)
    have hlen : ((List.range len).map C).length = len := by simp
    refine ⟨(List.range len).map C, ⟨cellVals_length _, by rw [hlen]; simp only [maxLen] at hm; omega, some a, m, by rw [hlen], ?_⟩, ?_, .inr ⟨(List.range (m - len)).map fun j => D (len + j), ?_⟩⟩
    · rw [hlen]
      rcases Nat.eq_zero_or_pos len with h0 | h0
      · exact .inl h0
      · right
        have hc0 : W.cell? a = some (.string (C 0).key) := (hC 0 (by omega)).2.2.1
        have hsp : a.spot = none := spot_none hc0
        have ha : a = ⟨a.block, a.off, none⟩ := by cases a; simp only at hsp; subst hsp; rfl
        refine ⟨a.block, a.off, by rw [← ha], World.block_lt_of_cell? W _ hc0, fun j u hj => ?_⟩
        have hjl : j < len * 4 := by
          have := (List.getElem?_eq_some_iff.1 hj).1
          rw [cellVals_length, hlen] at this; exact this
        have hq : ((List.range len).map C)[j / 4]? = some (C (j / 4)) := by
          rw [List.getElem?_map, List.getElem?_range (by omega)]; rfl
        obtain ⟨g0, g1, g2, g3⟩ := cellVals_get _ _ _ hq
        obtain ⟨_, _, c0, c1, c2, c3⟩ := hC (j / 4) (by omega)
        rw [add_at hsp] at c0 c1 c2 c3
        have hcase : j % 4 = 0 ∨ j % 4 = 1 ∨ j % 4 = 2 ∨ j % 4 = 3 := by omega
        rcases hcase with h | h | h | h
        · rw [show 4 * (j / 4) = j by omega, hj] at g0
          rw [show j / 4 * 4 + 0 = j by omega] at c0
          rw [c0]; exact g0.symm
        · rw [show 4 * (j / 4) + 1 = j by omega, hj] at g1
          rw [show j / 4 * 4 + 1 = j by omega] at c1
          rw [c1]; exact g1.symm
        · rw [show 4 * (j / 4) + 2 = j by omega, hj] at g2
          rw [show j / 4 * 4 + 2 = j by omega] at c2
          rw [c2]; exact g2.symm
        · rw [show 4 * (j / 4) + 3 = j by omega, hj] at g3
          rw [show j / 4 * 4 + 3 = j by omega] at c3
          rw [c3]; exact g3.symm
    · intro c hc
      obtain ⟨i, hi, rfl⟩ := List.mem_map.1 hc
      have := List.mem_range.1 hi
      exact (hC i (by omega)).1
    · rw [hx.1, List.map_map]
      congr 1
      exact List.map_congr_left fun i hi => (hC i (by have := List.mem_range.1 hi; omega)).2.1

theorem trodAll_below {W' : World} (hb : Below W.heap.size W W') : ∀ {ts : List TypeId} {vs : List Value} {ds : List (DataW H)} {ps : List MemPlace}, (∀ t ∈ ts, Try.prog.readableRec t = true ∧ t < Try.prog.types.size) →
    DataW.TrodAll enc Try.prog W 0 (fun _ => true) true ts vs ds ps → (∀ x ∈ ps, x.block < W.heap.size) → DataW.TrodAll enc Try.prog W' 0 (fun b => decide (b < W.heap.size)) true ts vs ds ps := by
  intro ts
  induction ts with
  | nil =>
    intro vs ds ps _ h _
    obtain ⟨rfl, rfl, rfl⟩ := trodAll_nil h
    exact trodAll_mk0
  | cons t ts ih =>
    intro vs ds ps hr h hlt
    obtain ⟨v, vs', d, ds', p, q, rfl, rfl, rfl, h0, r0⟩ := trodAll_cons h
    exact trodAll_cons_mk (Below.trod Try.laidOut (hr t (by simp)).1 (hr t (by simp)).2 h0 hb fun x hx => hlt x (by simp [hx])) (ih (fun t' ht' => hr t' (by simp [ht'])) r0 fun x hx => hlt x (by simp [hx]))

/-- What a law's row asks behind the walk. -/
theorem law_post {f : Func} {s : ChangeSpec} {W' : World} {args : Array Value} {ds gs : List (DataW H)} {p : List MemPlace} (hvars : s.vars = [])
    (hW : DataW.Whole enc Try.prog f.params.toList s.vars false W args.toList ds gs p) (hres : f.resultTypes = #[4]) (hr : (s.fn H (ds ++ gs)).results = [.lit (.bool true)]) (ha : (s.fn H (ds ++ gs)).args = ds) (hvs : (s.fn H (ds ++ gs)).vars = [])
    (hread : ∀ t ∈ f.params.toList, Try.prog.readableRec t = true ∧ t < Try.prog.types.size) (hb : Below W.heap.size W W') :
    s.post enc Try.prog f false true false false W args (.bool true) W' := by
  have hW0 := hW
  obtain ⟨p1, q1, hA, hV, rfl, hfz, hnd⟩ := hW
  rw [hvars] at hV
  obtain ⟨rfl, rfl⟩ := trodVars_none hV
  refine ⟨_, _, _, [], p1, [], hW0, ?_, ?_, ?_, hb.frame _, fun h => by cases h⟩
  · rw [hr, hres]; exact trodAll_mk1 (shut_bool Try.underlying4 true)
  · rw [ha]; exact trodAll_below hb hread hA fun x hx => hW0.lt x (by simpa using hx)
  · rw [hvs, hvars]; rfl
end

end Go.Proofs.Ytbcaiegglbdonaa

/-
  '==' of two cells; a slice of cells read at an index.
-/
namespace Go.Proofs.Ytbcaiegglbdonaa
open Go.RowKit

section
variable {P : Program} {d : Nat} {xs ys : Array Value} {f : Field} {fs : List Field} {a b : Value} {r s : Bool} {w : World}
theorem eqf_nil : (Op.eqFields d xs ys []).run P w = .ok true w := by simp [Op.eqFields]
theorem eqf_cons (hn : (f.name == "_") = false) (ha : (part f.type xs f.offset).run P w = .ok a w) (hb : (part f.type ys f.offset).run P w = .ok b w) (he : (Op.equalIn d f.type a b).run P w = .ok r w) (hr : (Op.eqFields d xs ys fs).run P w = .ok s w) : (Op.eqFields d xs ys (f :: fs)).run P w = .ok (r && s) w := by
  have hn' : f.name ≠ "_" := by simpa using hn
  rw [Op.eqFields]
  simp only [if_pos hn', Sem.run_bind, ha, hb, he, Result.andThen_ok]
  cases r
  · simp
  · simpa using hr
theorem eqA_of {t : TypeId} {fs : Array Field} (hu : P.underlying t = some (.struct fs)) (hp : P.stoodInHeld t = false) (h : (Op.eqFields d xs ys fs.toList).run P w = .ok r w) : (Op.equalIn (d + 1) t (.agg xs) (.agg ys)).run P w = .ok r w := by
  have hf : P.fieldsOf t = fs := by simp [Program.fieldsOf, hu]
  rw [run_equalIn_struct (P := P) w d t xs ys (by rw [hf]; exact hu) hp, hf]
  exact h
end
theorem eqIn25 (d : Nat) (w : World) (x0 y0 : ByteArray) (x1 y1 : Int) (x2 y2 : ByteArray) (x3 y3 : Bool) :
    (Op.equalIn (d + 2) 25 (.agg #[.string x0, .int .u64 x1, .string x2, .bool x3]) (.agg #[.string y0, .int .u64 y1, .string y2, .bool y3])).run Try.prog w = .ok (x0.toList == y0.toList && (x1 == y1 && (x2.toList == y2.toList && (x3 == y3 && true)))) w := by
  refine eqA_of Try.underlying25 (by kernel_rfl) ?_
  refine eqf_cons (by rfl) (by go_simp; rfl) (by go_simp; rfl) (by go_simp) ?_
  refine eqf_cons (by rfl) (by go_simp; rfl) (by go_simp; rfl) (by go_simp) ?_
  refine eqf_cons (by rfl) (by go_simp; rfl) (by go_simp; rfl) (by go_simp) ?_
  exact eqf_cons (by rfl) (by go_simp; rfl) (by go_simp; rfl) (by go_simp) eqf_nil
theorem cell_beq (a b : Cell) : (a.key.toList == b.key.toList && (a.seq == b.seq && (a.val.toList == b.val.toList && (a.gone == b.gone && true)))) = decide (a = b) := by
  rw [Bool.eq_iff_iff, decide_eq_true_iff]
  simp only [Bool.and_eq_true, str_beq]
  simp only [beq_iff_eq]
  constructor
  · rintro ⟨h1, h2, h3, h4, _⟩
    cases a; cases b; simp only at h1 h2 h3 h4; subst h1 h2 h3 h4; rfl
  · rintro rfl; simp
theorem cell_eql (a b : Cell) (w : World) : (binOp .eql 25 (.agg #[.string a.key, .int .u64 a.seq, .string a.val, .bool a.gone]) (.agg #[.string b.key, .int .u64 b.seq, .string b.val, .bool b.gone])).run Try.prog w = .ok (.bool (decide (a = b))) w := by
  rw [run_eql_struct, eqIn25 9998, cell_beq]; rfl
theorem cell_neq (a b : Cell) (w : World) : (binOp .neq 25 (.agg #[.string a.key, .int .u64 a.seq, .string a.val, .bool a.gone]) (.agg #[.string b.key, .int .u64 b.seq, .string b.val, .bool b.gone])).run Try.prog w = .ok (.bool (!decide (a = b))) w := by
  rw [run_neq_struct, eqIn25 9998, cell_beq]; rfl

/-- The k-th cell of a slice of cells. -/
theorem Reads.cell_at {w : World} {A : Option Addr} {cap : Nat} {cs : List Cell} (h : Reads w (.slice A cs.length cap) cs.length 4 (cellVals cs)) {k : Nat} {c : Cell} (hk : cs[k]? = some c) :
    ∃ b o, A = some ⟨b, o, none⟩ ∧ b < w.heap.size ∧ w.cell? ⟨b, o + k * 4, none⟩ = some (.string c.key) ∧ w.cell? ⟨b, o + k * 4 + 1, none⟩ = some (.int .u64 c.seq) ∧ w.cell? ⟨b, o + k * 4 + 2, none⟩ = some (.string c.val) ∧ w.cell? ⟨b, o + k * 4 + 3, none⟩ = some (.bool c.gone) := by
  obtain ⟨_, _, A', cap', e, h3⟩ := h
  injection e with e1 e2 e3
  subst e1 e3
  have hlt := (List.getElem?_eq_some_iff.1 hk).1
  obtain ⟨b, o, rfl, hb, hc⟩ := h3.resolve_left (by omega)
  obtain ⟨g0, g1, g2, g3⟩ := cellVals_get cs k c hk
  refine ⟨b, o, rfl, hb, ?_, ?_, ?_, ?_⟩
  · rw [Nat.mul_comm]; exact hc _ _ g0
  · rw [Nat.mul_comm, Nat.add_assoc]; exact hc _ _ g1
  · rw [Nat.mul_comm, Nat.add_assoc]; exact hc _ _ g2
  · rw [Nat.mul_comm, Nat.add_assoc]; exact hc _ _ g3
theorem Reads.form {w : World} {v : Value} {n k : Nat} {xs : List Value} (h : Reads w v n k xs) : ∃ A cap, v = .slice A n cap := by
  obtain ⟨_, _, A, cap, rfl, _⟩ := h; exact ⟨A, cap, rfl⟩

end Go.Proofs.Ytbcaiegglbdonaa

/-
  mem.Cells; the laws' 'same' of two slices of cells; Size and Len by the model.
-/
namespace Go.Proofs.Ytbcaiegglbdonaa
open Go.RowKit

def CellsPost (w : World) (cs : List Cell) (e : Ending) (w' : World) : Prop := ∃ v, e = .returned v ∧ w'.ownsRow w.heap.size 25 4 v cs.length (cellVals cs) ∧ Below w.heap.size w w'
def CellsRel (w : World) (L : List Node) (k : Nat) (out n : Value) (wr : World) : Prop :=
  ∃ pre post, L = pre ++ post ∧ post.length ≤ k ∧ n = ptrv (post.head?.map (·.b)) ∧ wr.ownsRow w.heap.size 25 4 out (pre.map (·.c)).length (cellVals (pre.map (·.c))) ∧ Below w.heap.size w wr
theorem cellVals_append (a b : List Cell) : cellVals (a ++ b) = cellVals a ++ cellVals b := by simp [cellVals]
theorem news4 (w : World) (c : Cell) : ∀ j u, ([.string c.key, .int .u64 c.seq, .string c.val, .bool c.gone] : List Value)[j]? = some u → (w.alloc (.cells #[.string c.key, .int .u64 c.seq, .string c.val, .bool c.gone] 25)).cell? ((⟨w.heap.size, 0, none⟩ : Addr).add j) = some u := by
  intro j u hj
  rw [add_at rfl]
  show World.cell? _ ⟨w.heap.size, 0 + j, none⟩ = _
  rw [Nat.zero_add]
  exact (Blk.new w #[.string c.key, .int .u64 c.seq, .string c.val, .bool c.gone] 25).cell j u (by simpa using hj)

set_option maxRecDepth 100000 in
set_option maxHeartbeats 1000000 in
theorem cells_spec {w : World} {a hb : Nat} {L : List Node} {sz : Int} (hs : Skip w a hb L sz) (hh : ∀ n ∈ L, 1 ≤ n.h) (hl : L.length * 48 ≤ 140737488355328) :
    Calls Try.prog 24 #[.pointer (some ⟨a, 0, none⟩)] w (CellsPost w (L.map (·.c))) := by
  have hm0 : w.cell? ⟨a, 0, none⟩ = some (.pointer (some ⟨hb, 0, none⟩)) := hs.mem.cell 0 _ rfl
  have hh0 := hs.head.cell 4 _ (nodeArr_get Cell.zero (links 12 L) (i := 0) (by omega))
  have hhb := hs.head.lt
  have e0 : links 12 L 0 = .pointer ((L.head?.map (·.b)).map fun b => ⟨b, 0, none⟩) := by rw [links, if_pos (by omega), nxt0 hh]; rfl
  rw [e0] at hh0
  clear e0
  obtain ⟨i0, hi, hz0, hz1, hz2⟩ := info_parts Try.infoCell
  go_enter Try.func24, Try.ntmps24
  go_wp2_with (first | (go_at_call 73; refine (made_yes hm0).mono ?_; rintro e w' ⟨rfl, rfl⟩))
  clear hm0 hh0 hhb
  go_loopg [3, 4] L.length (CellsRel w L)
  case atStart => exact ⟨[], L, rfl, Nat.le_refl _, by cases L <;> rfl, ⟨rfl, .inl ⟨rfl, rfl⟩⟩, Below.refl _ _⟩
  case round =>
    obtain ⟨pre, post, hL, hgk, rfl, hown, hbel⟩ := hrel
    have HL := Lib.hid hL
    clear hL
    cases post with
    | nil =>
      unfold ptrv
      go_wp2
      go_ret
      have hL := HL.out
      simp only [List.append_nil] at hL
      subst hL
      exact ⟨_, rfl, hown, hbel⟩
    | cons n post =>
      have hsk := hs.kept hbel
      have hnb : Blk wr n.b (nodeArr n.c (links n.h post)) 105 := by have h := hsk.nodes; rw [HL.out] at h; exact h.at_
      obtain ⟨k0, k1, k2, k3⟩ := nodeArr_cells hnb
      have k4 := hnb.cell 4 _ (nodeArr_get n.c (links n.h post) (i := 0) (by omega))
      have e0 : links n.h post 0 = .pointer ((post.head?.map (·.b)).map fun b => ⟨b, 0, none⟩) := by
        have h1 := hh n (by rw [HL.out]; simp)
        rw [links, if_pos (by omega), nxt0 fun m hm => hh m (by rw [HL.out]; simp [hm])]; rfl
      rw [e0] at k4
      clear e0
      have hnl := hnb.lt
      have hnB : n.b < w.heap.size := hs.foot_lt (.inr (.inr ⟨n, by rw [HL.out]; simp, rfl⟩))
      have hlen : (pre.map (·.c)).length + 1 ≤ L.length := by rw [HL.out]; simp
      have hsz := hbel.size
      show Code.wp _ _ _ ⟨#[_, _, _, _, .pointer (some ⟨n.b, 0, none⟩), _, _, _, _, _, _, _, _, _, _, _, _, _, _, _, _, _, _, _, _, _, _, _, _, _, _], _⟩ _
      have q3 : (pre.map (·.c)).length + 1 ≤ maxLen := by unfold maxLen; omega
      have q4 : ((pre.map (·.c)).length + 1) * 48 ≤ 140737488355328 := by omega
      have q5 : w.heap.size ≤ (wr.alloc (.cells #[.string n.c.key, .int .u64 n.c.seq, .string n.c.val, .bool n.c.gone] 25)).heap.size := by simp only [World.size_alloc]; omega
      go_wp2_with (at_builtin; refine wpList_append_own _ rfl _ _ 22 rfl w.heap.size 25 i0 cellZ 4 48 Try.underlying22 hi hz0 hz1 hz2 rfl (by decide) _ _ _ rfl (hown.alloc _) ⟨wr.heap.size, 0, none⟩ 1 1 [.string n.c.key, .int .u64 n.c.seq, .string n.c.val, .bool n.c.gone] rfl rfl (news4 _ _) (by simp [Value.oneCell']) q3 q4 q5 ?_)
      intro v' w1 hown1 hgr _
      have hb1 : Below w.heap.size w w1 := (hbel.alloc hbel.size _).grown hgr q5 (fun j hj => (hown.lt j hj).1)
      have k4' : w1.cell? ⟨n.b, 4, none⟩ = some (.pointer ((post.head?.map (·.b)).map fun b => ⟨b, 0, none⟩)) := by
        rw [hb1.cell (p := ⟨n.b, 4, none⟩) hnB, ← hbel.cell (p := ⟨n.b, 4, none⟩) hnB]; exact k4
      clear k4
      go_wp2
      go_roundg post.length
      case measure => simp at hgk; omega
      case rel => exact ⟨pre ++ [n], post, by rw [HL.out]; simp, Nat.le_refl _, by cases post <;> rfl, by simpa [cellVals_append, cellVals] using hown1, hb1⟩

theorem cells_model {w : World} {a : Nat} {F : Nat → Prop} {M : MM} (hm : MemIs w a F M) (hl : M.length * 48 ≤ 140737488355328) : Calls Try.prog 24 #[.pointer (some ⟨a, 0, none⟩)] w (CellsPost w (M.map (·.1))) := by
  obtain ⟨hb, L, hs, hL, hF⟩ := hm.skip
  have h := cells_spec hs (fun n hn => (hm.pos (n.c, n.h) (by rw [← hL]; exact List.mem_map.2 ⟨n, hn, rfl⟩)).1) (by rw [← hL, List.length_map] at hl; exact hl)
  rw [← hL, List.map_map]
  exact h
theorem size_model {w : World} {a : Nat} {F : Nat → Prop} {M : MM} (hm : MemIs w a F M) : Calls Try.prog 29 #[.pointer (some ⟨a, 0, none⟩)] w fun e w' => e = .returned (.int .i64 (sizeM M)) ∧ w = w' := by
  obtain ⟨hb, L, hs, hL, hF⟩ := hm.skip
  exact size_spec hs

end Go.Proofs.Ytbcaiegglbdonaa

/-
  The laws' 'same' of two slices of cells.
-/
namespace Go.Proofs.Ytbcaiegglbdonaa
open Go.RowKit

def SameCRel (w : World) (l1 l2 : List Cell) (i : Value) (wr : World) : Prop := ∃ k : Nat, k ≤ l1.length ∧ i = .int .i64 k ∧ l1.take k = l2.take k ∧ Below w.heap.size w wr
set_option maxRecDepth 100000 in
set_option maxHeartbeats 1000000 in
theorem same_spec {w : World} {v1 v2 : Value} {l1 l2 : List Cell} (h1 : Reads w v1 l1.length 4 (cellVals l1)) (h2 : Reads w v2 l2.length 4 (cellVals l2)) :
    Calls Try.prog 27 #[v1, v2] w fun e w' => e = .returned (.bool (decide (l1 = l2))) ∧ Below w.heap.size w w' := by
  obtain ⟨A1, c1, rfl⟩ := h1.form
  obtain ⟨A2, c2, rfl⟩ := h2.form
  have hm1 := h1.2.1
  have hm2 := h2.2.1
  have H1 := Lib.hid h1
  have H2 := Lib.hid h2
  clear h1 h2
  by_cases hl : l1.length = l2.length
  · have hlb : ((l1.length : Int) != (l2.length : Int)) = false := by simp [hl]
    have HL := Lib.hid hl
    clear hl
    go_enter Try.func27, Try.ntmps27
    go_wp2
    go_loopw [13] (SameCRel w l1 l2) (fun i _ => l1.length - (intOf i).toNat)
    case atStart => exact ⟨0, by omega, rfl, rfl, Below.refl _ _⟩
    case round =>
      obtain ⟨k, hk, rfl, heq, hbel⟩ := hrel
      by_cases hlt : k < l1.length
      · obtain ⟨x, hx⟩ : ∃ x, l1[k]? = some x := ⟨_, List.getElem?_eq_getElem hlt⟩
        obtain ⟨y, hy⟩ : ∃ y, l2[k]? = some y := ⟨_, List.getElem?_eq_getElem (by have := HL.out; omega)⟩
        obtain ⟨b1, o1, rfl, g1, p0, p1, p2, p3⟩ := (H1.out.kept hbel).cell_at hx
        obtain ⟨b2, o2, rfl, g2, q0, q1, q2, q3⟩ := (H2.out.kept hbel).cell_at hy
        have i1 : (k : Int) < (l1.length : Int) := by omega
        have i2 : (k : Int) < (l2.length : Int) := by have := HL.out; omega
        have i0 : (0 : Int) ≤ (k : Int) := by omega
        have HX := Lib.hid hx
        have HY := Lib.hid hy
        have HE := Lib.hid heq
        clear hx hy heq
        have hne := cell_neq x y
        by_cases hxy : x = y
        · have hb : decide (x = y) = true := by simp [hxy]
          rw [hb] at hne
          have HXY := Lib.hid hxy
          clear hxy hb
          go_wp2
          go_quiet (fail)
          go_wp2
          go_roundw
          case rel => exact ⟨k + 1, by omega, by go_num, same_step HE.out HX.out HY.out HXY.out, below_drewN hbel nq⟩
          case measure => simp [intOf]; omega
        · have hb : decide (x = y) = false := by simp [hxy]
          rw [hb] at hne
          have hnl : decide (l1 = l2) = false := by
            simp; rintro rfl; exact hxy (Option.some.inj (HX.out.symm.trans HY.out))
          have HN := Lib.hid hnl
          clear hnl hxy hb
          go_wp2
          go_quiet (fail)
          go_wp2
          go_ret
          exact ⟨ret_bool HN.out.symm, below_drewN hbel nq⟩
      · obtain rfl : k = l1.length := by omega
        have heq' : decide (l1 = l2) = true := by
          simp
          have := heq
          rwa [List.take_length, HL.out, List.take_length] at this
        have HN := Lib.hid heq'
        clear heq heq'
        go_wp2
        go_ret
        exact ⟨ret_bool HN.out.symm, hbel⟩
  · have hlb : ((l1.length : Int) != (l2.length : Int)) = true := by simp; omega
    have hne : decide (l1 = l2) = false := by simp; rintro rfl; exact hl rfl
    rw [hne]
    clear hne hl
    go_enter Try.func27, Try.ntmps27
    go_wp2
    go_ret
    exact ⟨rfl, Below.refl _ _⟩

end Go.Proofs.Ytbcaiegglbdonaa

/-
  mem.Scan's iterator: what it goes over, for every loop body that leaves alone the memory that is not its own.
-/
namespace Go.Proofs.Ytbcaiegglbdonaa
open Go.RowKit Go.Shelf
attribute [local go_sem] Oper.semAt_some

/-! ### What a round keeps -/
/-- The caller's own blocks: those of X, and the block of the slice that the variable pb holds. -/
def Sx (X : Nat → Prop) (pb : Nat) (W : World) (b : Nat) : Prop := X b ∨ ∃ o n c, W.cell? ⟨pb, 0, none⟩ = some (.slice (some ⟨b, o, none⟩) n c)
structure KpC (X : Nat → Prop) (pb : Nat) (W W' : World) : Prop where
  size : W.heap.size ≤ W'.heap.size
  block : ∀ b o, ¬ Sx X pb W b → W.heap[b]? = some o → o.isCells = true → W'.heap[b]? = some o
  sub : ∀ b, b < W.heap.size → Sx X pb W' b → Sx X pb W b
theorem KpC.refl (X : Nat → Prop) (pb : Nat) (W : World) : KpC X pb W W := ⟨Nat.le_refl _, fun _ _ _ h _ => h, fun _ _ h => h⟩
theorem KpC.trans {X : Nat → Prop} {pb : Nat} {A B C : World} (h : KpC X pb A B) (k : KpC X pb B C) : KpC X pb A C :=
  ⟨Nat.le_trans h.size k.size, fun b o hn hb ho => k.block b o (fun hs => hn (h.sub b (lt_of_block hb) hs)) (h.block b o hn hb ho) ho, fun b hb hs => h.sub b hb (k.sub b (Nat.lt_of_lt_of_le hb h.size) hs)⟩
theorem KpC.of_below {X : Nat → Prop} {pb : Nat} {W W' : World} (hb : Below W.heap.size W W') (hp : pb < W.heap.size) : KpC X pb W W' :=
  ⟨hb.size, fun b o _ h _ => (hb.block b (lt_of_block h)).trans h, fun b _ hs => hs.imp id fun ⟨o, n, c, h⟩ => ⟨o, n, c, by rw [← hb.cell (p := ⟨pb, 0, none⟩) hp]; exact h⟩⟩
theorem kpC_b {X : Nat → Prop} {pb : Nat} {w : World} (hp : pb < w.heap.size) (W : World) (l : Nat) (o o' : Obj) (hl : w.heap.size ≤ l) (h : W.heap[l]? = some o) (ho : o.isCells = false) (_ : o.isWalk = false) : KpC X pb W (W.putObj l o') := by
  have hg := grownBy_putObj' W l o'
  refine ⟨hg.size, fun b o2 _ hb hc => (hg.block b (lt_of_block hb) (fun e => ?_)).trans hb, fun b _ hs => hs.imp id fun ⟨x, n, c, h⟩ => ⟨x, n, c, ?_⟩⟩
  · cases e; rw [h] at hb; cases hb; rw [ho] at hc; cases hc
  · have : (W.putObj l o').heap[pb]? = W.heap[pb]? := World.putObj_heap_other (by omega)
    simpa [World.cell?, this] using h
theorem Blk.kp {X : Nat → Prop} {pb : Nat} {W W' : World} {b : Nat} {arr : Array Value} {t : TypeId} (h : Blk W b arr t) (hk : KpC X pb W W') (hn : ¬ Sx X pb W b) : Blk W' b arr t := hk.block b _ hn h rfl
theorem KpC.own {X : Nat → Prop} {pb : Nat} {W W' : World} {B e k n : Nat} {v : Value} {xs : List Value} (h : W.ownsRow B e k v n xs) (hk : KpC X pb W W') (hn : ∀ g, v.ownBlock = some g → ¬ Sx X pb W g) : W'.ownsRow B e k v n xs := by
  obtain ⟨h1, h2⟩ := h
  refine ⟨h1, h2.imp id ?_⟩
  rintro ⟨g, cap, cur, rfl, hB, hg, hr⟩
  exact ⟨g, cap, cur, rfl, hB, hk.block g _ (hn g rfl) hg rfl, hr⟩

/-! ### What it goes over -/
def scanL (fr «to» : ByteArray) : List Cell → List Cell
  | [] => []
  | c :: cs => if Op.bytesLess c.key.toList fr.toList = true then scanL fr «to» cs else if «to».toList ≠ [] ∧ Op.bytesLess c.key.toList «to».toList = false then [] else c :: scanL fr «to» cs
def ScanRel (J : List Cell → World → Prop) (X : Nat → Prop) (pb b1 b2 : Nat) (fr «to» : ByteArray) (cs : List Cell) (v : Value) (i : Value) (wr : World) : Prop :=
  ∃ (k : Nat) (pre : List Cell), k ≤ cs.length ∧ i = .int .i64 k ∧ scanL fr «to» cs = pre ++ scanL fr «to» (cs.drop k) ∧ J pre wr ∧ Blk wr b1 #[.string fr] 9 ∧ Blk wr b2 #[.string «to»] 9 ∧ ¬ Sx X pb wr b1 ∧ ¬ Sx X pb wr b2 ∧
    pb < wr.heap.size ∧
    (∃ B, wr.ownsRow B 25 4 v cs.length (cellVals cs)) ∧ ∀ g, v.ownBlock = some g → ¬ Sx X pb wr g

set_option maxRecDepth 100000 in
set_option maxHeartbeats 1000000 in
theorem scan1_any (n : Nat) (hn : 1 ≤ n) (l : Nat) (X : Nat → Prop) (pb b0 b1 b2 : Nat) (p : Value) (cs : List Cell) (fr «to» : ByteArray) (J Jx : List Cell → World → Prop) (W : World)
    (hJ : AbidesFrom W.heap.size J)
    (hY : ∀ pre x W1, J pre W1 → pre.length < (scanL fr «to» cs).length → YieldAt Fence.wide (n - 1) Try.prog l #[.agg #[.string x.key, .int .u64 x.seq, .string x.val, .bool x.gone]] W1 fun e W' =>
      (e = .returned (.bool true) ∧ J (pre ++ [x]) W' ∧ KpC X pb W1 W') ∨ (e = .returned (.bool false) ∧ Jx (pre ++ [x]) W'))
    (h0 : Blk W b0 #[p] 26) (h1 : Blk W b1 #[.string fr] 9) (h2 : Blk W b2 #[.string «to»] 9) (n1 : ¬ Sx X pb W b1) (n2 : ¬ Sx X pb W b2) (hS : ∀ b, Sx X pb W b → b < W.heap.size) (hpb : pb < W.heap.size)
    (hcs : Calls Try.prog 24 #[p] W (CellsPost W cs)) (hcb : cs.length ≤ 2932031007403) (hp1 : ∃ q, p = .pointer q) (hj0 : J [] W) :
    CallsIn Fence.wide n Try.prog 77 #[.func (.yield l) #[] #[], .pointer (some ⟨b0, 0, none⟩), .pointer (some ⟨b1, 0, none⟩), .pointer (some ⟨b2, 0, none⟩)] W fun e W' => (∃ v, e = .returned v) ∧
      ((∃ ys, ys = scanL fr «to» cs ∧ J ys W') ∨ (∃ pre, pre <+: scanL fr «to» cs ∧ Jx pre W')) := by
  obtain ⟨q, rfl⟩ := hp1
  have c0 : W.cell? ⟨b0, 0, none⟩ = some (.pointer q) := h0.cell 0 _ rfl
  have l0 := h0.lt
  refine callsIn_of_wp Try.func77 rfl trivial ?_ rfl
  simp only [Try.ntmps77, List.size_toArray, List.length_cons, List.length_nil, Nat.reduceAdd, Nat.reduceSub, Array.replicate_succ, Array.replicate_zero, List.push_toArray, List.append_toArray, List.nil_append, List.cons_append]
  have hn1 : 1 ≤ n - 1 + 1 := by omega
  gi_wp2_with (first | (refine ⟨trivial, ?_⟩; gi_at_call 24; refine (callsIn_wide.2 hcs).mono ?_; rintro e w' ⟨v, rfl, hown, hbel⟩; obtain ⟨A, cap, rfl⟩ := (Reads.of_own hown).form))
  have hsx : ∀ b, Sx X pb w' b → b < W.heap.size := fun b hs => hS b (hs.imp id fun ⟨o, x, c, h⟩ => ⟨o, x, c, by rw [← hbel.cell (p := ⟨pb, 0, none⟩) hpb]; exact h⟩)
  have hk0 : KpC X pb W w' := KpC.of_below hbel hpb
  gi_loopw [10] (ScanRel J X pb b1 b2 fr «to» cs (.slice A cs.length cap)) (fun i _ => cs.length - (intOf i).toNat)
  case atStart =>
    exact ⟨0, [], Nat.zero_le _, rfl, rfl, hJ _ _ _ none hj0 ⟨hbel.os, hbel.tape, hbel.output, hbel.size, fun k hk _ => hbel.block k hk⟩ (fun r e => by cases e), h1.kept hbel, h2.kept hbel, fun h => n1 (hk0.sub _ h1.lt h), fun h => n2 (hk0.sub _ h2.lt h), Nat.lt_of_lt_of_le hpb hbel.size, ⟨_, hown⟩,
      fun g hg h => by have := hsx g h; have := (hown.lt g hg).1; omega⟩
  case round =>
    obtain ⟨k, pre, hk, rfl, hsc, hJr, r1, r2, m1, m2, hpw, ⟨B, how⟩, hAo⟩ := hrel
    by_cases hlt : k < cs.length
    · obtain ⟨x, hx⟩ : ∃ x, cs[k]? = some x := ⟨_, List.getElem?_eq_getElem hlt⟩
      obtain ⟨b, o, rfl, g1, p0, p1, p2, p3⟩ := (Reads.of_own how).cell_at hx
      have i1 : (k : Int) < (cs.length : Int) := by omega
      have i0 : (0 : Int) ≤ (k : Int) := by omega
      have hJ1 : J pre (wr.alloc (.cells #[.string x.key, .int .u64 x.seq, .string x.val, .bool x.gone] 25)) := hJ _ _ _ none hJr (World.grownBy_alloc _ _ none) (fun r e => by cases e)
      have hka : KpC X pb wr (wr.alloc (.cells #[.string x.key, .int .u64 x.seq, .string x.val, .bool x.gone] 25)) := KpC.of_below ((Below.refl _ _).alloc (Nat.le_refl _) _) hpw
      have hdr : cs.drop k = x :: cs.drop (k + 1) := by rw [List.drop_eq_getElem_cons hlt]; congr; simpa [List.getElem?_eq_getElem hlt] using hx
      have HX := Lib.hid hx
      have HD := Lib.hid hdr
      have HS := Lib.hid hsc
      have e1 : wr.cell? ⟨b1, 0, none⟩ = some (.string fr) := r1.cell 0 _ rfl
      have e2 : wr.cell? ⟨b2, 0, none⟩ = some (.string «to») := r2.cell 0 _ rfl
      have d1 := r1.lt
      have d2 := r2.lt
      clear hx hdr hsc
      by_cases hlow : Op.bytesLess x.key.toList fr.toList = true
      · have hsl := Lib.hid (show scanL fr «to» (x :: cs.drop (k + 1)) = scanL fr «to» (cs.drop (k + 1)) by rw [scanL, if_pos hlow])
        gi_wp2_with fail
        go_roundw
        case rel =>
          exact ⟨k + 1, pre, by omega, by go_num, by rw [HS.out, HD.out, hsl.out], hJ1, r1.kp hka m1, r2.kp hka m2, fun h => m1 (hka.sub _ d1 h), fun h => m2 (hka.sub _ d2 h), Nat.lt_of_lt_of_le hpw hka.size, ⟨B, KpC.own how hka hAo⟩, fun g hg h => hAo g hg (hka.sub _ (how.lt g hg).2 h)⟩
        case measure => simp [intOf]; omega
      have hlow : Op.bytesLess x.key.toList fr.toList = false := by simpa using hlow
      by_cases hto : «to».toList = []
      · have hsl := Lib.hid (show scanL fr «to» (x :: cs.drop (k + 1)) = x :: scanL fr «to» (cs.drop (k + 1)) by rw [scanL, if_neg (by simp [hlow]), if_neg (by simp [hto])])
        obtain ⟨fn, tmps, assign, body, hy, hR⟩ := hY pre x _ hJ1 (by rw [HS.out, HD.out, hsl.out]; simp)
        gi_wp2_with fail
        refine hR.mono ?_
        rintro e W3 (⟨rfl, hJ3, hk3⟩ | ⟨rfl, hJx3⟩)
        · gi_wp2_with fail
          go_roundw
          case rel =>
            have hk4 := hka.trans hk3
            exact ⟨k + 1, pre ++ [x], by omega, by go_num, by rw [HS.out, HD.out, hsl.out]; simp, hJ3, r1.kp hk4 m1, r2.kp hk4 m2, fun h => m1 (hk4.sub _ d1 h), fun h => m2 (hk4.sub _ d2 h), Nat.lt_of_lt_of_le hpw hk4.size, ⟨B, KpC.own how hk4 hAo⟩, fun g hg h => hAo g hg (hk4.sub _ (how.lt g hg).2 h)⟩
          case measure => simp [intOf]; omega
        · gi_wp2_with fail
          refine bodyPost_ret (results_none rfl _ _ _) rfl ?_
          exact ⟨⟨_, rfl⟩, .inr ⟨pre ++ [x], by rw [HS.out, HD.out, hsl.out]; exact ⟨_, by rw [List.append_assoc]; rfl⟩, hJx3⟩⟩
      by_cases hhi : Op.bytesLess x.key.toList «to».toList = true
      · have hsl := Lib.hid (show scanL fr «to» (x :: cs.drop (k + 1)) = x :: scanL fr «to» (cs.drop (k + 1)) by rw [scanL, if_neg (by simp [hlow]), if_neg (by simp [hhi])])
        obtain ⟨fn, tmps, assign, body, hy, hR⟩ := hY pre x _ hJ1 (by rw [HS.out, HD.out, hsl.out]; simp)
        gi_wp2_with fail
        refine hR.mono ?_
        rintro e W3 (⟨rfl, hJ3, hk3⟩ | ⟨rfl, hJx3⟩)
        · gi_wp2_with fail
          go_roundw
          case rel =>
            have hk4 := hka.trans hk3
            exact ⟨k + 1, pre ++ [x], by omega, by go_num, by rw [HS.out, HD.out, hsl.out]; simp, hJ3, r1.kp hk4 m1, r2.kp hk4 m2, fun h => m1 (hk4.sub _ d1 h), fun h => m2 (hk4.sub _ d2 h), Nat.lt_of_lt_of_le hpw hk4.size, ⟨B, KpC.own how hk4 hAo⟩, fun g hg h => hAo g hg (hk4.sub _ (how.lt g hg).2 h)⟩
          case measure => simp [intOf]; omega
        · gi_wp2_with fail
          refine bodyPost_ret (results_none rfl _ _ _) rfl ?_
          exact ⟨⟨_, rfl⟩, .inr ⟨pre ++ [x], by rw [HS.out, HD.out, hsl.out]; exact ⟨_, by rw [List.append_assoc]; rfl⟩, hJx3⟩⟩
      have hhi : Op.bytesLess x.key.toList «to».toList = false := by simpa using hhi
      have hsl := Lib.hid (show scanL fr «to» (x :: cs.drop (k + 1)) = [] by rw [scanL, if_neg (by simp [hlow]), if_pos ⟨hto, hhi⟩])
      gi_wp2_with fail
      refine ⟨fun _ h => (by cases h), ?_⟩
      gi_wp2_with fail
      refine bodyPost_ret (results_none rfl _ _ _) rfl ?_
      exact ⟨⟨_, rfl⟩, .inl ⟨pre, by rw [HS.out, HD.out, hsl.out]; simp, hJ1⟩⟩
    · obtain rfl : k = cs.length := by omega
      have HS := Lib.hid hsc
      clear hsc
      gi_wp2_with fail
      go_end0
      exact ⟨⟨_, rfl⟩, .inl ⟨pre, by rw [HS.out]; simp [scanL], hJr⟩⟩

theorem scan1_in (n : Nat) (hn : 1 ≤ n) (l : Nat) (X : Nat → Prop) (pb b0 b1 b2 : Nat) (a : Nat) (F : Nat → Prop) (M : MM) (fr «to» : ByteArray) (J Jx : List Cell → World → Prop) (W : World)
    (hJ : AbidesFrom W.heap.size J) (_ : AbidesFrom W.heap.size Jx)
    (hY : ∀ pre x W1, J pre W1 → pre.length < (scanL fr «to» (M.map (·.1))).length → YieldAt Fence.wide (n - 1) Try.prog l #[.agg #[.string x.key, .int .u64 x.seq, .string x.val, .bool x.gone]] W1 fun e W' =>
      (e = .returned (.bool true) ∧ J (pre ++ [x]) W' ∧ KpC X pb W1 W') ∨ (e = .returned (.bool false) ∧ Jx (pre ++ [x]) W'))
    (h0 : Blk W b0 #[.pointer (some ⟨a, 0, none⟩)] 26) (h1 : Blk W b1 #[.string fr] 9) (h2 : Blk W b2 #[.string «to»] 9) (n1 : ¬ Sx X pb W b1) (n2 : ¬ Sx X pb W b2) (hS : ∀ b, Sx X pb W b → b < W.heap.size) (hpb : pb < W.heap.size)
    (hm : MemIs W a F M) (hl : M.length * 48 ≤ 140737488355328) (hj0 : J [] W) :
    CallsIn Fence.wide n Try.prog 77 #[.func (.yield l) #[] #[], .pointer (some ⟨b0, 0, none⟩), .pointer (some ⟨b1, 0, none⟩), .pointer (some ⟨b2, 0, none⟩)] W fun e W' => (∃ v, e = .returned v) ∧
      ((∃ ys, ys = scanL fr «to» (M.map (·.1)) ∧ J ys W') ∨ (∃ pre, pre <+: scanL fr «to» (M.map (·.1)) ∧ Jx pre W')) :=
  scan1_any n hn l X pb b0 b1 b2 (.pointer (some ⟨a, 0, none⟩)) (M.map (·.1)) fr «to» J Jx W hJ hY h0 h1 h2 n1 n2 hS hpb (cells_model hm hl) (by rw [List.length_map]; omega) ⟨_, rfl⟩ hj0

end Go.Proofs.Ytbcaiegglbdonaa

/-
  The reference's Less; two scans that touch are one (plain).
-/
namespace Go.Proofs.Ytbcaiegglbdonaa
open Go.RowKit

theorem lt_str (a b : ByteArray) : Op.bytesLess a.toList b.toList = true ↔ SLt a b := by rw [Lib.toList_data, Lib.toList_data]; rfl

set_option maxRecDepth 100000 in
set_option maxHeartbeats 1000000 in
theorem less_spec (a b : Cell) (w : World) :
    Calls Try.prog 25 #[.agg #[.string a.key, .int .u64 a.seq, .string a.val, .bool a.gone], .agg #[.string b.key, .int .u64 b.seq, .string b.val, .bool b.gone]] w fun e w' => e = .returned (.bool (decide (PLt a.key a.seq b.key b.seq))) ∧ Below w.heap.size w w' := by
  by_cases h1 : Op.bytesLess a.key.toList b.key.toList = true
  · have hp : decide (PLt a.key a.seq b.key b.seq) = true := by simp only [decide_eq_true_eq]; exact .inl ((lt_str _ _).1 h1)
    rw [hp]
    clear hp
    go_enter Try.func25, Try.ntmps25
    go_wp2_with fail
    go_ret
    exact ⟨rfl, ((Below.refl _ _).alloc (Nat.le_refl _) _).alloc (by simp) _⟩
  have h1 : Op.bytesLess a.key.toList b.key.toList = false := by simpa using h1
  by_cases h2 : (a.key.toList == b.key.toList) = true
  · by_cases h3 : b.seq < a.seq
    · have hp : decide (PLt a.key a.seq b.key b.seq) = true := by simp only [decide_eq_true_eq]; exact .inr ⟨str_beq.1 h2, h3⟩
      rw [hp]
      clear hp
      go_enter Try.func25, Try.ntmps25
      go_wp2_with fail
      go_ret
      exact ⟨rfl, ((Below.refl _ _).alloc (Nat.le_refl _) _).alloc (by simp) _⟩
    · have hp : decide (PLt a.key a.seq b.key b.seq) = false := by
        simp only [decide_eq_false_iff_not]
        rintro (h | ⟨_, h⟩)
        · rw [(lt_str _ _).2 h] at h1; cases h1
        · exact h3 h
      rw [hp]
      clear hp
      go_enter Try.func25, Try.ntmps25
      go_wp2_with fail
      go_ret
      exact ⟨rfl, ((Below.refl _ _).alloc (Nat.le_refl _) _).alloc (by simp) _⟩
  have h2 : (a.key.toList == b.key.toList) = false := by simpa using h2
  have hp : decide (PLt a.key a.seq b.key b.seq) = false := by
    simp only [decide_eq_false_iff_not]
    rintro (h | ⟨h, _⟩)
    · rw [(lt_str _ _).2 h] at h1; cases h1
    · exact str_beq_false.1 h2 h
  rw [hp]
  clear hp
  go_enter Try.func25, Try.ntmps25
  go_wp2_with fail
  go_ret
  exact ⟨rfl, ((Below.refl _ _).alloc (Nat.le_refl _) _).alloc (by simp) _⟩

/-! ### Plain -/
theorem scanL_low {fr «to» : ByteArray} {cs : List Cell} (h : ∀ c ∈ cs, SLt c.key fr) (ds : List Cell) : scanL fr «to» (cs ++ ds) = scanL fr «to» ds := by
  induction cs with
  | nil => rfl
  | cons c cs ih => simp only [List.cons_append, scanL]; rw [if_pos ((lt_str _ _).2 (h c (by simp)))]; exact ih fun d hd => h d (by simp [hd])
def KSorted (cs : List Cell) : Prop := cs.Pairwise fun x y => ¬ SLt y.key x.key
theorem scanL_filter {fr «to» : ByteArray} : ∀ {cs : List Cell}, KSorted cs → scanL fr «to» cs = cs.filter fun c => !Op.bytesLess c.key.toList fr.toList && (decide («to».toList = []) || Op.bytesLess c.key.toList «to».toList) := by
  intro cs
  induction cs with
  | nil => intro _; rfl
  | cons c cs ih =>
    intro hs
    obtain ⟨h1, h2⟩ := List.pairwise_cons.1 hs
    unfold scanL
    by_cases hl : Op.bytesLess c.key.toList fr.toList = true
    · rw [if_pos hl, List.filter_cons_of_neg (by simp [hl])]; exact ih h2
    rw [if_neg hl]
    by_cases ht : «to».toList ≠ [] ∧ Op.bytesLess c.key.toList «to».toList = false
    · rw [if_pos ht]
      symm
      rw [List.filter_eq_nil_iff]
      intro d hd
      rcases List.mem_cons.1 hd with rfl | hd
      · simp [ht.1, ht.2]
      · have h3 := h1 d hd
        have h4 : ¬ Op.bytesLess d.key.toList «to».toList = true := by
          intro h5
          have h5 := (lt_str _ _).1 h5
          rcases SLt.total c.key d.key with h6 | h6 | h6
          · have := (lt_str _ _).2 (h6.trans h5); rw [ht.2] at this; cases this
          · rw [← h6] at h5; have := (lt_str _ _).2 h5; rw [ht.2] at this; cases this
          · exact h3 h6
        simp [ht.1, h4]
    · rw [if_neg ht, List.filter_cons_of_pos, ih h2]
      by_cases h6 : «to».toList = []
      · simp [h6, hl]
      · have : Op.bytesLess c.key.toList «to».toList = true := by
          by_cases h7 : Op.bytesLess c.key.toList «to».toList = true
          · exact h7
          · exact absurd ⟨h6, by simpa using h7⟩ ht
        simp [this, hl]
theorem filter_touch {α : Type} (p q r : α → Bool) (l : List α) (h : l.Pairwise fun x y => q x = true → ¬ p y = true) (hd : ∀ x ∈ l, r x = (p x || q x)) (hx : ∀ x ∈ l, ¬ (p x = true ∧ q x = true)) : l.filter p ++ l.filter q = l.filter r := by
  induction l with
  | nil => rfl
  | cons x l ih =>
    obtain ⟨h1, h2⟩ := List.pairwise_cons.1 h
    have hi := ih h2 (fun y hy => hd y (by simp [hy])) (fun y hy => hx y (by simp [hy]))
    have hr := hd x (by simp)
    by_cases hp : p x = true
    · rw [List.filter_cons_of_pos hp, List.filter_cons_of_neg (fun hq => hx x (by simp) ⟨hp, hq⟩), List.filter_cons_of_pos (by rw [hr]; simp [hp]), ← hi]; rfl
    · rw [List.filter_cons_of_neg hp]
      by_cases hq : q x = true
      · rw [List.filter_cons_of_pos hq, List.filter_cons_of_pos (by rw [hr]; simp [hq]), ← hi]
        have : l.filter p = [] := List.filter_eq_nil_iff.2 fun y hy => h1 y hy hq
        rw [this]; rfl
      · rw [List.filter_cons_of_neg hq, List.filter_cons_of_neg (by rw [hr]; simp [hp, hq])]; exact hi
theorem scan_touch {fr mid «to» : ByteArray} {cs : List Cell} (hs : KSorted cs) (h1 : ¬ SLt mid fr) (h2 : mid.toList ≠ []) (h3 : «to».toList ≠ [] → ¬ SLt «to» mid) : scanL fr mid cs ++ scanL mid «to» cs = scanL fr «to» cs := by
  rw [scanL_filter hs, scanL_filter hs, scanL_filter hs]
  have L : ∀ a b : ByteArray, Op.bytesLess a.toList b.toList = decide (SLt a b) := fun a b => by
    by_cases h : SLt a b
    · rw [decide_eq_true h]; exact (lt_str _ _).2 h
    · rw [decide_eq_false h]; simpa using fun h' => h ((lt_str _ _).1 h')
  simp only [L]
  have ht : ∀ {a b c : ByteArray}, ¬ SLt a b → SLt a c → ¬ SLt b c → False := fun {a b c} h k g => by
    rcases SLt.total a b with e | e | e
    · exact h e
    · subst e; exact g k
    · exact g (e.trans k)
  have nt : ∀ {a b c : ByteArray}, SLt a b → ¬ SLt c b → SLt a c := fun {a b c} h k => by
    rcases SLt.total c b with e | e | e
    · exact absurd e k
    · subst e; exact h
    · exact h.trans e
  refine filter_touch _ _ _ _ (hs.imp fun {x y} hxy hq hp => ?_) (fun x _ => ?_) (fun x _ => ?_)
  · simp only [Bool.and_eq_true, Bool.not_eq_true', decide_eq_false_iff_not, Bool.or_eq_true, decide_eq_true_eq, h2, false_or] at hq hp
    exact hxy (nt hp.2 hq.1)
  · by_cases hf : SLt x.key fr
    · have : SLt x.key mid := nt hf h1
      simp [hf, this]
    · by_cases hm : SLt x.key mid
      · by_cases hte : «to».toList = []
        · simp [hf, hm, hte, h2]
        · have : SLt x.key «to» := nt hm (h3 hte)
          simp [hf, hm, this, h2]
      · simp [hf, hm, h2]
  · simp only [Bool.and_eq_true, Bool.not_eq_true', decide_eq_false_iff_not, Bool.or_eq_true, decide_eq_true_eq, h2, false_or]
    rintro ⟨⟨_, a⟩, b, _⟩
    exact b a

end Go.Proofs.Ytbcaiegglbdonaa

/-
  How many bytes two texts share at their beginning; two cells compared.
-/
namespace Go.Proofs.Ytbcaiegglbdonaa
open Go Go.RowKit

def sharedN : List UInt8 → List UInt8 → Nat
  | x :: a, y :: b => if x = y then sharedN a b + 1 else 0
  | _, _ => 0
theorem sharedN_le_left : ∀ a b : List UInt8, sharedN a b ≤ a.length
  | [], _ => by simp [sharedN]
  | _ :: _, [] => by simp [sharedN]
  | x :: a, y :: b => by
    unfold sharedN
    split
    · have := sharedN_le_left a b; simp; omega
    · simp
theorem sharedN_le_right : ∀ a b : List UInt8, sharedN a b ≤ b.length
  | [], _ => by simp [sharedN]
  | _ :: _, [] => by simp [sharedN]
  | x :: a, y :: b => by
    unfold sharedN
    split
    · have := sharedN_le_right a b; simp; omega
    · simp
theorem sharedN_take : ∀ a b : List UInt8, a.take (sharedN a b) = b.take (sharedN a b)
  | [], _ => by simp [sharedN]
  | _ :: _, [] => by simp [sharedN]
  | x :: a, y :: b => by
    unfold sharedN
    split
    · rename_i h
      have := sharedN_take a b
      simp [h, this]
    · simp
def ShRel (w : World) (a b : ByteArray) (n : Value) (W : World) : Prop :=
  ∃ k : Nat, k ≤ a.size ∧ k ≤ b.size ∧ n = .int .i64 k ∧ k + sharedN (a.data.toList.drop k) (b.data.toList.drop k) = sharedN a.data.toList b.data.toList ∧ Below w.heap.size w W
theorem drop_step {l : List UInt8} {k : Nat} {x : UInt8} (h : l[k]? = some x) : l.drop k = x :: l.drop (k + 1) := by
  obtain ⟨h1, h2⟩ := List.getElem?_eq_some_iff.1 h
  rw [List.drop_eq_getElem_cons h1, h2]
set_option maxRecDepth 100000 in
set_option maxHeartbeats 1000000 in
theorem shared_spec (a b : ByteArray) (ha : a.size ≤ 4611686018427387904) (w : World) : Calls Try.prog 85 #[.string a, .string b] w fun e w' => e = .returned (.int .i64 (sharedN a.data.toList b.data.toList)) ∧ Below w.heap.size w w' := by
  go_enter Try.func85, Try.ntmps85
  go_wp2_with fail
  go_loopw [5] (ShRel w a b) (fun i _ => a.size - (intOf i).toNat)
  case atStart => exact ⟨0, by omega, by omega, rfl, by simp, Below.refl _ _⟩
  case round =>
    obtain ⟨k, hka, hkb, rfl, hsh, hb⟩ := hrel
    have HS := Lib.hid hsh
    clear hsh
    by_cases h1 : k < a.size
    · by_cases h2 : k < b.size
      · have i0 : (0 : Int) ≤ (k : Int) := by omega
        have i1 : (k : Int) < (a.size : Int) := by omega
        have i2 : (k : Int) < (b.size : Int) := by omega
        obtain ⟨x, hx⟩ : ∃ x, a.data.toList[k]? = some x := ⟨_, List.getElem?_eq_getElem (by simpa using h1)⟩
        obtain ⟨y, hy⟩ : ∃ y, b.data.toList[k]? = some y := ⟨_, List.getElem?_eq_getElem (by simpa using h2)⟩
        have hdx := drop_step hx
        have hdy := drop_step hy
        have hxa : a[k] = x := by obtain ⟨h3, h4⟩ := List.getElem?_eq_some_iff.1 hx; rw [← h4]; rfl
        have hyb : b[k] = y := by obtain ⟨h3, h4⟩ := List.getElem?_eq_some_iff.1 hy; rw [← h4]; rfl
        have HDX := Lib.hid hdx
        have HDY := Lib.hid hdy
        clear hx hy hdx hdy
        by_cases hxy : x = y
        · have HXY := Lib.hid hxy
          have he : (((a[k]).toNat : Int) == ((b[k]).toNat : Int)) = true := by rw [hxa, hyb, hxy]; simp
          clear hxa hyb hxy
          go_wp2_with fail
          go_quiet (fail)
          go_wp2_with fail
          go_roundw
          case rel =>
            refine ⟨k + 1, by omega, by omega, by go_num, ?_, below_drewN hb nq⟩
            rw [← HS.out, HDX.out, HDY.out, sharedN, if_pos HXY.out]
            omega
          case measure => simp [intOf]; omega
        · have HXY := Lib.hid hxy
          have he : (((a[k]).toNat : Int) == ((b[k]).toNat : Int)) = false := by
            rw [hxa, hyb]
            simp only [beq_eq_false_iff_ne, ne_eq, Int.natCast_inj]
            exact fun h => hxy (UInt8.toNat_inj.1 h)
          clear hxa hyb hxy
          go_wp2_with fail
          go_quiet (fail)
          go_wp2_with fail
          go_ret
          refine ⟨?_, below_drewN hb nq⟩
          rw [← HS.out, HDX.out, HDY.out, sharedN, if_neg HXY.out]
          rfl
      · have i0 : (0 : Int) ≤ (k : Int) := by omega
        have i1 : (k : Int) < (a.size : Int) := by omega
        have i2 : ¬ (k : Int) < (b.size : Int) := by omega
        have HE := Lib.hid (show sharedN (a.data.toList.drop k) (b.data.toList.drop k) = 0 by
          rw [show b.data.toList.drop k = [] from List.drop_eq_nil_of_le (by simpa using Nat.le_of_not_lt h2)]
          cases a.data.toList.drop k <;> rfl)
        go_wp2_with fail
        go_quiet (fail)
        go_wp2_with fail
        go_ret
        refine ⟨?_, below_drewN hb nq⟩
        rw [← HS.out, HE.out]
        rfl
    · have i0 : (0 : Int) ≤ (k : Int) := by omega
      have i1 : ¬ (k : Int) < (a.size : Int) := by omega
      have HE := Lib.hid (show sharedN (a.data.toList.drop k) (b.data.toList.drop k) = 0 by
        rw [show a.data.toList.drop k = [] from List.drop_eq_nil_of_le (by simpa using Nat.le_of_not_lt h1)]
        rfl)
      go_wp2_with fail
      go_quiet (fail)
      go_wp2_with fail
      go_ret
      refine ⟨?_, below_drewN hb nq⟩
      rw [← HS.out, HE.out]
      rfl
set_option maxRecDepth 100000 in
set_option maxHeartbeats 1000000 in
theorem ref_shared (a b : ByteArray) (ha : a.size ≤ 4611686018427387904) (w : World) : Calls Try.prog 93 #[.string a, .string b] w fun e w' => e = .returned (.int .i64 (sharedN a.data.toList b.data.toList)) ∧ Below w.heap.size w w' := by
  go_enter Try.func93, Try.ntmps93
  go_wp2_with fail
  go_loopw [5] (ShRel w a b) (fun i _ => a.size - (intOf i).toNat)
  case atStart => exact ⟨0, by omega, by omega, rfl, by simp, Below.refl _ _⟩
  case round =>
    obtain ⟨k, hka, hkb, rfl, hsh, hb⟩ := hrel
    have HS := Lib.hid hsh
    clear hsh
    by_cases h1 : k < a.size
    · by_cases h2 : k < b.size
      · have i0 : (0 : Int) ≤ (k : Int) := by omega
        have i1 : (k : Int) < (a.size : Int) := by omega
        have i2 : (k : Int) < (b.size : Int) := by omega
        obtain ⟨x, hx⟩ : ∃ x, a.data.toList[k]? = some x := ⟨_, List.getElem?_eq_getElem (by simpa using h1)⟩
        obtain ⟨y, hy⟩ : ∃ y, b.data.toList[k]? = some y := ⟨_, List.getElem?_eq_getElem (by simpa using h2)⟩
        have hdx := drop_step hx
        have hdy := drop_step hy
        have hxa : a[k] = x := by obtain ⟨h3, h4⟩ := List.getElem?_eq_some_iff.1 hx; rw [← h4]; rfl
        have hyb : b[k] = y := by obtain ⟨h3, h4⟩ := List.getElem?_eq_some_iff.1 hy; rw [← h4]; rfl
        have HDX := Lib.hid hdx
        have HDY := Lib.hid hdy
        clear hx hy hdx hdy
        by_cases hxy : x = y
        · have HXY := Lib.hid hxy
          have he : (((a[k]).toNat : Int) == ((b[k]).toNat : Int)) = true := by rw [hxa, hyb, hxy]; simp
          clear hxa hyb hxy
          go_wp2_with fail
          go_quiet (fail)
          go_wp2_with fail
          go_roundw
          case rel =>
            refine ⟨k + 1, by omega, by omega, by go_num, ?_, below_drewN hb nq⟩
            rw [← HS.out, HDX.out, HDY.out, sharedN, if_pos HXY.out]
            omega
          case measure => simp [intOf]; omega
        · have HXY := Lib.hid hxy
          have he : (((a[k]).toNat : Int) == ((b[k]).toNat : Int)) = false := by
            rw [hxa, hyb]
            simp only [beq_eq_false_iff_ne, ne_eq, Int.natCast_inj]
            exact fun h => hxy (UInt8.toNat_inj.1 h)
          clear hxa hyb hxy
          go_wp2_with fail
          go_quiet (fail)
          go_wp2_with fail
          go_ret
          refine ⟨?_, below_drewN hb nq⟩
          rw [← HS.out, HDX.out, HDY.out, sharedN, if_neg HXY.out]
          rfl
      · have i0 : (0 : Int) ≤ (k : Int) := by omega
        have i1 : (k : Int) < (a.size : Int) := by omega
        have i2 : ¬ (k : Int) < (b.size : Int) := by omega
        have HE := Lib.hid (show sharedN (a.data.toList.drop k) (b.data.toList.drop k) = 0 by
          rw [show b.data.toList.drop k = [] from List.drop_eq_nil_of_le (by simpa using Nat.le_of_not_lt h2)]
          cases a.data.toList.drop k <;> rfl)
        go_wp2_with fail
        go_quiet (fail)
        go_wp2_with fail
        go_ret
        refine ⟨?_, below_drewN hb nq⟩
        rw [← HS.out, HE.out]
        rfl
    · have i0 : (0 : Int) ≤ (k : Int) := by omega
      have i1 : ¬ (k : Int) < (a.size : Int) := by omega
      have HE := Lib.hid (show sharedN (a.data.toList.drop k) (b.data.toList.drop k) = 0 by
        rw [show a.data.toList.drop k = [] from List.drop_eq_nil_of_le (by simpa using Nat.le_of_not_lt h1)]
        rfl)
      go_wp2_with fail
      go_quiet (fail)
      go_wp2_with fail
      go_ret
      refine ⟨?_, below_drewN hb nq⟩
      rw [← HS.out, HE.out]
      rfl
end Go.Proofs.Ytbcaiegglbdonaa

/-
  Small facts that many walks use.
-/
namespace Go.Proofs.Ytbcaiegglbdonaa
open Go.RowKit

theorem cell_keep {W w' : World} (hb : Below W.heap.size W w') {p : Addr} {v : Value} (h : W.cell? p = some v) : w'.cell? p = some v := (hb.cell (World.block_lt_of_cell? W _ h)).trans h
theorem Reads.int_at {w : World} {A : Option Addr} {cap : Nat} {l : List Int} (h : Reads w (.slice A l.length cap) l.length 1 (ints l)) {k : Nat} {x : Int} (hk : l[k]? = some x) :
    ∃ b o, A = some ⟨b, o, none⟩ ∧ b < w.heap.size ∧ w.cell? ⟨b, o + k, none⟩ = some (.int .i64 x) := by
  obtain ⟨_, _, A', cap', e, h3⟩ := h
  injection e with e1 e2 e3
  subst e1 e3
  have hlt := (List.getElem?_eq_some_iff.1 hk).1
  obtain ⟨b, o, rfl, hb, hc⟩ := h3.resolve_left (by omega)
  exact ⟨b, o, rfl, hb, hc k _ (by simp [ints, hk])⟩
theorem own_set {w : World} {base e size n : Nat} {v : Value} {xs : List Value} (h : w.ownsRow base e size v n xs) {r : Nat} {arr : Array Value} {t : TypeId} (hr : Blk w r arr t) (hne : t ≠ e) (i : Nat) (u : Value) :
    (w.setCell ⟨r, i, none⟩ u).ownsRow base e size v n xs := by
  refine ⟨h.1, ?_⟩
  rcases h.2 with h2 | ⟨g, cap', cur, h1, hb, hg, hr2⟩
  · exact .inl h2
  · refine .inr ⟨g, cap', cur, h1, hb, ?_, hr2⟩
    have hn : g ≠ r := by
      rintro rfl
      have := hg.symm.trans hr
      injection this with this
      injection this with _ h3 _
      exact hne h3.symm
    exact Blk.setCell_ne (show Blk w g cur e from hg) hn i u
theorem cellVals_one (l : List Cell) : ∀ u ∈ cellVals l, u.oneCell' = true := by
  intro u hu
  unfold cellVals at hu
  obtain ⟨c, _, h⟩ := List.mem_flatMap.1 hu
  simp at h
  rcases h with rfl | rfl | rfl | rfl <;> rfl
theorem src_all {w : World} {base e size n cap : Nat} {A : Option Addr} {xs : List Value} (h : w.ownsRow base e size (.slice A n cap) n xs) :
    (Value.slice A n cap = .slice none 0 0 ∧ n = 0) ∨ ∃ ad c, Value.slice A n cap = .slice (some ad) n c ∧ ∀ (j : Nat) (u : Value), xs[j]? = some u → w.cell? (ad.add j) = some u := by
  rcases h.2 with ⟨h1, h2⟩ | ⟨g, cap', cur, h1, _⟩
  · exact .inl ⟨h1, h2⟩
  · rw [h1] at h ⊢
    exact .inr ⟨_, _, rfl, h.cells rfl⟩
theorem take_snoc {α : Type} {l : List α} {k : Nat} {x : α} (h : l[k]? = some x) : l.take (k + 1) = l.take k ++ [x] := by rw [List.take_add_one, h]; rfl
section
open Go.ChangeShapes Go.WideShapes Go.ChangeAt Go.Deep
theorem cells_len {H : Type} {ts : List TypeId} {ds : List (DataW H)} {cs : List Cell} {d : DataW H} (hsz : (DataW.weightsEach Try.prog ts ds).all (· ≤ reachBytes) = true) {j : Nat} (ht : ts[j]? = some 22) (hd : ds[j]? = some d) (hc : CellsD d cs) : cs.length ≤ 2932031007402 := by
  rcases hc with ⟨rfl, rfl⟩ | ⟨sp, rfl⟩
  · simp
  · have := sized_slice hsz ht hd Try.underlying22
    rw [show Try.prog.bytesOf 25 = 48 by kernel_rfl, List.length_map] at this
    unfold reachBytes at this
    omega
end
end Go.Proofs.Ytbcaiegglbdonaa

/-
  The reference of layer 6: Check, Size, Newest, Part: each as a plain function of the list of cells.
-/
namespace Go.Proofs.Ytbcaiegglbdonaa
open Go.RowKit

set_option maxRecDepth 100000 in
set_option maxHeartbeats 1000000 in
theorem ref_check (c : Cell) (w : World) :
    Calls Try.prog 80 #[.agg #[.string c.key, .int .u64 c.seq, .string c.val, .bool c.gone]] w fun e w' => e = .returned (.int .i64 (checkN c)) ∧ Below w.heap.size w w' := by
  unfold checkN
  go_enter Try.func80, Try.ntmps80
  go_wp2
  all_goals (go_ret; refine ⟨ret_eq ?_, (Below.refl _ _).alloc (Nat.le_refl _) _⟩; simp_all; try omega)

/-- Size by rounds. -/
def sizeN (l : List Cell) : Nat := (l.map fun x => x.key.size + x.val.size + 16).sum
def RSizeRel (w : World) (l : List Cell) (n i : Value) (wr : World) : Prop := ∃ k : Nat, k ≤ l.length ∧ i = .int .i64 k ∧ n = .int .i64 (sizeN (l.take k)) ∧ Below w.heap.size w wr
theorem sizeN_le {l : List Cell} (h : ∀ c ∈ l, checkN c = 0) : sizeN l ≤ 1168 * l.length := by
  induction l with
  | nil => simp [sizeN]
  | cons c l ih =>
    obtain ⟨h1, h2⟩ := check_sizes (h c (by simp))
    have := ih fun d hd => h d (by simp [hd])
    simp only [sizeN, List.map_cons, List.sum_cons, List.length_cons] at *
    omega
set_option maxRecDepth 100000 in
set_option maxHeartbeats 1000000 in
theorem ref_size {w : World} {v : Value} {l : List Cell} (h : Reads w v l.length 4 (cellVals l)) (hc : ∀ c ∈ l, checkN c = 0) (hl : l.length ≤ 2932031007403) :
    Calls Try.prog 81 #[v] w fun e w' => e = .returned (.int .i64 (sizeN l)) ∧ Below w.heap.size w w' := by
  obtain ⟨A, cap, rfl⟩ := h.form
  have H := Lib.hid h
  clear h
  go_enter Try.func81, Try.ntmps81
  go_wp2
  go_loopw [3, 8] (RSizeRel w l) (fun _ i _ => l.length - (intOf i).toNat)
  case atStart => exact ⟨0, by omega, rfl, rfl, Below.refl _ _⟩
  case round =>
    obtain ⟨k, hk, rfl, rfl, hb⟩ := hrel
    by_cases hlt : k < l.length
    · obtain ⟨x, hx⟩ : ∃ x, l[k]? = some x := ⟨_, List.getElem?_eq_getElem hlt⟩
      obtain ⟨b, o, rfl, hbl, c0, c1, c2, c3⟩ := (H.out.kept hb).cell_at hx
      have i0 : (0 : Int) ≤ (k : Int) := by omega
      have i1 : (k : Int) < (l.length : Int) := by omega
      obtain ⟨z1, z2⟩ := check_sizes (hc x (List.mem_of_getElem? hx))
      have z3 := sizeN_le (l := l.take k) fun c hcm => hc c (List.mem_of_mem_take hcm)
      have z4 : (l.take k).length ≤ k := by rw [List.length_take]; omega
      have HX := Lib.hid hx
      have hst := Lib.hid (show (sizeN (l.take (k + 1)) : Int) = (sizeN (l.take k) : Int) + ((x.key.size : Int) + x.val.size + 16) by
        rw [List.take_add_one, hx]; simp [sizeN])
      have w1 : IntKind.i64.wrap ((x.key.size : Int) + x.val.size) = (x.key.size : Int) + x.val.size := IntWalk.i64_in _ (by omega)
      have w2 : IntKind.i64.wrap ((x.key.size : Int) + x.val.size + 16) = (x.key.size : Int) + x.val.size + 16 := IntWalk.i64_in _ (by omega)
      have w3 : IntKind.i64.wrap ((sizeN (l.take k) : Int) + ((x.key.size : Int) + x.val.size + 16)) = (sizeN (l.take k) : Int) + ((x.key.size : Int) + x.val.size + 16) := IntWalk.i64_in _ (by omega)
      clear hx
      go_wp2
      go_roundw
      case rel => exact ⟨k + 1, by omega, by go_num, by rw [hst.out], hb.alloc hb.size _⟩
      case measure => simp [intOf]; omega
    · obtain rfl : k = l.length := by omega
      rw [List.take_length]
      go_wp2
      go_ret
      exact ⟨rfl, hb⟩

/-! ### Newest -/
def newestN (key : ByteArray) (seq : Int) : List Cell → Cell × Bool
  | [] => (Cell.zero, false)
  | c :: l => if c.key = key ∧ c.seq ≤ seq then (c, true) else newestN key seq l
def NewestRel (w : World) (key : ByteArray) (seq : Int) (l : List Cell) (i : Value) (wr : World) : Prop :=
  ∃ k : Nat, k ≤ l.length ∧ i = .int .i64 k ∧ newestN key seq l = newestN key seq (l.drop k) ∧ Blk wr w.heap.size #[.string ⟨#[]⟩, .int .u64 0, .string ⟨#[]⟩, .bool false] 25 ∧ Below w.heap.size w wr
def cellW (c : Cell) : Value := .agg #[.string c.key, .int .u64 c.seq, .string c.val, .bool c.gone]
set_option maxRecDepth 100000 in
set_option maxHeartbeats 1000000 in
theorem ref_newest {w : World} {v : Value} {l : List Cell} (h : Reads w v l.length 4 (cellVals l)) (key : ByteArray) (seq : Int) :
    Calls Try.prog 47 #[v, .string key, .int .u64 seq] w fun e w' => e = .returned (.tuple #[cellW (newestN key seq l).1, .bool (newestN key seq l).2]) ∧ Below w.heap.size w w' := by
  obtain ⟨A, cap, rfl⟩ := h.form
  have H := Lib.hid h
  have hml := h.2.1
  clear h
  go_enter Try.func47, Try.ntmps47
  go_wp2
  go_loopw [12] (NewestRel w key seq l) (fun i _ => l.length - (intOf i).toNat)
  case atStart => exact ⟨0, by omega, rfl, rfl, Blk.new _ _ _, (Below.refl _ _).alloc (Nat.le_refl _) _⟩
  case round =>
    obtain ⟨k, hk, rfl, hN, hZ, hb⟩ := hrel
    have f0 := hZ.frozen
    have f1 := hZ.lt
    obtain ⟨z0, z1, z2, z3⟩ := cell4 hZ
    by_cases hlt : k < l.length
    · obtain ⟨x, hx⟩ : ∃ x, l[k]? = some x := ⟨_, List.getElem?_eq_getElem hlt⟩
      obtain ⟨b, o, rfl, hbl, c0, c1, c2, c3⟩ := (H.out.kept hb).cell_at hx
      have i0 : (0 : Int) ≤ (k : Int) := by omega
      have i1 : (k : Int) < (l.length : Int) := by omega
      have hdr : l.drop k = x :: l.drop (k + 1) := by rw [List.drop_eq_getElem_cons hlt]; congr; simpa [List.getElem?_eq_getElem hlt] using hx
      rw [hdr] at hN
      have HX := Lib.hid hx
      clear hx hdr
      by_cases h1 : x.key = key ∧ x.seq ≤ seq
      · have hr : newestN key seq l = (x, true) := by rw [hN, newestN, if_pos h1]
        have HR := Lib.hid hr
        have hk1 : (x.key.toList == key.toList) = true := str_beq.2 h1.1
        have hs1 : x.seq ≤ seq := h1.2
        clear hr hN h1
        go_wp2
        refine bodyPost_ret (v := .tuple #[cellW x, .bool true]) ?_ rfl ⟨by rw [HR.out], ?_⟩
        · have hZ2 := ((((hZ.setCell 0 (.string x.key)).setCell 1 (.int .u64 x.seq)).setCell 2 (.string x.val)).setCell 3 (.bool x.gone)).alloc (.cells #[.string x.key, .int .u64 x.seq, .string x.val, .bool x.gone] 25)
          obtain ⟨r0, r1, r2, r3⟩ := cell4 (v0 := .string x.key) (v1 := .int .u64 x.seq) (v2 := .string x.val) (v3 := .bool x.gone) hZ2
          simp [results, Try.results47, go_sem, cellW, r0, r1, r2, r3]
        · exact (Below.set4 hb (Nat.le_refl _) 0 1 2 3 _ _ _ _).alloc (by have := hb.size; simp; omega) _
      · have hr := Lib.hid (show newestN key seq l = newestN key seq (l.drop (k + 1)) by rw [hN, newestN, if_neg h1])
        clear hN
        by_cases hk1 : x.key = key
        · have hs1 : ¬ x.seq ≤ seq := fun h => h1 ⟨hk1, h⟩
          have hk2 : (x.key.toList == key.toList) = true := str_beq.2 hk1
          clear h1 hk1
          go_wp2
          go_roundw
          case rel => exact ⟨k + 1, by omega, by go_num, hr.out, hZ.alloc _, hb.alloc hb.size _⟩
          case measure => simp [intOf]; omega
        · have hk2 : (x.key.toList == key.toList) = false := str_beq_false.2 hk1
          clear h1 hk1
          go_wp2
          go_roundw
          case rel => exact ⟨k + 1, by omega, by go_num, hr.out, hZ.alloc _, hb.alloc hb.size _⟩
          case measure => simp [intOf]; omega
    · obtain rfl : k = l.length := by omega
      have hr : newestN key seq l = (Cell.zero, false) := by rw [hN, List.drop_length]; rfl
      have HR := Lib.hid hr
      clear hr hN
      go_wp2
      refine bodyPost_ret (v := .tuple #[cellW Cell.zero, .bool false]) ?_ rfl ⟨by rw [HR.out], ?_⟩
      · have hZ2 := (((hZ.setCell 0 (.string ⟨#[]⟩)).setCell 1 (.int .u64 0)).setCell 2 (.string ⟨#[]⟩)).setCell 3 (.bool false)
        obtain ⟨r0, r1, r2, r3⟩ := cell4 (v0 := .string ⟨#[]⟩) (v1 := .int .u64 0) (v2 := .string ⟨#[]⟩) (v3 := .bool false) hZ2
        simp [results, Try.results47, go_sem, cellW, Cell.zero, r0, r1, r2, r3]; rfl
      · exact Below.set4 hb (Nat.le_refl _) 0 1 2 3 _ _ _ _

/-! ### Part -/
def partP (fr «to» : ByteArray) (c : Cell) : Bool := !Op.bytesLess c.key.toList fr.toList && (decide («to».toList = []) || Op.bytesLess c.key.toList «to».toList)
def PartRel (w : World) (fr «to» : ByteArray) (l : List Cell) (out i : Value) (wr : World) : Prop :=
  ∃ k : Nat, k ≤ l.length ∧ i = .int .i64 k ∧ wr.ownsRow w.heap.size 25 4 out ((l.take k).filter (partP fr «to»)).length (cellVals ((l.take k).filter (partP fr «to»))) ∧ Below w.heap.size w wr
set_option maxRecDepth 100000 in
set_option maxHeartbeats 1000000 in
theorem ref_part {w : World} {v : Value} {l : List Cell} (h : Reads w v l.length 4 (cellVals l)) (fr «to» : ByteArray) (hl : l.length ≤ 2932031007402) :
    Calls Try.prog 53 #[v, .string fr, .string «to»] w (CellsPost w (l.filter (partP fr «to»))) := by
  obtain ⟨A, cap, rfl⟩ := h.form
  obtain ⟨i0, hi, hz0, hz1, hz2⟩ := info_parts Try.infoCell
  have H := Lib.hid h
  clear h
  go_enter Try.func53, Try.ntmps53
  go_wp2
  go_loopw [7, 12] (PartRel w fr «to» l) (fun _ i _ => l.length - (intOf i).toNat)
  case atStart => exact ⟨0, by omega, rfl, World.ownsRow_nil _ _ _ _, Below.refl _ _⟩
  case round =>
    obtain ⟨k, hk, rfl, hown, hb⟩ := hrel
    by_cases hlt : k < l.length
    · obtain ⟨x, hx⟩ : ∃ x, l[k]? = some x := ⟨_, List.getElem?_eq_getElem hlt⟩
      obtain ⟨b, o, rfl, hbl, c0, c1, c2, c3⟩ := (H.out.kept hb).cell_at hx
      have j0 : (0 : Int) ≤ (k : Int) := by omega
      have j1 : (k : Int) < (l.length : Int) := by omega
      have hfl : ((l.take k).filter (partP fr «to»)).length + 1 ≤ 2932031007402 := by
        have := List.length_filter_le (partP fr «to») (l.take k)
        have : (l.take k).length ≤ k := by rw [List.length_take]; omega
        omega
      have q3 : ((l.take k).filter (partP fr «to»)).length + 1 ≤ maxLen := by unfold maxLen; omega
      have q4 : (((l.take k).filter (partP fr «to»)).length + 1) * 48 ≤ 140737488355328 := by omega
      have q5 : w.heap.size ≤ ((wr.alloc (.cells #[.string x.key, .int .u64 x.seq, .string x.val, .bool x.gone] 25)).alloc (.cells #[.string x.key, .int .u64 x.seq, .string x.val, .bool x.gone] 25)).heap.size := by have := hb.size; simp only [World.size_alloc]; omega
      have hno : partP fr «to» x = false → (l.take (k + 1)).filter (partP fr «to») = (l.take k).filter (partP fr «to») := fun h => by rw [take_snoc hx, List.filter_append]; simp [h]
      have hyes : partP fr «to» x = true → (l.take (k + 1)).filter (partP fr «to») = (l.take k).filter (partP fr «to») ++ [x] := fun h => by rw [take_snoc hx, List.filter_append]; simp [h]
      have nw := news4 (wr.alloc (.cells #[.string x.key, .int .u64 x.seq, .string x.val, .bool x.gone] 25)) x
      rw [World.size_alloc] at nw
      have HN := Lib.hid hno
      have HY := Lib.hid hyes
      clear hx hno hyes hfl
      by_cases u : Op.bytesLess x.key.toList fr.toList = true
      · have HT := Lib.hid (HN.out (by simp [partP, u]))
        go_wp2
        go_roundw
        case rel => exact ⟨k + 1, by omega, by go_num, by rw [HT.out]; exact hown.alloc _, hb.alloc hb.size _⟩
        case measure => simp [intOf]; omega
      have u : Op.bytesLess x.key.toList fr.toList = false := by simpa using u
      by_cases t : «to».toList = []
      · have HT := Lib.hid (HY.out (by simp [partP, u, t]))
        go_wp2_with (at_builtin; refine wpList_append_own _ rfl _ _ 22 rfl w.heap.size 25 i0 cellZ 4 48 Try.underlying22 hi hz0 hz1 hz2 rfl (by decide) _ _ _ rfl ((hown.alloc _).alloc _) ⟨wr.heap.size + 1, 0, none⟩ 1 1 [.string x.key, .int .u64 x.seq, .string x.val, .bool x.gone] rfl rfl nw (by simp [Value.oneCell']) q3 q4 q5 ?_)
        intro v' w1 hown1 hgr _
        have hb1 : Below w.heap.size w w1 := ((hb.alloc hb.size _).alloc (by have := hb.size; simp; omega) _).grown hgr q5 (fun j hj => (hown.lt j hj).1)
        go_wp2
        go_roundw
        case rel => exact ⟨k + 1, by omega, by go_num, by rw [HT.out, List.length_append, cellVals_append]; exact hown1, hb1⟩
        case measure => simp [intOf]; omega
      have t2 : («to».toList == []) = false := by simpa using t
      by_cases u2 : Op.bytesLess x.key.toList «to».toList = true
      · have HT := Lib.hid (HY.out (by simp [partP, u, u2]))
        go_wp2_with (at_builtin; refine wpList_append_own _ rfl _ _ 22 rfl w.heap.size 25 i0 cellZ 4 48 Try.underlying22 hi hz0 hz1 hz2 rfl (by decide) _ _ _ rfl ((hown.alloc _).alloc _) ⟨wr.heap.size + 1, 0, none⟩ 1 1 [.string x.key, .int .u64 x.seq, .string x.val, .bool x.gone] rfl rfl nw (by simp [Value.oneCell']) q3 q4 q5 ?_)
        intro v' w1 hown1 hgr _
        have hb1 : Below w.heap.size w w1 := ((hb.alloc hb.size _).alloc (by have := hb.size; simp; omega) _).grown hgr q5 (fun j hj => (hown.lt j hj).1)
        go_wp2
        go_roundw
        case rel => exact ⟨k + 1, by omega, by go_num, by rw [HT.out, List.length_append, cellVals_append]; exact hown1, hb1⟩
        case measure => simp [intOf]; omega
      have u2 : Op.bytesLess x.key.toList «to».toList = false := by simpa using u2
      have HT := Lib.hid (HN.out (by simp [partP, t, u2]))
      go_wp2
      go_roundw
      case rel => exact ⟨k + 1, by omega, by go_num, by rw [HT.out]; exact hown.alloc _, hb.alloc hb.size _⟩
      case measure => simp [intOf]; omega
    · obtain rfl : k = l.length := by omega
      rw [List.take_length] at hown
      go_wp2
      go_ret
      exact ⟨_, rfl, hown, hb⟩

end Go.Proofs.Ytbcaiegglbdonaa

/-
  A region that draws its order, walked once by a plan: the operations that yield one value in every world that meets S are taken first, the others come up alone. Over any program.
-/
namespace Go.Proofs.Ytbcaiegglbdonaa
open Go
section
variable {P : Program} {ops : Array Oper} {Q : Exit → Act → World → Prop} {S : World → Prop}

def wpPlan (P : Program) (ops : Array Oper) (Q : Exit → Act → World → Prop) (S : World → Prop) : List (Nat × Bool) → Act → World → Prop
  | [], a, w => Q .normal a w
  | (i, true) :: rest, a, w => ∃ o v, ops[i]? = some o ∧ YieldsIf P ops S o v a ∧ wpPlan P ops Q S rest (a.put o.dst v) w
  | (i, false) :: rest, a, w => wpOp P ops Q i (fun a' w' => S w' ∧ (S w' → wpPlan P ops Q S rest a' w')) a w
def planOK (ops : Array Oper) : List (Nat × Bool) → Array Bool → Bool
  | [], listed => Region.ready .any ops listed == []
  | (i, true) :: rest, listed => Region.free .any ops listed i && (Region.ready .any ops listed).contains i && planOK ops rest (listed.setIfInBounds i true)
  | (i, false) :: rest, listed => Region.ready .any ops listed == [i] && planOK ops rest (listed.setIfInBounds i true)

theorem plan_sound (hs : Region.noSelect ops = true) (hQ : ∀ c a w (dst : Option Tmp) v, Q (.panic c) (a.put dst v) w → Q (.panic c) a w) : ∀ (plan : List (Nat × Bool)) (listed : Array Bool) (a : Act) (w : World), planOK ops plan listed = true → S w → wpPlan P ops Q S plan a w →
    wpAnyH P .any ops Q S plan.length listed a w := by
  intro plan
  induction plan with
  | nil =>
    intro listed a w hp _ h
    exact wpAnyH_done (by simpa [planOK] using hp) h 0
  | cons x plan ih =>
    intro listed a w hp hS h
    obtain ⟨i, t⟩ := x
    cases t with
    | true =>
      simp only [planOK, Bool.and_eq_true] at hp
      obtain ⟨o, v, hi, hy, hr⟩ := h
      exact wpAnyH_take hi hs hp.1.1 hp.1.2 (fun c a w hq => hQ c a w _ _ hq) hy hS (ih _ _ _ hp.2 hS hr)
    | false =>
      simp only [planOK, Bool.and_eq_true, beq_iff_eq] at hp
      refine wpAnyH_all hp.1 (by simp) ?_
      intro j hj
      obtain rfl : j = i := by simpa using hj
      exact wpOp_mono (fun a' w' hk => ⟨hk.1, ih _ _ _ hp.2 hk.1 (hk.2 hk.1)⟩) h

/-- The beginning. -/
theorem region_plan {id : Nat} {a : Act} {w : World} (plan : List (Nat × Bool)) (hm : P.follows .mixedOrders = true) (hl : plan.length = ops.size) (hs : Region.noSelect ops = true) (hp : planOK ops plan (Array.replicate ops.size false) = true)
    (hQ : ∀ c a w (dst : Option Tmp) v, Q (.panic c) (a.put dst v) w → Q (.panic c) a w) (hS : S w.drew) (h : S w.drew → wpPlan P ops Q S plan a w.drew) : (Code.region id ops true).wp P Q a w := by
  refine wp_region_held (S := S) hm ?_
  rw [← hl] at hp ⊢
  exact plan_sound hs hQ plan _ _ _ hp hS (h hS)

theorem plan_nil {a : Act} {w : World} (h : Q .normal a w) : wpPlan P ops Q S [] a w := h
theorem plan_take {i : Nat} {rest : List (Nat × Bool)} {a : Act} {w : World} {o : Oper} {v : Value} (ho : ops[i]? = some o) (hw : Region.wanted o (yielded ops a.tmps) = true) (hv : ∀ w', S w' → (execOp a.eval o).run P w' = .ok (.value v) w')
    (h : wpPlan P ops Q S rest (a.put o.dst v) w) : wpPlan P ops Q S ((i, true) :: rest) a w := ⟨o, v, ho, .inl ⟨hw, hv⟩, h⟩
theorem plan_skip {i : Nat} {rest : List (Nat × Bool)} {a : Act} {w : World} {o : Oper} (ho : ops[i]? = some o) (hw : Region.wanted o (yielded ops a.tmps) = false)
    (h : wpPlan P ops Q S rest (a.put o.dst undef) w) : wpPlan P ops Q S ((i, true) :: rest) a w := ⟨o, undef, ho, .inr ⟨hw, rfl⟩, h⟩
theorem plan_solo {i : Nat} {rest : List (Nat × Bool)} {a : Act} {w : World} {o : Oper} (ho : ops[i]? = some o) (hw : Region.wanted o (yielded ops a.tmps) = true)
    (h : ∀ K : Act → World → Prop, Shut (∀ a' w', S w' → (S w' → wpPlan P ops Q S rest a' w') → K a' w') → Oper.wp P o a w K Q) : wpPlan P ops Q S ((i, false) :: rest) a w := by
  have h1 := h (fun a' w' => S w' ∧ (S w' → wpPlan P ops Q S rest a' w')) (fun a' w' h1 h2 => ⟨h1, h2⟩)
  show Go.wpOp P ops Q i _ a w
  unfold Go.wpOp
  simp only [ho, hw, if_true]
  exact .inl h1
theorem plan_solo_skip {i : Nat} {rest : List (Nat × Bool)} {a : Act} {w : World} {o : Oper} (ho : ops[i]? = some o) (hw : Region.wanted o (yielded ops a.tmps) = false) (hS : S w)
    (h : wpPlan P ops Q S rest (a.put o.dst undef) w) : wpPlan P ops Q S ((i, false) :: rest) a w := by
  show Go.wpOp P ops Q i _ a w
  unfold Go.wpOp
  simp only [ho, hw, Bool.false_eq_true, if_false]
  exact ⟨hS, fun _ => h⟩
end
end Go.Proofs.Ytbcaiegglbdonaa

/-
  Two cells compared; may cells be a block's: the program's Check and the reference's.
-/
namespace Go.Proofs.Ytbcaiegglbdonaa
open Go Go.RowKit

set_option maxRecDepth 100000 in
set_option maxHeartbeats 1000000 in
theorem block_compare (x y : Cell) (w : World) :
    Calls Try.prog 97 #[.agg #[.string x.key, .int .u64 x.seq, .string x.val, .bool x.gone], .agg #[.string y.key, .int .u64 y.seq, .string y.val, .bool y.gone]] w fun e w' => e = .returned (.int .i64 (cellCmp x.key x.seq y.key y.seq)) ∧ Below w.heap.size w w' := by
  go_enter Try.func97, Try.ntmps97
  go_wp2
  go_region_held3 (fun w' => w'.cell? ⟨w.heap.size, 0, none⟩ = some (.string x.key) ∧ w'.cell? ⟨w.heap.size, 1, none⟩ = some (.int .u64 x.seq) ∧ w'.cell? ⟨w.heap.size + 1, 0, none⟩ = some (.string y.key) ∧ w'.cell? ⟨w.heap.size + 1, 1, none⟩ = some (.int .u64 y.seq)) (go_keep)
    (first | (go_at_call 126; refine (strings_Compare _ _ _).mono ?_; rintro e w' ⟨rfl, rfl⟩) | (go_at_call 127; refine (cmp_u64 _ _ _).mono ?_; rintro e w' ⟨rfl, rfl⟩) | (go_at_call 125; refine (or_two _ (Lib.compareBytes x.key.data.toList y.key.data.toList) (cmpInt y.seq x.seq) _ _ ?_ ?_).mono ?_; (go_simp); (go_simp); rintro e w' ⟨rfl, rfl⟩))
  go_wp2
  go_ret
  exact ⟨rfl, ((((Below.refl _ _).alloc (Nat.le_refl _) _).alloc (by simp) _).alloc (by simp; omega) _).drew⟩

/-- The number that Check tells: 60, a cell that may not be; 81, out of order. -/
def adjC : List Cell → Bool
  | x :: y :: l => decide (PLt x.key x.seq y.key y.seq) && adjC (y :: l)
  | _ => true
theorem adjC_iff : ∀ l : List Cell, adjC l = true ↔ ∀ (j : Nat) (x y : Cell), l[j]? = some x → l[j + 1]? = some y → PLt x.key x.seq y.key y.seq
  | [] => by simp [adjC]
  | [_] => by simp [adjC]
  | x :: y :: l => by
    rw [adjC, Bool.and_eq_true, adjC_iff (y :: l), decide_eq_true_iff]
    constructor
    · rintro ⟨h1, h2⟩ j u v hu hv
      cases j with
      | zero => simp at hu hv; subst hu hv; exact h1
      | succ j => exact h2 j u v (by simpa using hu) (by simpa using hv)
    · intro h
      exact ⟨h 0 x y rfl rfl, fun j u v hu hv => h (j + 1) u v (by simpa using hu) (by simpa using hv)⟩
def checkL (l : List Cell) : Int := if ∃ c ∈ l, checkN c = 60 then 60 else if adjC l = true then 0 else 81
def ChkRel1 (w : World) (l : List Cell) (i : Value) (W : World) : Prop := ∃ k : Nat, k ≤ l.length ∧ i = .int .i64 k ∧ (∀ c ∈ l.take k, checkN c = 0) ∧ Below w.heap.size w W
def ChkRel2 (w : World) (l : List Cell) (i : Value) (W : World) : Prop := ∃ k : Nat, k ≤ l.length ∧ i = .int .i64 ((k : Int) + 1) ∧ (∀ j x y, j < k → l[j]? = some x → l[j + 1]? = some y → PLt x.key x.seq y.key y.seq) ∧ Below w.heap.size w W
set_option maxRecDepth 100000 in
set_option maxHeartbeats 2000000 in
theorem block_check {w : World} {v : Value} {l : List Cell} (h : Reads w v l.length 4 (cellVals l)) (hl : l.length ≤ 2932031007402) :
    Calls Try.prog 39 #[v] w fun e w' => e = .returned (.int .i64 (checkL l)) ∧ Below w.heap.size w w' := by
  obtain ⟨A, cap, rfl⟩ := h.form
  have H := Lib.hid h
  clear h
  go_enter Try.func39, Try.ntmps39
  go_wp2_with fail
  go_loopw [9] (ChkRel1 w l) (fun i _ => l.length - (intOf i).toNat)
  case atStart => exact ⟨0, by omega, rfl, by simp, Below.refl _ _⟩
  case round =>
    obtain ⟨k, hk, rfl, hok, hb⟩ := hrel
    by_cases hlt : k < l.length
    · obtain ⟨x, hx⟩ : ∃ x, l[k]? = some x := ⟨_, List.getElem?_eq_getElem hlt⟩
      obtain ⟨b, o, rfl, hbl, c0, c1, c2, c3⟩ := (H.out.kept hb).cell_at hx
      have i0 : (0 : Int) ≤ (k : Int) := by omega
      have i1 : (k : Int) < (l.length : Int) := by omega
      have HX := Lib.hid hx
      have HO := Lib.hid hok
      clear hx hok
      have hba : Below wr.heap.size wr (wr.alloc (.cells #[.string x.key, .int .u64 x.seq, .string x.val, .bool x.gone] 25)) := (Below.refl _ _).alloc (Nat.le_refl _) _
      rcases check_or x with hc | hc
      · have hck := check_spec x (wr.alloc (.cells #[.string x.key, .int .u64 x.seq, .string x.val, .bool x.gone] 25))
        rw [hc] at hck
        have HC := Lib.hid hck
        have HC0 := Lib.hid hc
        clear hck hc
        go_wp2_with (go_at_call 74; refine HC.out.mono ?_; rintro e w1 ⟨rfl, hb1⟩)
        go_roundw
        case rel =>
          refine ⟨k + 1, by omega, by go_num, ?_, hb.trans ((hba.trans (hb1.mono hba.size)).mono hb.size)⟩
          intro c hc
          rw [List.take_add_one, HX.out] at hc
          rcases List.mem_append.1 hc with hc | hc
          · exact HO.out c hc
          · obtain rfl : c = x := by simpa using hc
            exact HC0.out
        case measure => simp [intOf]; omega
      · have hck := check_spec x (wr.alloc (.cells #[.string x.key, .int .u64 x.seq, .string x.val, .bool x.gone] 25))
        rw [hc] at hck
        have HC := Lib.hid hck
        have HC0 := Lib.hid (show checkL l = 60 by unfold checkL; rw [if_pos ⟨x, List.mem_of_getElem? HX.out, hc⟩])
        clear hck hc
        go_wp2_with (go_at_call 74; refine HC.out.mono ?_; rintro e w1 ⟨rfl, hb1⟩)
        go_ret
        exact ⟨by rw [HC0.out]; rfl, hb.trans ((hba.trans (hb1.mono hba.size)).mono hb.size)⟩
    · obtain rfl : k = l.length := by omega
      rw [List.take_length] at hok
      have HO := Lib.hid (show ¬ ∃ c ∈ l, checkN c = 60 by rintro ⟨c, hc, h⟩; have := hok c hc; omega)
      clear hok
      go_wp2_with fail
      go_loopw [6] (ChkRel2 w l) (fun i _ => l.length - (intOf i).toNat)
      case atStart => exact ⟨0, by omega, rfl, fun j _ _ hj => by omega, hb⟩
      case round =>
        obtain ⟨k, hk, rfl, hok, hb⟩ := hrel
        by_cases hlt : k + 1 < l.length
        · obtain ⟨x, hx⟩ : ∃ x, l[k]? = some x := ⟨_, List.getElem?_eq_getElem (by omega)⟩
          obtain ⟨y, hy⟩ : ∃ y, l[k + 1]? = some y := ⟨_, List.getElem?_eq_getElem hlt⟩
          obtain ⟨b, o, rfl, hbl, c0, c1, c2, c3⟩ := (H.out.kept hb).cell_at hx
          obtain ⟨b', o', e', _, d0, d1, d2, d3⟩ := (H.out.kept hb).cell_at hy
          cases e'
          have i0 : (0 : Int) ≤ (k : Int) := by omega
          have i1 : (k : Int) < (l.length : Int) := by omega
          have i2 : (0 : Int) ≤ (k : Int) + 1 := by omega
          have i3 : (k : Int) + 1 < (l.length : Int) := by omega
          have i4 : k + 1 < l.length := hlt
          have hw1 : IntKind.i64.wrap ((k : Int) + 1 - 1) = (k : Int) := by
            rw [show (k : Int) + 1 - 1 = (k : Int) by omega]; exact IntWalk.i64_in _ (by omega)
          have hw2 : IntKind.i64.wrap (k : Int) = (k : Int) := IntWalk.i64_in _ (by omega)
          have hw3 : IntKind.i64.wrap ((k : Int) + 1 + 1) = (k : Int) + 1 + 1 := IntWalk.i64_in _ (by omega)
          have ht1 : ((k : Int) + 1).toNat = k + 1 := by omega
          have HX := Lib.hid hx
          have HY := Lib.hid hy
          have HK := Lib.hid hok
          clear hx hy hok
          have hS : wr.drew.cell? ⟨b, o + k * 4, none⟩ = some (.string x.key) ∧ wr.drew.cell? ⟨b, o + k * 4 + 1, none⟩ = some (.int .u64 x.seq) ∧ wr.drew.cell? ⟨b, o + k * 4 + 2, none⟩ = some (.string x.val) ∧ wr.drew.cell? ⟨b, o + k * 4 + 3, none⟩ = some (.bool x.gone) ∧ wr.drew.cell? ⟨b, o + (k + 1) * 4, none⟩ = some (.string y.key) ∧ wr.drew.cell? ⟨b, o + (k + 1) * 4 + 1, none⟩ = some (.int .u64 y.seq) ∧ wr.drew.cell? ⟨b, o + (k + 1) * 4 + 2, none⟩ = some (.string y.val) ∧ wr.drew.cell? ⟨b, o + (k + 1) * 4 + 3, none⟩ = some (.bool y.gone) := ⟨c0, c1, c2, c3, d0, d1, d2, d3⟩
          by_cases hP : PLt x.key x.seq y.key y.seq
          · have HP := Lib.hid hP
            have hq : (0 ≤ cellCmp x.key x.seq y.key y.seq) = False := by rw [cellCmp_lt hP]; simp
            clear hP
            go_wp2_with fail
            refine region_plan (S := fun w' => w'.cell? ⟨b, o + k * 4, none⟩ = some (.string x.key) ∧ w'.cell? ⟨b, o + k * 4 + 1, none⟩ = some (.int .u64 x.seq) ∧ w'.cell? ⟨b, o + k * 4 + 2, none⟩ = some (.string x.val) ∧ w'.cell? ⟨b, o + k * 4 + 3, none⟩ = some (.bool x.gone) ∧ w'.cell? ⟨b, o + (k + 1) * 4, none⟩ = some (.string y.key) ∧ w'.cell? ⟨b, o + (k + 1) * 4 + 1, none⟩ = some (.int .u64 y.seq) ∧ w'.cell? ⟨b, o + (k + 1) * 4 + 2, none⟩ = some (.string y.val) ∧ w'.cell? ⟨b, o + (k + 1) * 4 + 3, none⟩ = some (.bool y.gone))
              ((0, true) :: (1, true) :: (2, true) :: (3, true) :: (4, true) :: (5, true) :: (6, true) :: (7, true) :: (8, true) :: (9, false) :: (10, true) :: [])
              (by kernel_rfl) (by kernel_rfl) (by kernel_rfl) (by kernel_rfl) (fun _ _ _ dst _ h => by cases dst <;> exact h) hS (fun hH => ?_)
            (repeat (first | (refine plan_take (v := ?_) (by (simp only [List.getElem?_toArray, List.getElem?_cons_succ, List.getElem?_cons_zero]; exact rfl)) (by rfl) ?_ ?_; rotate_left; (focus (intro wS hS; (try dsimp only at hS); go_split_ands; go_simp; (try with_reducible rfl))); simp only [Act.put, List.setIfInBounds_toArray, List.set_cons_zero, List.set_cons_succ]) | (refine plan_skip (by (simp only [List.getElem?_toArray, List.getElem?_cons_succ, List.getElem?_cons_zero]; exact rfl)) (by rfl) ?_; simp only [Act.put, List.setIfInBounds_toArray, List.set_cons_zero, List.set_cons_succ])))
            (refine plan_solo (by (simp only [List.getElem?_toArray, List.getElem?_cons_succ, List.getElem?_cons_zero]; exact rfl)) (by rfl) ?_; intro K hK; go_simp)
            refine (block_compare x y _).mono ?_
            rintro e w5 ⟨rfl, hb5⟩
            refine hK.out _ _ ⟨cell_keep hb5 c0, cell_keep hb5 c1, cell_keep hb5 c2, cell_keep hb5 c3, cell_keep hb5 d0, cell_keep hb5 d1, cell_keep hb5 d2, cell_keep hb5 d3⟩ (fun hH => ?_)
            clear hK K
            try simp only [Act.put, List.setIfInBounds_toArray, List.set_cons_zero, List.set_cons_succ]
            (repeat (first | (refine plan_take (v := ?_) (by (simp only [List.getElem?_toArray, List.getElem?_cons_succ, List.getElem?_cons_zero]; exact rfl)) (by rfl) ?_ ?_; rotate_left; (focus (intro wS hS; (try dsimp only at hS); go_split_ands; go_simp; (try with_reducible rfl))); simp only [Act.put, List.setIfInBounds_toArray, List.set_cons_zero, List.set_cons_succ]) | (refine plan_skip (by (simp only [List.getElem?_toArray, List.getElem?_cons_succ, List.getElem?_cons_zero]; exact rfl)) (by rfl) ?_; simp only [Act.put, List.setIfInBounds_toArray, List.set_cons_zero, List.set_cons_succ])))
            refine plan_nil ?_
            go_wp2_with fail
            go_roundw
            case rel =>
              refine ⟨k + 1, by omega, by go_num, fun j u v hj hu hv => ?_, hb.trans ((Below.refl _ _).drew.trans (hb5.mono hb.size))⟩
              by_cases hjk : j < k
              · exact HK.out j u v hjk hu hv
              · obtain rfl : j = k := by omega
                rw [HX.out] at hu
                rw [HY.out] at hv
                cases hu
                cases hv
                exact HP.out
            case measure => simp [intOf]; omega
          · have HP := Lib.hid (show checkL l = 81 by unfold checkL; rw [if_neg HO.out, if_neg (fun h => hP ((adjC_iff l).1 h k x y HX.out HY.out))])
            have hq : (0 ≤ cellCmp x.key x.seq y.key y.seq) = True := by have := (not_congr (cellCmp_neg_iff (k1 := x.key) (s1 := x.seq) (k2 := y.key) (s2 := y.seq))).2 hP; simp; omega
            clear hP
            go_wp2_with fail
            refine region_plan (S := fun w' => w'.cell? ⟨b, o + k * 4, none⟩ = some (.string x.key) ∧ w'.cell? ⟨b, o + k * 4 + 1, none⟩ = some (.int .u64 x.seq) ∧ w'.cell? ⟨b, o + k * 4 + 2, none⟩ = some (.string x.val) ∧ w'.cell? ⟨b, o + k * 4 + 3, none⟩ = some (.bool x.gone) ∧ w'.cell? ⟨b, o + (k + 1) * 4, none⟩ = some (.string y.key) ∧ w'.cell? ⟨b, o + (k + 1) * 4 + 1, none⟩ = some (.int .u64 y.seq) ∧ w'.cell? ⟨b, o + (k + 1) * 4 + 2, none⟩ = some (.string y.val) ∧ w'.cell? ⟨b, o + (k + 1) * 4 + 3, none⟩ = some (.bool y.gone))
              ((0, true) :: (1, true) :: (2, true) :: (3, true) :: (4, true) :: (5, true) :: (6, true) :: (7, true) :: (8, true) :: (9, false) :: (10, true) :: [])
              (by kernel_rfl) (by kernel_rfl) (by kernel_rfl) (by kernel_rfl) (fun _ _ _ dst _ h => by cases dst <;> exact h) hS (fun hH => ?_)
            (repeat (first | (refine plan_take (v := ?_) (by (simp only [List.getElem?_toArray, List.getElem?_cons_succ, List.getElem?_cons_zero]; exact rfl)) (by rfl) ?_ ?_; rotate_left; (focus (intro wS hS; (try dsimp only at hS); go_split_ands; go_simp; (try with_reducible rfl))); simp only [Act.put, List.setIfInBounds_toArray, List.set_cons_zero, List.set_cons_succ]) | (refine plan_skip (by (simp only [List.getElem?_toArray, List.getElem?_cons_succ, List.getElem?_cons_zero]; exact rfl)) (by rfl) ?_; simp only [Act.put, List.setIfInBounds_toArray, List.set_cons_zero, List.set_cons_succ])))
            (refine plan_solo (by (simp only [List.getElem?_toArray, List.getElem?_cons_succ, List.getElem?_cons_zero]; exact rfl)) (by rfl) ?_; intro K hK; go_simp)
            refine (block_compare x y _).mono ?_
            rintro e w5 ⟨rfl, hb5⟩
            refine hK.out _ _ ⟨cell_keep hb5 c0, cell_keep hb5 c1, cell_keep hb5 c2, cell_keep hb5 c3, cell_keep hb5 d0, cell_keep hb5 d1, cell_keep hb5 d2, cell_keep hb5 d3⟩ (fun hH => ?_)
            clear hK K
            try simp only [Act.put, List.setIfInBounds_toArray, List.set_cons_zero, List.set_cons_succ]
            (repeat (first | (refine plan_take (v := ?_) (by (simp only [List.getElem?_toArray, List.getElem?_cons_succ, List.getElem?_cons_zero]; exact rfl)) (by rfl) ?_ ?_; rotate_left; (focus (intro wS hS; (try dsimp only at hS); go_split_ands; go_simp; (try with_reducible rfl))); simp only [Act.put, List.setIfInBounds_toArray, List.set_cons_zero, List.set_cons_succ]) | (refine plan_skip (by (simp only [List.getElem?_toArray, List.getElem?_cons_succ, List.getElem?_cons_zero]; exact rfl)) (by rfl) ?_; simp only [Act.put, List.setIfInBounds_toArray, List.set_cons_zero, List.set_cons_succ])))
            refine plan_nil ?_
            go_wp2_with fail
            go_ret
            exact ⟨by rw [HP.out]; rfl, hb.trans ((Below.refl _ _).drew.trans (hb5.mono hb.size))⟩
        · have i3 : ¬ (k : Int) + 1 < (l.length : Int) := by omega
          have i4 : ¬ k + 1 < l.length := hlt
          have HZ := Lib.hid (show checkL l = 0 by
            unfold checkL
            rw [if_neg HO.out, if_pos]
            refine (adjC_iff l).2 fun i x y hx hy => ?_
            have := (List.getElem?_eq_some_iff.1 hy).1
            exact hok i x y (by omega) hx hy)
          clear hok
          go_wp2_with fail
          go_ret
          exact ⟨by rw [HZ.out]; rfl, hb⟩
set_option maxRecDepth 100000 in
set_option maxHeartbeats 2000000 in
theorem ref_check_list {w : World} {v : Value} {l : List Cell} (h : Reads w v l.length 4 (cellVals l)) (hl : l.length ≤ 2932031007402) :
    Calls Try.prog 40 #[v] w fun e w' => e = .returned (.int .i64 (checkL l)) ∧ Below w.heap.size w w' := by
  obtain ⟨A, cap, rfl⟩ := h.form
  have H := Lib.hid h
  clear h
  go_enter Try.func40, Try.ntmps40
  go_wp2_with fail
  go_loopw [8] (ChkRel1 w l) (fun i _ => l.length - (intOf i).toNat)
  case atStart => exact ⟨0, by omega, rfl, by simp, Below.refl _ _⟩
  case round =>
    obtain ⟨k, hk, rfl, hok, hb⟩ := hrel
    by_cases hlt : k < l.length
    · obtain ⟨x, hx⟩ : ∃ x, l[k]? = some x := ⟨_, List.getElem?_eq_getElem hlt⟩
      obtain ⟨b, o, rfl, hbl, c0, c1, c2, c3⟩ := (H.out.kept hb).cell_at hx
      have i0 : (0 : Int) ≤ (k : Int) := by omega
      have i1 : (k : Int) < (l.length : Int) := by omega
      have HX := Lib.hid hx
      have HO := Lib.hid hok
      clear hx hok
      have hba : Below wr.heap.size wr (wr.alloc (.cells #[.string x.key, .int .u64 x.seq, .string x.val, .bool x.gone] 25)) := (Below.refl _ _).alloc (Nat.le_refl _) _
      rcases check_or x with hc | hc
      · have hck := ref_check x (wr.alloc (.cells #[.string x.key, .int .u64 x.seq, .string x.val, .bool x.gone] 25))
        rw [hc] at hck
        have HC := Lib.hid hck
        have HC0 := Lib.hid hc
        clear hck hc
        go_wp2_with (go_at_call 80; refine HC.out.mono ?_; rintro e w1 ⟨rfl, hb1⟩)
        go_roundw
        case rel =>
          refine ⟨k + 1, by omega, by go_num, ?_, hb.trans ((hba.trans (hb1.mono hba.size)).mono hb.size)⟩
          intro c hc
          rw [List.take_add_one, HX.out] at hc
          rcases List.mem_append.1 hc with hc | hc
          · exact HO.out c hc
          · obtain rfl : c = x := by simpa using hc
            exact HC0.out
        case measure => simp [intOf]; omega
      · have hck := ref_check x (wr.alloc (.cells #[.string x.key, .int .u64 x.seq, .string x.val, .bool x.gone] 25))
        rw [hc] at hck
        have HC := Lib.hid hck
        have HC0 := Lib.hid (show checkL l = 60 by unfold checkL; rw [if_pos ⟨x, List.mem_of_getElem? HX.out, hc⟩])
        clear hck hc
        go_wp2_with (go_at_call 80; refine HC.out.mono ?_; rintro e w1 ⟨rfl, hb1⟩)
        go_ret
        exact ⟨by rw [HC0.out]; rfl, hb.trans ((hba.trans (hb1.mono hba.size)).mono hb.size)⟩
    · obtain rfl : k = l.length := by omega
      rw [List.take_length] at hok
      have HO := Lib.hid (show ¬ ∃ c ∈ l, checkN c = 60 by rintro ⟨c, hc, h⟩; have := hok c hc; omega)
      clear hok
      go_wp2_with fail
      go_loopw [5] (ChkRel2 w l) (fun i _ => l.length - (intOf i).toNat)
      case atStart => exact ⟨0, by omega, rfl, fun j _ _ hj => by omega, hb⟩
      case round =>
        obtain ⟨k, hk, rfl, hok, hb⟩ := hrel
        by_cases hlt : k + 1 < l.length
        · obtain ⟨x, hx⟩ : ∃ x, l[k]? = some x := ⟨_, List.getElem?_eq_getElem (by omega)⟩
          obtain ⟨y, hy⟩ : ∃ y, l[k + 1]? = some y := ⟨_, List.getElem?_eq_getElem hlt⟩
          obtain ⟨b, o, rfl, hbl, c0, c1, c2, c3⟩ := (H.out.kept hb).cell_at hx
          obtain ⟨b', o', e', _, d0, d1, d2, d3⟩ := (H.out.kept hb).cell_at hy
          cases e'
          have i0 : (0 : Int) ≤ (k : Int) := by omega
          have i1 : (k : Int) < (l.length : Int) := by omega
          have i2 : (0 : Int) ≤ (k : Int) + 1 := by omega
          have i3 : (k : Int) + 1 < (l.length : Int) := by omega
          have i4 : k + 1 < l.length := hlt
          have hw1 : IntKind.i64.wrap ((k : Int) + 1 - 1) = (k : Int) := by
            rw [show (k : Int) + 1 - 1 = (k : Int) by omega]; exact IntWalk.i64_in _ (by omega)
          have hw2 : IntKind.i64.wrap (k : Int) = (k : Int) := IntWalk.i64_in _ (by omega)
          have hw3 : IntKind.i64.wrap ((k : Int) + 1 + 1) = (k : Int) + 1 + 1 := IntWalk.i64_in _ (by omega)
          have ht1 : ((k : Int) + 1).toNat = k + 1 := by omega
          have HX := Lib.hid hx
          have HY := Lib.hid hy
          have HK := Lib.hid hok
          clear hx hy hok
          have hS : wr.drew.cell? ⟨b, o + k * 4, none⟩ = some (.string x.key) ∧ wr.drew.cell? ⟨b, o + k * 4 + 1, none⟩ = some (.int .u64 x.seq) ∧ wr.drew.cell? ⟨b, o + k * 4 + 2, none⟩ = some (.string x.val) ∧ wr.drew.cell? ⟨b, o + k * 4 + 3, none⟩ = some (.bool x.gone) ∧ wr.drew.cell? ⟨b, o + (k + 1) * 4, none⟩ = some (.string y.key) ∧ wr.drew.cell? ⟨b, o + (k + 1) * 4 + 1, none⟩ = some (.int .u64 y.seq) ∧ wr.drew.cell? ⟨b, o + (k + 1) * 4 + 2, none⟩ = some (.string y.val) ∧ wr.drew.cell? ⟨b, o + (k + 1) * 4 + 3, none⟩ = some (.bool y.gone) := ⟨c0, c1, c2, c3, d0, d1, d2, d3⟩
          by_cases hP : PLt x.key x.seq y.key y.seq
          · have HP := Lib.hid hP
            have hq : decide (PLt x.key x.seq y.key y.seq) = true := decide_eq_true hP
            clear hP
            go_wp2_with fail
            refine region_plan (S := fun w' => w'.cell? ⟨b, o + k * 4, none⟩ = some (.string x.key) ∧ w'.cell? ⟨b, o + k * 4 + 1, none⟩ = some (.int .u64 x.seq) ∧ w'.cell? ⟨b, o + k * 4 + 2, none⟩ = some (.string x.val) ∧ w'.cell? ⟨b, o + k * 4 + 3, none⟩ = some (.bool x.gone) ∧ w'.cell? ⟨b, o + (k + 1) * 4, none⟩ = some (.string y.key) ∧ w'.cell? ⟨b, o + (k + 1) * 4 + 1, none⟩ = some (.int .u64 y.seq) ∧ w'.cell? ⟨b, o + (k + 1) * 4 + 2, none⟩ = some (.string y.val) ∧ w'.cell? ⟨b, o + (k + 1) * 4 + 3, none⟩ = some (.bool y.gone))
              ((0, true) :: (1, true) :: (2, true) :: (3, true) :: (4, true) :: (5, true) :: (6, true) :: (7, true) :: (8, true) :: (9, false) :: (10, true) :: [])
              (by kernel_rfl) (by kernel_rfl) (by kernel_rfl) (by kernel_rfl) (fun _ _ _ dst _ h => by cases dst <;> exact h) hS (fun hH => ?_)
            (repeat (first | (refine plan_take (v := ?_) (by (simp only [List.getElem?_toArray, List.getElem?_cons_succ, List.getElem?_cons_zero]; exact rfl)) (by rfl) ?_ ?_; rotate_left; (focus (intro wS hS; (try dsimp only at hS); go_split_ands; go_simp; (try with_reducible rfl))); simp only [Act.put, List.setIfInBounds_toArray, List.set_cons_zero, List.set_cons_succ]) | (refine plan_skip (by (simp only [List.getElem?_toArray, List.getElem?_cons_succ, List.getElem?_cons_zero]; exact rfl)) (by rfl) ?_; simp only [Act.put, List.setIfInBounds_toArray, List.set_cons_zero, List.set_cons_succ])))
            (refine plan_solo (by (simp only [List.getElem?_toArray, List.getElem?_cons_succ, List.getElem?_cons_zero]; exact rfl)) (by rfl) ?_; intro K hK; go_simp)
            refine (less_spec x y _).mono ?_
            rintro e w5 ⟨rfl, hb5⟩
            rw [hq]
            refine hK.out _ _ ⟨cell_keep hb5 c0, cell_keep hb5 c1, cell_keep hb5 c2, cell_keep hb5 c3, cell_keep hb5 d0, cell_keep hb5 d1, cell_keep hb5 d2, cell_keep hb5 d3⟩ (fun hH => ?_)
            clear hK K
            try simp only [Act.put, List.setIfInBounds_toArray, List.set_cons_zero, List.set_cons_succ]
            (repeat (first | (refine plan_take (v := ?_) (by (simp only [List.getElem?_toArray, List.getElem?_cons_succ, List.getElem?_cons_zero]; exact rfl)) (by rfl) ?_ ?_; rotate_left; (focus (intro wS hS; (try dsimp only at hS); go_split_ands; go_simp; (try with_reducible rfl))); simp only [Act.put, List.setIfInBounds_toArray, List.set_cons_zero, List.set_cons_succ]) | (refine plan_skip (by (simp only [List.getElem?_toArray, List.getElem?_cons_succ, List.getElem?_cons_zero]; exact rfl)) (by rfl) ?_; simp only [Act.put, List.setIfInBounds_toArray, List.set_cons_zero, List.set_cons_succ])))
            refine plan_nil ?_
            go_wp2_with fail
            go_roundw
            case rel =>
              refine ⟨k + 1, by omega, by go_num, fun j u v hj hu hv => ?_, hb.trans ((Below.refl _ _).drew.trans (hb5.mono hb.size))⟩
              by_cases hjk : j < k
              · exact HK.out j u v hjk hu hv
              · obtain rfl : j = k := by omega
                rw [HX.out] at hu
                rw [HY.out] at hv
                cases hu
                cases hv
                exact HP.out
            case measure => simp [intOf]; omega
          · have HP := Lib.hid (show checkL l = 81 by unfold checkL; rw [if_neg HO.out, if_neg (fun h => hP ((adjC_iff l).1 h k x y HX.out HY.out))])
            have hq : decide (PLt x.key x.seq y.key y.seq) = false := decide_eq_false hP
            clear hP
            go_wp2_with fail
            refine region_plan (S := fun w' => w'.cell? ⟨b, o + k * 4, none⟩ = some (.string x.key) ∧ w'.cell? ⟨b, o + k * 4 + 1, none⟩ = some (.int .u64 x.seq) ∧ w'.cell? ⟨b, o + k * 4 + 2, none⟩ = some (.string x.val) ∧ w'.cell? ⟨b, o + k * 4 + 3, none⟩ = some (.bool x.gone) ∧ w'.cell? ⟨b, o + (k + 1) * 4, none⟩ = some (.string y.key) ∧ w'.cell? ⟨b, o + (k + 1) * 4 + 1, none⟩ = some (.int .u64 y.seq) ∧ w'.cell? ⟨b, o + (k + 1) * 4 + 2, none⟩ = some (.string y.val) ∧ w'.cell? ⟨b, o + (k + 1) * 4 + 3, none⟩ = some (.bool y.gone))
              ((0, true) :: (1, true) :: (2, true) :: (3, true) :: (4, true) :: (5, true) :: (6, true) :: (7, true) :: (8, true) :: (9, false) :: (10, true) :: [])
              (by kernel_rfl) (by kernel_rfl) (by kernel_rfl) (by kernel_rfl) (fun _ _ _ dst _ h => by cases dst <;> exact h) hS (fun hH => ?_)
            (repeat (first | (refine plan_take (v := ?_) (by (simp only [List.getElem?_toArray, List.getElem?_cons_succ, List.getElem?_cons_zero]; exact rfl)) (by rfl) ?_ ?_; rotate_left; (focus (intro wS hS; (try dsimp only at hS); go_split_ands; go_simp; (try with_reducible rfl))); simp only [Act.put, List.setIfInBounds_toArray, List.set_cons_zero, List.set_cons_succ]) | (refine plan_skip (by (simp only [List.getElem?_toArray, List.getElem?_cons_succ, List.getElem?_cons_zero]; exact rfl)) (by rfl) ?_; simp only [Act.put, List.setIfInBounds_toArray, List.set_cons_zero, List.set_cons_succ])))
            (refine plan_solo (by (simp only [List.getElem?_toArray, List.getElem?_cons_succ, List.getElem?_cons_zero]; exact rfl)) (by rfl) ?_; intro K hK; go_simp)
            refine (less_spec x y _).mono ?_
            rintro e w5 ⟨rfl, hb5⟩
            rw [hq]
            refine hK.out _ _ ⟨cell_keep hb5 c0, cell_keep hb5 c1, cell_keep hb5 c2, cell_keep hb5 c3, cell_keep hb5 d0, cell_keep hb5 d1, cell_keep hb5 d2, cell_keep hb5 d3⟩ (fun hH => ?_)
            clear hK K
            try simp only [Act.put, List.setIfInBounds_toArray, List.set_cons_zero, List.set_cons_succ]
            (repeat (first | (refine plan_take (v := ?_) (by (simp only [List.getElem?_toArray, List.getElem?_cons_succ, List.getElem?_cons_zero]; exact rfl)) (by rfl) ?_ ?_; rotate_left; (focus (intro wS hS; (try dsimp only at hS); go_split_ands; go_simp; (try with_reducible rfl))); simp only [Act.put, List.setIfInBounds_toArray, List.set_cons_zero, List.set_cons_succ]) | (refine plan_skip (by (simp only [List.getElem?_toArray, List.getElem?_cons_succ, List.getElem?_cons_zero]; exact rfl)) (by rfl) ?_; simp only [Act.put, List.setIfInBounds_toArray, List.set_cons_zero, List.set_cons_succ])))
            refine plan_nil ?_
            go_wp2_with fail
            go_ret
            exact ⟨by rw [HP.out]; rfl, hb.trans ((Below.refl _ _).drew.trans (hb5.mono hb.size))⟩
        · have i3 : ¬ (k : Int) + 1 < (l.length : Int) := by omega
          have i4 : ¬ k + 1 < l.length := hlt
          have HZ := Lib.hid (show checkL l = 0 by
            unfold checkL
            rw [if_neg HO.out, if_pos]
            refine (adjC_iff l).2 fun i x y hx hy => ?_
            have := (List.getElem?_eq_some_iff.1 hy).1
            exact hok i x y (by omega) hx hy)
          clear hok
          go_wp2_with fail
          go_ret
          exact ⟨by rw [HZ.out]; rfl, hb⟩
end Go.Proofs.Ytbcaiegglbdonaa

/-
  Append to a row of one's own: the slice that comes back lies in the old row or in a new block. Over any program.
-/
namespace Go.Proofs.Ytbcaiegglbdonaa
open Go Go.RowKit
section
variable {P : Program}

theorem append_block {w : World} (base : Nat) (t ty e : TypeId) (i : TypeInfo) (z : Value) (size bytes : Nat) (ht : P.underlying t = some (.slice e)) (hi : P.info? e = some i) (hz : i.zero = some z)
    (hsize : i.size = size) (hby : i.bytes = bytes) (v : Value) (n : Nat) (xs : List Value) (hown : w.ownsRow base e size v n xs)
    (a : Addr) (m c : Nat) (news : List Value) (hl : news.length = m * size) (hnews : ∀ j u, news[j]? = some u → w.cell? (a.add j) = some u) (h1 : ∀ u ∈ news, u.oneCell' = true)
    (hm : 0 < m) (h63 : n + m ≤ maxLen) (hbytes : (n + m) * bytes ≤ 140737488355328) {v' : Value} {w' : World} (hr : (Builtin.append_ #[t, t] ty #[v, .slice (some a) m c]).run P w = .ok v' w') :
    ∀ g, v'.ownBlock = some g → v.ownBlock = some g ∨ w.heap.size ≤ g := by
  subst hsize
  subst hby
  have hsm : n + m ≤ 9223372036854775807 := by simp only [maxLen] at h63; omega
  intro g' hg'
  rcases hown.2 with ⟨rfl, rfl⟩ | ⟨g, cap, cur, rfl, hbg, hg, hnc, hcm, hcs, htake⟩
  · have hr2 := run_append_nil (P := P) w t ty e i z ht hi hz a m c news hl hnews hm (by omega) (by have hb := hbytes; simp only [Nat.zero_add] at hb; omega)
    rw [hr] at hr2
    cases hr2
    cases hg'
    exact .inr (Nat.le_refl _)
  · by_cases hroom : n + m ≤ cap
    · have hr2 := run_append_room (P := P) w t ty e i ht hi g n cap cur hg a m c news hl hnews h1 hroom (by rw [hl, hcs, ← Nat.add_mul]; exact Nat.mul_le_mul_right _ hroom)
      rw [hr] at hr2
      cases hr2
      exact .inl hg'
    · have hr2 := run_append_grow (P := P) w t ty e i z ht hi hz ⟨g, 0, none⟩ n cap xs hown.1 (hown.cells (g := g) rfl) a m c news hl hnews (by omega) (by omega) (growslice_fits (by omega) hbytes)
      rw [hr] at hr2
      cases hr2
      cases hg'
      exact .inr (Nat.le_refl _)

theorem wpListIn_append_fresh {F : Fence} {n : Nat} (w : World) {ops : Array Oper} {rest : List Oper} {o : Oper} {a : Act} {Q : Exit → Act → World → Prop}
    (hg : o.guard = none) (s x : Operand) (t : TypeId) (hop : o.op = Op.call { callee := Callee.builtin Builtin.append, args := #[s, x], argTypes := #[t, t] })
    (base : Nat) (e : TypeId) (i : TypeInfo) (z : Value) (size bytes : Nat) (h1 : P.underlying t = some (.slice e)) (h2 : P.info? e = some i) (h3 : i.zero = some z) (h4 : i.size = size) (h5 : i.bytes = bytes) (h6 : z.cells.size = size) (h7 : 0 < size)
    (v : Value) (k : Nat) (xs : List Value) (hs : a.eval s = v) (hown : w.ownsRow base e size v k xs) (ad : Addr) (m c : Nat) (news : List Value) (hx : a.eval x = .slice (some ad) m c) (hn : news.length = m * size)
    (hc : ∀ j u, news[j]? = some u → w.cell? (ad.add j) = some u) (h1c : ∀ u ∈ news, u.oneCell' = true) (hm : 0 < m) (b1 : k + m ≤ maxLen) (b2 : (k + m) * bytes ≤ 140737488355328) (b3 : base ≤ w.heap.size)
    (hK : ∀ v' w', w'.ownsRow base e size v' (k + m) (xs ++ news) → w.grownBy w' v.ownBlock → (∀ g, v'.ownBlock = some g → v.ownBlock = some g ∨ w.heap.size ≤ g) → wpListIn F n P ops Q rest (a.put o.dst v') w') :
    wpListIn F n P ops Q (o :: rest) a w := by
  refine wpListIn_plain hg fun K hK' => ?_
  obtain ⟨v', w', hrun, r1, r2, _⟩ := run_append_own (P := P) w base t o.type e i z size bytes h1 h2 h3 h4 h5 h6 h7 v k xs hown ad m c news hn hc h1c b1 b2 b3
  have r4 := append_block base t o.type e i z size bytes h1 h2 h3 h4 h5 v k xs hown ad m c news hn hc h1c hm b1 b2 hrun
  unfold Oper.wpIn
  refine ⟨?_, ?_⟩
  · simp [Oper.about, hop, resolve, Target.leads, Sem.run_pure]
  · rw [Oper.semAt_plain F _ _ (by rw [hop]; intro c hc'; cases hc')]
    simp [execOp, hop, resolve, invoke, builtin, hs, hx, hrun, Result.andThen]
    exact hK' _ _ (hK v' w' r1 r2 r4)
end
end Go.Proofs.Ytbcaiegglbdonaa

/-
  A loop over an iterator that collects the cells: what its rounds keep.
-/
namespace Go.Proofs.Ytbcaiegglbdonaa
open Go.RowKit Go.Shelf

def cellV (x : Cell) : Value := .agg #[.string x.key, .int .u64 x.seq, .string x.val, .bool x.gone]
theorem scan_stops (n : Nat) (hn : 1 ≤ n) {w : World} {X : Nat → Prop} {pb b0 b1 b2 a : Nat} {F : Nat → Prop} {M : MM} {fr «to» : ByteArray}
    (h0 : Blk w b0 #[.pointer (some ⟨a, 0, none⟩)] 26) (h1 : Blk w b1 #[.string fr] 9) (h2 : Blk w b2 #[.string «to»] 9) (n1 : ¬ Sx X pb w b1) (n2 : ¬ Sx X pb w b2) (hS : ∀ b, Sx X pb w b → b < w.heap.size) (hpb : pb < w.heap.size)
    (hm : MemIs w a F M) (hl : M.length * 48 ≤ 140737488355328) :
    SeqStopsK Fence.wide n Try.prog 77 #[.pointer (some ⟨b0, 0, none⟩), .pointer (some ⟨b1, 0, none⟩), .pointer (some ⟨b2, 0, none⟩)] (fun x : Cell => #[.agg #[.string x.key, .int .u64 x.seq, .string x.val, .bool x.gone]]) (KpC X pb)
      (fun ys => ys = scanL fr «to» (M.map (·.1))) (fun pre => pre <+: scanL fr «to» (M.map (·.1))) (scanL fr «to» (M.map (·.1))).length w := fun l J Jx W hW hJ hJx hY hj0 => by
  have hk : KpC X pb w W := KpC.of_below hW hpb
  exact scan1_in n hn l X pb b0 b1 b2 a F M fr «to» J Jx W hJ hJx hY (h0.kept hW) (h1.kept hW) (h2.kept hW) (fun h => n1 (hk.sub _ h1.lt h)) (fun h => n2 (hk.sub _ h2.lt h))
    (fun b hs => Nat.lt_of_lt_of_le (hS b (hs.imp id fun ⟨o, x, c, h⟩ => ⟨o, x, c, by rw [← hW.cell (p := ⟨pb, 0, none⟩) hpb]; exact h⟩)) hW.size) (Nat.lt_of_lt_of_le hpb hW.size) (hm.kept hW) hl hj0

/-- The blocks of F lie as they lay. -/
structure ColI (w0 : World) (F : Nat → Prop) (Ws : World) (pb : Nat) (Ds : List Nat) (xs : List Cell) (W : World) : Prop where
  row : ∃ v, Boxed W pb 22 v ∧ W.ownsRow w0.heap.size 25 4 v xs.length (cellVals xs) ∧ ∀ g, v.ownBlock = some g → ¬ F g
  only : Only (fun k => ¬ F k) Ws W
  below : Below w0.heap.size w0 W
  marks : ∀ D ∈ Ds, W.heap[D]? = some (.deferred (some []))
theorem Only.grown {S : Nat → Prop} {a w w' : World} {row : Option Nat} (h : Only S a w) (hg : w.grownBy w' row) (hr : ∀ k, k < a.heap.size → ¬ S k → some k ≠ row) : Only S a w' :=
  ⟨hg.os.trans h.os, hg.tape.trans h.tape, hg.output.trans h.output, Nat.le_trans h.size hg.size, fun k hk hn => (hg.block k (Nat.lt_of_lt_of_le hk h.size) (hr k hk hn)).trans (h.block k hk hn)⟩
def Solid (F : Nat → Prop) (W : World) : Prop := ∀ k, F k → ∃ o, W.heap[k]? = some o ∧ o.isCells = true
theorem colI_own {w0 Ws : World} {F : Nat → Prop} {pb B : Nat} {Ds : List Nat} (pre0 : List Cell) (hF : Solid F Ws) (hB : w0.heap.size ≤ B) (hD : ∀ D ∈ Ds, D < B) : OwnFrom B (fun pre W => ColI w0 F Ws pb Ds (pre0 ++ pre) W) := by
  rintro s X Y row ⟨⟨v, hv, hr, hn⟩, ho, hb, hd⟩ hg hrow
  refine ⟨⟨v, hv.kept hg (fun e' => ?_), hr.kept hg ?_, hn⟩, ho.grown hg (fun k hk hk' e => ?_), hb.grown hg hb.size (fun k e => Nat.le_trans hB (hrow k e).1), fun D hDs => (hg.block D ?_ (fun e => ?_)).trans (hd D hDs)⟩
  · obtain ⟨_, o, ho, hc⟩ := hrow pb e'.symm
    rw [show X.heap[pb]? = _ from hv] at ho; cases ho; cases hc
  · rcases hr.2 with ⟨rfl, _⟩ | ⟨g, cap, cur, rfl, _, hgb, _⟩
    · exact .inl rfl
    · refine .inr fun e' => ?_
      obtain ⟨_, o, ho, hc⟩ := hrow g (by simpa [Value.ownBlock] using e'.symm)
      rw [hgb] at ho; cases ho; cases hc
  · obtain ⟨_, o, h1, hc⟩ := hrow k e.symm
    obtain ⟨o', h2, hc'⟩ := hF k (Classical.not_not.1 hk')
    rw [ho.block k hk hk', h2] at h1; cases h1; rw [hc] at hc'; cases hc'
  · exact (Array.getElem?_eq_some_iff.1 (hd D hDs)).1
  · have := (hrow D e.symm).1; have := hD D hDs; omega

theorem cellVals_snoc (xs : List Cell) (x : Cell) : cellVals (xs ++ [x]) = cellVals xs ++ [.string x.key, .int .u64 x.seq, .string x.val, .bool x.gone] := by simp [cellVals]
theorem own_cell {W : World} {pb : Nat} {v : Value} {n k e B : Nat} {xs : List Value} (hv : Boxed W pb 22 v) (hr : W.ownsRow B e k v n xs) {b : Nat} (hb : v.ownBlock = some b) : Sx (fun k => k = pb) pb W b := by
  rcases hr.2 with ⟨rfl, _⟩ | ⟨g, cap, cur, rfl, _, hgb, _⟩
  · cases hb
  · cases hb
    exact .inr ⟨0, n, cap, hv.cell⟩
/-- One round of 'box = append(box, c)'. -/
theorem ColI.step {w0 Ws W w1 : World} {F : Nat → Prop} {pb : Nat} {Ds : List Nat} {xs : List Cell} {x : Cell} {v v' : Value} {tmp : Obj} (h : ColI w0 F Ws pb Ds xs W) (hp : ¬ F pb) (hpb : w0.heap.size ≤ pb) (hlt : ∀ k, F k → k < Ws.heap.size)
    (hv : Boxed W pb 22 v) (hrow : W.ownsRow w0.heap.size 25 4 v xs.length (cellVals xs)) (hvF : ∀ g, v.ownBlock = some g → ¬ F g)
    (hown' : w1.ownsRow w0.heap.size 25 4 v' (xs.length + 1) (cellVals xs ++ [.string x.key, .int .u64 x.seq, .string x.val, .bool x.gone])) (hgrow : (W.alloc tmp).grownBy w1 v.ownBlock)
    (hfr : ∀ g, v'.ownBlock = some g → v.ownBlock = some g ∨ (W.alloc tmp).heap.size ≤ g) :
    Boxed w1 pb 22 v ∧ KeepsOthers W (w1.setCell ⟨pb, 0, none⟩ v') ∧ KpC (fun k => k = pb) pb W (w1.setCell ⟨pb, 0, none⟩ v') ∧ ColI w0 F Ws pb Ds (xs ++ [x]) (w1.setCell ⟨pb, 0, none⟩ v') := by
  obtain ⟨hv1, hv2, hr2, hk2, hb2⟩ := hv.appended (by decide) hrow h.below.size hpb hown' hgrow
  have hoth : ∀ k, k < W.heap.size → k ≠ pb → v.ownBlock ≠ some k → (w1.setCell ⟨pb, 0, none⟩ v').heap[k]? = W.heap[k]? := fun k hk h1 h2 =>
    (Below.heap_setCell _ _ _ _ h1).trans ((hgrow.block k (by simp; omega) (fun e => h2 e.symm)).trans (Below.heap_alloc _ _ _ hk))
  refine ⟨hv1, hk2, ⟨hb2.size, fun b o hn hb _ => ?_, fun b hb hs => ?_⟩, ⟨⟨v', hv2, ?_, fun g hg hF => ?_⟩, ⟨?_, ?_, ?_, ?_, fun k hk hF => ?_⟩, h.below.trans hb2, fun D hD => hk2.same D _ (h.marks D hD) rfl⟩⟩
  · exact (hoth b (lt_of_block hb) (fun e => hn (.inl e)) (fun e => hn (own_cell hv hrow e))).trans hb
  · rcases hs with hs | ⟨o, n, c, hs⟩
    · exact .inl hs
    · rw [hv2.cell] at hs
      cases hs
      rcases hfr b rfl with h1 | h1
      · exact own_cell hv hrow h1
      · simp at h1; omega
  · rw [cellVals_snoc, List.length_append]; exact hr2
  · rcases hfr g hg with h1 | h1
    · exact hvF g h1 hF
    · have := hlt g hF; have := h.only.size; simp at h1; omega
  · exact hb2.os.trans h.only.os
  · exact hb2.tape.trans h.only.tape
  · exact hb2.output.trans h.only.output
  · exact Nat.le_trans h.only.size hb2.size
  · have hF' := Classical.not_not.1 hF
    exact (hoth k (Nat.lt_of_lt_of_le hk h.only.size) (fun e => hp (e ▸ hF')) (fun e => hvF k e hF')).trans (h.only.block k hk hF)
theorem ColI.alloc {w0 Ws W : World} {F : Nat → Prop} {pb : Nat} {Ds : List Nat} {xs : List Cell} (h : ColI w0 F Ws pb Ds xs W) (o : Obj) : ColI w0 F Ws pb Ds xs (W.alloc o) := by
  obtain ⟨⟨v, hv, hr, hn⟩, ho, hb, hd⟩ := h
  exact ⟨⟨v, hv.alloc _, hr.alloc _, hn⟩, ho.alloc o, hb.alloc hb.size o, fun D hD => (Below.heap_alloc _ _ _ (Array.getElem?_eq_some_iff.1 (hd D hD)).1).trans (hd D hD)⟩
/-- A table's set of blocks, made of blocks of cells alone. -/
theorem MemIs.solid {w : World} {a : Nat} {F : Nat → Prop} {M : MM} (h : MemIs w a F M) : ∃ F', MemIs w a F' M ∧ Solid F' w ∧ ∀ k, F' k → F k := by
  obtain ⟨hb, L, h1, h2, h3⟩ := h.skip
  refine ⟨foot a hb L, ⟨fun k hk => h.lt k (h3 k hk), h.sorted, h.pos, h.ok, hb, L, h1, h2, fun k hk => hk⟩, ?_, h3⟩
  rintro k (rfl | rfl | ⟨n, hn, rfl⟩)
  · exact ⟨_, h1.mem, rfl⟩
  · exact ⟨_, h1.head, rfl⟩
  · obtain ⟨f, hf⟩ := h1.nodes.mem hn
    exact ⟨_, hf, rfl⟩
/-- One more block of cells beside the table. -/
theorem MemIs.wider {w : World} {a : Nat} {F : Nat → Prop} {M : MM} (h : MemIs w a F M) (hs : Solid F w) {b : Nat} {o : Obj} (hb : w.heap[b]? = some o) (ho : o.isCells = true) : MemIs w a (fun k => F k ∨ k = b) M ∧ Solid (fun k => F k ∨ k = b) w := by
  obtain ⟨hb', L, h1, h2, h3⟩ := h.skip
  refine ⟨⟨?_, h.sorted, h.pos, h.ok, hb', L, h1, h2, fun k hk => .inl (h3 k hk)⟩, ?_⟩
  · rintro k (hk | rfl)
    · exact h.lt k hk
    · exact lt_of_block hb
  · rintro k (hk | rfl)
    · exact hs k hk
    · exact ⟨o, hb, ho⟩
theorem Solid.only {F : Nat → Prop} {w w' : World} (h : Solid F w) (ho : Only (fun k => ¬ F k) w w') : Solid F w' := fun k hk => by
  obtain ⟨o, h1, h2⟩ := h k hk
  exact ⟨o, (ho.block k (lt_of_block h1) (fun h => h hk)).trans h1, h2⟩
theorem Solid.kept {F : Nat → Prop} {w w' : World} (h : Solid F w) (hb : Below w.heap.size w w') : Solid F w' := h.only (Only.of_below hb)

theorem scanL_len (fr «to» : ByteArray) : ∀ cs : List Cell, (scanL fr «to» cs).length ≤ cs.length := by
  intro cs
  induction cs with
  | nil => exact Nat.le_refl _
  | cons c cs ih =>
    unfold scanL
    split
    · simp only [List.length_cons]; omega
    · split
      · simp
      · simp only [List.length_cons]; omega

/-! ### A loop over the iterator whose variable lies in a box -/
def cellA (x : Cell) : Array Value := #[.string x.key, .int .u64 x.seq, .string x.val, .bool x.gone]
theorem range_cells {n : Nat} (h1 : 1 ≤ n) {p q : Nat} {g : Operand} {assign body : Code} {Q : Exit → Act → World → Prop} {a : Act} {w : World} {lb : Array Value}
    (hg : a.eval g = .func (.func 77) #[] lb) {X : Nat → Prop} {pb : Nat} {Z : List Cell}
    (hseq : SeqStopsK Fence.wide (n - 1) Try.prog 77 lb (fun x : Cell => #[.agg #[.string x.key, .int .u64 x.seq, .string x.val, .bool x.gone]]) (KpC X pb) (fun ys => ys = Z) (fun pre => pre <+: Z) Z.length w) (hpb : pb < w.heap.size)
    (I : List Cell → World → Prop) (Ix : Code → List Cell → World → Prop) (hI : OwnFrom w.heap.size I) (hIx : ∀ c, OwnFrom w.heap.size (Ix c)) (h0 : I [] w)
    (hassign : ∀ (l : Nat) (x : Cell) (W : World) (K : Act → World → Prop), K ⟨(a.tmps.setIfInBounds p (.agg (cellA x))).setIfInBounds q (.pointer (some ⟨W.heap.size, 0, none⟩)), []⟩ (W.alloc (.cells (cellA x) 25)) →
      assign.wpIn (Fence.wide.inRound l) (n - 1 - 1) Try.prog (Exit.then K (fun _ _ _ => False)) ⟨a.tmps.setIfInBounds p (.agg (cellA x)), []⟩ W)
    (hbody : ∀ (l : Nat) (pre : List Cell) (x : Cell) (Bx : Nat) (W : World), I pre W → Blk W Bx (cellA x) 25 → w.heap.size ≤ Bx → pre.length < Z.length →
      body.wpIn (Fence.wide.inRound l) (n - 1 - 1) Try.prog (ownPostG w.heap.size (KpC X pb) I Ix (pre ++ [x]) W) ⟨(a.tmps.setIfInBounds p (.agg (cellA x))).setIfInBounds q (.pointer (some ⟨Bx, 0, none⟩)), []⟩ W)
    (hdone : ∀ (D : Nat) (W : World), w.heap.size ≤ D → I Z W → W.heap[D]? = some (.deferred (some [])) → Q .normal { a with defers := { target := .collected D, args := #[] } :: a.defers } W)
    (hstop : ∀ (D : Nat) (c : Code) (pre : List Cell) (W : World), w.heap.size ≤ D → pre <+: Z → Ix c pre W → W.heap[D]? = some (.deferred (some [])) → c.wpIn Fence.wide n Try.prog Q { a with defers := { target := .collected D, args := #[] } :: a.defers } W)
    (hIs : ∀ pre W, I pre W → w.heap.size ≤ W.heap.size) :
    (Code.rangeFunc g #[p] assign body).wpIn Fence.wide n Try.prog Q a w := by
  refine wpIn_rangeFunc_ownH rfl h1 (gf := 77) hg trivial (enters_of Try.func77 (by kernel_rfl) rfl) hseq (fun h k => h.trans k) (fun W l o o' => kpC_b hpb W l o o') (Below.refl _ _) (fun _ => rfl) I Ix hI hIx h0
    (fun x a' W => ∃ Bx, Blk W Bx (cellA x) 25 ∧ w.heap.size ≤ Bx ∧ a' = ⟨(a.tmps.setIfInBounds p (.agg (cellA x))).setIfInBounds q (.pointer (some ⟨Bx, 0, none⟩)), []⟩) ?_ ?_ ?_ (fun D xs W hD he hi hk => ?_) (fun D c pre W hD hp hx hk => hstop D c pre W hD hp hx hk)
  · rintro x a' s A B row ⟨Bx, hb, hB, rfl⟩ hgr hrow
    refine ⟨Bx, (hgr.block Bx hb.lt (fun e => ?_)).trans hb, hB, rfl⟩
    obtain ⟨_, o, ho, hc⟩ := hrow Bx e.symm
    rw [show A.heap[Bx]? = _ from hb] at ho; cases ho; cases hc
  · intro l pre x W K hi hK
    have he : ((#[p] : Array Tmp).zip #[Value.agg #[Value.string x.key, Value.int IntKind.u64 x.seq, Value.string x.val, Value.bool x.gone]]).foldl (fun t (p, v) => t.setIfInBounds p v) a.tmps = a.tmps.setIfInBounds p (.agg (cellA x)) := by simp [cellA]
    rw [he]
    refine hassign l x W K (hK _ _ ((KeepsOthers.alloc _ _).from _) ?_ (hI.alloc _ hi) ⟨W.heap.size, Blk.new _ _ _, hIs pre W hi, rfl⟩)
    exact KpC.of_below ((Below.refl _ _).alloc (Nat.le_refl _) _) (Nat.lt_of_lt_of_le hpb (hIs pre W hi))
  · rintro l pre x a' W _ _ hi ⟨Bx, hb, hB, rfl⟩ hlt
    exact hbody l pre x Bx W hi hb hB hlt
  · subst he
    exact hdone D W hD hi hk

theorem grown_below {w w' : World} (hb : Below w.heap.size w w') : w.grownBy w' none := ⟨hb.os, hb.tape, hb.output, hb.size, fun k hk _ => hb.block k hk⟩
theorem own_kept {w w' : World} {B e k n : Nat} {v : Value} {xs : List Value} (h : w.ownsRow B e k v n xs) (hb : Below w.heap.size w w') : w'.ownsRow B e k v n xs :=
  h.kept (grown_below hb) (by cases hv : v.ownBlock with | none => exact .inl rfl | some g => exact .inr (by simp))
theorem ColI.again {w0 Ws W W' : World} {F : Nat → Prop} {pb : Nat} {Ds : List Nat} {xs : List Cell} (h : ColI w0 F Ws pb Ds xs W) (hb : Below W.heap.size W W') : ColI w0 F W' pb Ds xs W' := by
  obtain ⟨v, hv, hr, hn⟩ := h.row
  exact ⟨⟨v, (hb.block pb hv.lt).trans hv, own_kept hr hb, hn⟩, Only.refl _ _, h.below.trans (hb.mono h.below.size), fun D hD => (hb.block D (Array.getElem?_eq_some_iff.1 (h.marks D hD)).1).trans (h.marks D hD)⟩
theorem ColI.fresh {w0 Ws W W' : World} {F : Nat → Prop} {pb : Nat} {Ds : List Nat} {xs : List Cell} (h : ColI w0 F Ws pb Ds xs W) (hb : Below W.heap.size W W') (b : Nat) (hs : Sx (fun k => k = pb) pb W' b) : b < W.heap.size := by
  obtain ⟨v, hv, hr, hn⟩ := h.row
  rcases hs with rfl | ⟨o, n, c, hs⟩
  · exact hv.lt
  · rw [hb.cell (p := ⟨pb, 0, none⟩) hv.lt, hv.cell] at hs
    cases hs
    exact (hr.lt b rfl).2
theorem ColI.mark {w0 Ws W : World} {F : Nat → Prop} {pb D : Nat} {Ds : List Nat} {xs : List Cell} (h : ColI w0 F Ws pb Ds xs W) (hk : W.heap[D]? = some (.deferred (some []))) : ColI w0 F Ws pb (D :: Ds) xs W :=
  ⟨h.row, h.only, h.below, fun D' hD => by rcases List.mem_cons.1 hD with rfl | hD; exact hk; exact h.marks _ hD⟩
theorem scan_ready (n : Nat) (hn : 1 ≤ n) {w0 Ws W W' : World} {F : Nat → Prop} {pb a : Nat} {Ds : List Nat} {xs : List Cell} {M : MM} {fr «to» : ByteArray} (h : ColI w0 F Ws pb Ds xs W) (hm : MemIs Ws a F M) (hS : Solid F Ws) (hl : M.length * 48 ≤ 140737488355328)
    (x0 : Blk W' W.heap.size #[.pointer (some ⟨a, 0, none⟩)] 26) (x1 : Blk W' (W.heap.size + 1) #[.string fr] 9) (x2 : Blk W' (W.heap.size + 2) #[.string «to»] 9) (hb : Below W.heap.size W W') :
    MemIs W' a F M ∧ Solid F W' ∧ ColI w0 F W' pb Ds xs W' ∧ pb < W'.heap.size ∧ (∀ k, F k → k < W'.heap.size) ∧ (∀ D ∈ Ds, D < W'.heap.size) ∧
    SeqStopsK Fence.wide n Try.prog 77 #[.pointer (some ⟨W.heap.size, 0, none⟩), .pointer (some ⟨W.heap.size + 1, 0, none⟩), .pointer (some ⟨W.heap.size + 2, 0, none⟩)] (fun x : Cell => #[.agg #[.string x.key, .int .u64 x.seq, .string x.val, .bool x.gone]]) (KpC (fun k => k = pb) pb)
      (fun ys => ys = scanL fr «to» (M.map (·.1))) (fun pre => pre <+: scanL fr «to» (M.map (·.1))) (scanL fr «to» (M.map (·.1))).length W' := by
  have hm2 := (hm.only h.only fun k hk hn => hn hk).kept hb
  have h2 := h.again hb
  obtain ⟨v, hv, _, _⟩ := h2.row
  refine ⟨hm2, (hS.only h.only).kept hb, h2, hv.lt, hm2.lt, fun D hD => (Array.getElem?_eq_some_iff.1 (h2.marks D hD)).1, scan_stops n hn x0 x1 x2 (fun hs => ?_) (fun hs => ?_) (fun b hs => Nat.lt_of_lt_of_le (h.fresh hb b hs) hb.size) hv.lt hm2 hl⟩
  · have := h.fresh hb _ hs; omega
  · have := h.fresh hb _ hs; omega

theorem MemIs.widen {w : World} {a : Nat} {F G : Nat → Prop} {M : MM} (h : MemIs w a F M) (hs : Solid F w) (hG : Solid G w) : MemIs w a (fun k => F k ∨ G k) M ∧ Solid (fun k => F k ∨ G k) w := by
  obtain ⟨hb', L, h1, h2, h3⟩ := h.skip
  refine ⟨⟨?_, h.sorted, h.pos, h.ok, hb', L, h1, h2, fun k hk => .inl (h3 k hk)⟩, ?_⟩
  · rintro k (hk | hk)
    · exact h.lt k hk
    · obtain ⟨o, ho, _⟩ := hG k hk
      exact lt_of_block ho
  · rintro k (hk | hk)
    · exact hs k hk
    · exact hG k hk
theorem own_only {w w' : World} {F : Nat → Prop} {B e k n : Nat} {v : Value} {xs : List Value} (h : w.ownsRow B e k v n xs) (ho : Only (fun k => ¬ F k) w w') (hF : ∀ g, v.ownBlock = some g → F g) : w'.ownsRow B e k v n xs := by
  obtain ⟨h1, h2⟩ := h
  refine ⟨h1, h2.imp id ?_⟩
  rintro ⟨g, cap, cur, rfl, hB, hg, hr⟩
  exact ⟨g, cap, cur, rfl, hB, (ho.block g (lt_of_block hg) (fun h => h (hF g rfl))).trans hg, hr⟩
theorem leaves_marks {F : Fence} {n : Nat} {P : Program} {fn : Func} {tmps : Array Value} {R : Ending → World → Prop} {B : Nat} : ∀ (Ds : List Nat) (W : World), Ds.Nodup → (∀ D ∈ Ds, W.heap[D]? = some (.deferred (some [])) ∧ B ≤ D) → B ≤ W.heap.size →
    (∀ W', Below B W W' → LeavesInM F n P fn tmps R [] .returning W') → LeavesInM F n P fn tmps R (Ds.map fun D => { target := .collected D, args := #[] }) .returning W := by
  intro Ds
  induction Ds with
  | nil => intro W _ _ _ h; exact h W (Below.refl _ _)
  | cons D Ds ih =>
    intro W hnd hk hB h
    obtain ⟨hn1, hn2⟩ := List.nodup_cons.1 hnd
    obtain ⟨hD, hDB⟩ := hk D (by simp)
    have hbw : Below B W (W.putObj D (.deferred none)) := (Below.refl B W).grown (grownBy_putObj' W D _) hB (fun j e => by cases e; exact hDB)
    refine ⟨by simp, .inl ⟨D, _, rfl, run_takeDeferred hD, ih _ hn2 (fun D' hD' => ⟨(World.putObj_heap_other (fun e => hn1 (by subst e; exact hD'))).trans (hk D' (by simp [hD'])).1, (hk D' (by simp [hD'])).2⟩) (Nat.le_trans hB hbw.size) (fun W' hb => h W' (hbw.trans hb))⟩⟩

end Go.Proofs.Ytbcaiegglbdonaa
