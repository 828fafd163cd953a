/-
  The law BlockTurned is proved: called with any cells, restart, place and bits, it returns true and leaves its argument as it was. Conditions: none of its own.
-/
import Derived.Test.YtbcaiegglbdonaaBlkTurned
import Derived.Test.YtbcaiegglbdonaaArgs8b
namespace Go.Proofs.Ytbcaiegglbdonaa
open Go.ChangeShapes Go.WideShapes Go.ChangeAt Go.RowKit Go.Deep Go.Joins

set_option maxRecDepth 100000 in
theorem open_turning {H : Type} {enc : TypeId × Value → H} {W : World} {v : Value} {d : DataW H} {p : List MemPlace} {r : Reach} {b0 : Nat} (hv : Value.okWide Try.prog W r b0 73 v) (h : DataW.Trod enc Try.prog W 0 (fun _ => true) true 73 v d p) :
    ∃ (cs : List Cell) (v0 : Value) (k a : Int) (t : Nat) (y0 y1 y2 y3 : DataW H × List MemPlace), v = .agg #[v0, .int .i64 k, .int .i64 a, .int .u32 t] ∧ t < 4294967296 ∧ Reads W v0 cs.length 4 (cellVals cs) ∧ (∀ c ∈ cs, CellWf c) ∧ CellsD y0.1 cs ∧ d = .agg [y0.1, y1.1, y2.1, y3.1] := by
  obtain ⟨v0, v1, v2, v3, y0, y1, y2, y3, n, rfl, rfl, _, h0, h1, h2, h3⟩ := open_agg4 Try.underlying73 (by kernel_rfl) (by kernel_rfl) hv h
  obtain ⟨cs, v0', e0, hr, hw, hd⟩ := open_cells_t h0
  obtain ⟨k, e1, _, _⟩ := DataW.trod_int Try.underlying3 h1
  obtain ⟨a, e2, _, _⟩ := DataW.trod_int Try.underlying3 h2
  obtain ⟨t, e3, _, w3⟩ := DataW.trod_int Try.underlying71 h3
  simp at e0 e1 e2 e3
  subst e0 e1 e2 e3
  have hb : 0 ≤ t ∧ t ≤ 4294967295 := by simpa [Lit.wf, IntKind.min, IntKind.max, IntKind.signed, IntKind.bits] using w3
  exact ⟨cs, v0, k, a, t.toNat, y0, y1, y2, y3, by rw [Int.toNat_of_nonneg hb.1], by omega, hr, hw, hd, rfl⟩
theorem turning_len {H : Type} {ts : List TypeId} {ds : List (DataW H)} {cs : List Cell} {y0 y1 y2 y3 : DataW H} (hsz : (DataW.weightsEach Try.prog ts ds).all (· ≤ reachBytes) = true) {j : Nat} (ht : ts[j]? = some 73) (hd : ds[j]? = some (.agg [y0, y1, y2, y3])) (hc : CellsD y0 cs) : cs.length ≤ 2932031007402 := by
  have hin : (DataW.weightsEach Try.prog [22, 3, 3, 71] [y0, y1, y2, y3]).all (· ≤ reachBytes) = true := by
    refine List.all_eq_true.2 fun n hn => List.all_eq_true.1 hsz n (DataW.weights_mem_each ht hd n ?_)
    simp only [DataW.weights, Try.underlying73]
    exact hn
  exact cells_len hin (j := 0) rfl rfl hc
set_option maxRecDepth 100000 in
theorem blockTurned_lifted (os : Os) (started : os.Started) (H : Type) (enc : TypeId × Value → H) :
    ReturnsInHanded {} Try.checked os 11 .any (Rows.blockTurnedSpec.pre6 enc Try.prog Try.f11 Rows.blockTurnedRow.domain false) (Rows.blockTurnedSpec.post enc Try.prog Try.f11 false true false false) := by
  refine returnsInHanded_of_change_sized (C := Try.checked) Try.own started (by kernel_rfl) Try.func11
    (ChangeSpec.witness6 (enc := enc) (C := Try.checked) false ⟨#[], #[.agg #[.slice none 0 0, .int .i64 0, .int .i64 0, .int .u32 0]], []⟩ 8 (by kernel_rfl) (by kernel_rfl) (by kernel_rfl) (by kernel_rfl)) ?_
  intro W base args ds gs before hval0 hW _ hsz _
  have hval : ∀ (j : Nat) t v, Try.f11.params[j]? = some t → args[j]? = some v → Value.okWide Try.prog W .any base t v := hval0
  have hW' : DataW.Whole enc Try.prog Try.f11.params.toList Rows.blockTurnedSpec.vars false W args.toList ds gs before := hW
  obtain ⟨p, q, hA0, hV, rfl, hfz, hnd⟩ := hW
  have hA : DataW.TrodAll enc Try.prog W 0 (fun _ => true) true Try.f11.params.toList args.toList ds p := hA0
  rw [Try.params11] at hA hval hsz
  obtain ⟨v0, d0, rfl, rfl, h0⟩ := trodAll_one hA
  obtain ⟨rfl, rfl⟩ := trodVars_none hV
  obtain ⟨cs, w0, k, a, t, y0, y1, y2, y3, rfl, ht, hr, hwf, hcd, rfl⟩ := open_turning (hval 0 73 v0 rfl rfl) h0
  have hl0 := turning_len hsz (j := 0) rfl rfl hcd
  refine (turned_walk hr hl0 (fun c hc => (hwf c hc).1) k a t ht).mono fun e W' ⟨he, hb⟩ => ?_
  subst he
  exact ⟨_, rfl, law_post rfl hW' rfl rfl rfl rfl (by rw [Try.params11]; intro t ht; simp at ht; rcases ht with rfl; exact ⟨by kernel_rfl, of_decide_eq_true (by kernel_rfl)⟩) hb⟩

theorem blockTurned_holds : Rows.BlockTurnedSaid :=
  OpenClaim.holds_of_wide 11 Try.f11 rfl rfl rfl rfl rfl rfl rfl ⟨rfl, rfl, rfl, rfl, rfl⟩ rfl rfl rfl rfl rfl (by kernel_rfl) Try.func11 (by kernel_rfl)
    (of_decide_eq_true (by kernel_rfl)) (by unfold Func.isWrapper; rw [if_neg (of_decide_eq_false (by kernel_rfl))]; exact ⟨rfl, rfl⟩)
    (fun os started H enc _ => blockTurned_lifted os started H enc)

end Go.Proofs.Ytbcaiegglbdonaa
