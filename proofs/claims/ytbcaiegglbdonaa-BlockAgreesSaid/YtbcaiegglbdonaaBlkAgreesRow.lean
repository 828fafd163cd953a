/-
  The law BlockAgrees is proved: called with any two slices of cells, it returns true and leaves its arguments as they were. Conditions: none of its own.
-/
import Derived.Test.YtbcaiegglbdonaaBlkAgrees
import Derived.Test.YtbcaiegglbdonaaArgs8
namespace Go.Proofs.Ytbcaiegglbdonaa
open Go.ChangeShapes Go.WideShapes Go.ChangeAt Go.RowKit Go.Deep Go.Joins

set_option maxRecDepth 100000 in
theorem open_cap {H : Type} {enc : TypeId × Value → H} {W : World} {v : Value} {d : DataW H} {p : List MemPlace} {r : Reach} {b0 : Nat} (hv : Value.okWide Try.prog W r b0 22 v) (h : DataW.Trod enc Try.prog W 0 (fun _ => true) true 22 v d p) :
    ∃ A n c, v = .slice A n c ∧ n ≤ c := by
  obtain ⟨a0, len, cap, rfl⟩ := okWide_slice Try.underlying22 hv
  obtain ⟨fuel, hf⟩ := h
  rcases open_slice_fields Try.underlying22 Try.underlying25 (by kernel_rfl) Try.cells25 hf with ⟨hcs, hx⟩ | ⟨a, len', cap', m, D, Pl, hcs, _, hl, hm, hmm, hx, hcell⟩
  · simp [Value.cells] at hcs
    obtain ⟨rfl, rfl, rfl⟩ := hcs
    exact ⟨none, 0, 0, rfl, Nat.le_refl _⟩
  · simp [Value.cells] at hcs
    obtain ⟨rfl, rfl, rfl⟩ := hcs
    exact ⟨some a, _, _, rfl, hl⟩
theorem agrees_walk {w : World} {v1 v2 : Value} {l l2 : List Cell} (h1 : Reads w v1 l.length 4 (cellVals l)) (hc : ∃ A n c, v1 = .slice A n c ∧ n ≤ c) (h2 : Reads w v2 l2.length 4 (cellVals l2)) (hs : ∀ c ∈ l, 0 ≤ c.seq) (hl1 : l.length ≤ 2932031007402) (hl2 : l2.length ≤ 2932031007402) :
    Calls Try.prog 15 #[v1, v2] w fun e w' => e = .returned (.bool true) ∧ Below w.heap.size w w' := by
  obtain ⟨A, cap, rfl⟩ := h1.form
  obtain ⟨A', n, c, e, h3⟩ := hc
  injection e with e1 e2 e3
  subst e1 e2 e3
  by_cases h : l.length ≤ 40
  · exact agrees_few h1 h2 hs h hl2
  · exact agrees_many h1 h3 h2 hs (by omega) hl1 hl2
set_option maxRecDepth 100000 in
theorem blockAgrees_lifted (os : Os) (started : os.Started) (H : Type) (enc : TypeId × Value → H) :
    ReturnsInHanded {} Try.checked os 15 .any (Rows.blockAgreesSpec.pre6 enc Try.prog Try.f15 Rows.blockAgreesRow.domain false) (Rows.blockAgreesSpec.post enc Try.prog Try.f15 false true false false) := by
  refine returnsInHanded_of_change_sized (C := Try.checked) Try.own started (by kernel_rfl) Try.func15
    (ChangeSpec.witness6 (enc := enc) (C := Try.checked) false ⟨#[], #[.slice none 0 0, .slice none 0 0], []⟩ 8 (by kernel_rfl) (by kernel_rfl) (by kernel_rfl) (by kernel_rfl)) ?_
  intro W base args ds gs before hval0 hW _ hsz _
  have hval : ∀ (j : Nat) t v, Try.f15.params[j]? = some t → args[j]? = some v → Value.okWide Try.prog W .any base t v := hval0
  have hW' : DataW.Whole enc Try.prog Try.f15.params.toList Rows.blockAgreesSpec.vars false W args.toList ds gs before := hW
  obtain ⟨p, q, hA0, hV, rfl, hfz, hnd⟩ := hW
  have hA : DataW.TrodAll enc Try.prog W 0 (fun _ => true) true Try.f15.params.toList args.toList ds p := hA0
  rw [Try.params15] at hA hval hsz
  obtain ⟨v0, v1, d0, d1, p0, p1, rfl, rfl, rfl, h0, h1⟩ := trodAll_two hA
  obtain ⟨rfl, rfl⟩ := trodVars_none hV
  obtain ⟨cs, hcs, hwf, hd0⟩ := open_cells (hval 0 22 v0 rfl rfl) h0
  obtain ⟨ls, hls, _, hd1⟩ := open_cells (hval 1 22 v1 rfl rfl) h1
  have hl0 := cells_len hsz (j := 0) rfl rfl hd0
  have hl1 := cells_len hsz (j := 1) rfl rfl hd1
  refine (agrees_walk hcs (open_cap (hval 0 22 v0 rfl rfl) h0) hls (fun c hc => (hwf c hc).1) hl0 hl1).mono fun e W' ⟨he, hb⟩ => ?_
  subst he
  exact ⟨_, rfl, law_post rfl hW' rfl rfl rfl rfl (by rw [Try.params15]; intro t ht; simp at ht; rcases ht with rfl | rfl <;> exact ⟨by kernel_rfl, of_decide_eq_true (by kernel_rfl)⟩) hb⟩

theorem blockAgrees_holds : Rows.BlockAgreesSaid :=
  OpenClaim.holds_of_wide 15 Try.f15 rfl rfl rfl rfl rfl rfl rfl ⟨rfl, rfl, rfl, rfl, rfl⟩ rfl rfl rfl rfl rfl (by kernel_rfl) Try.func15 (by kernel_rfl)
    (of_decide_eq_true (by kernel_rfl)) (by unfold Func.isWrapper; rw [if_neg (of_decide_eq_false (by kernel_rfl))]; exact ⟨rfl, rfl⟩)
    (fun os started H enc _ => blockAgrees_lifted os started H enc)

end Go.Proofs.Ytbcaiegglbdonaa
