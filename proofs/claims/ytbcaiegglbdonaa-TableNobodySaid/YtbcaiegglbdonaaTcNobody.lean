/-
  The law TableNobody is proved: called with any key and any sequence, it returns true. Conditions: none of its own.
-/
import Derived.Test.YtbcaiegglbdonaaTbI
/-
  The walk of the law TableNobody.
-/
namespace Go.Proofs.Ytbcaiegglbdonaa
open Go Go.RowKit Go.Shelf
attribute [local go_sem] Oper.semAt_some
set_option linter.unusedSimpArgs false

set_option maxRecDepth 100000 in
theorem nget (k : ByteArray) (q : Int) (w : World) : Calls Try.prog 63 #[.pointer none, .string k, .int .u64 q] w (CellPost w (Cell.zero, false)) := by
  have bA : Below w.heap.size w (w.alloc (.cells #[.string ⟨#[]⟩, .int .u64 0, .string ⟨#[]⟩, .bool false] 25)) := (Below.refl _ _).alloc (Nat.le_refl _) _
  have hZ := Blk.new w #[.string ⟨#[]⟩, .int .u64 0, .string ⟨#[]⟩, .bool false] 25
  go_enter Try.func63, Try.ntmps63
  go_wp2_with fail
  refine (tmade_nil _).mono ?_
  rintro e w1 ⟨rfl, hu⟩
  obtain rfl := hu.symm
  go_wp2_with fail
  refine bodyPost_ret (v := .tuple #[cellW Cell.zero, .bool false]) ?_ rfl ⟨rfl, bA⟩
  obtain ⟨r0, r1, r2, r3⟩ := cell4 hZ
  simp [results, Try.results63, go_sem, cellW, Cell.zero, r0, r1, r2, r3]; rfl
set_option maxRecDepth 100000 in
theorem nmay (k : ByteArray) (w : World) : Calls Try.prog 64 #[.pointer none, .string k] w fun e w' => e = .returned (.bool true) ∧ w' = w := by
  go_enter Try.func64, Try.ntmps64
  go_wp2_with fail
  refine (tmade_nil _).mono ?_
  rintro e w1 ⟨rfl, hu⟩
  obtain rfl := hu.symm
  go_wp2_with fail
  go_ret
  exact ⟨rfl, rfl⟩
set_option maxRecDepth 100000 in
theorem ncount (w : World) : Calls Try.prog 67 #[.pointer none] w fun e w' => e = .returned (.int .i64 0) ∧ w' = w := by
  go_enter Try.func67, Try.ntmps67
  go_wp2_with fail
  refine (tmade_nil _).mono ?_
  rintro e w1 ⟨rfl, hu⟩
  obtain rfl := hu.symm
  go_wp2_with fail
  go_ret
  exact ⟨rfl, rfl⟩
set_option maxRecDepth 100000 in
theorem nblocks (w : World) : Calls Try.prog 68 #[.pointer none] w fun e w' => e = .returned (.int .i64 0) ∧ w' = w := by
  go_enter Try.func68, Try.ntmps68
  go_wp2_with fail
  refine (tmade_nil _).mono ?_
  rintro e w1 ⟨rfl, hu⟩
  obtain rfl := hu.symm
  go_wp2_with fail
  go_ret
  exact ⟨rfl, rfl⟩
set_option maxRecDepth 100000 in
theorem nfirst (w : World) : Calls Try.prog 69 #[.pointer none] w fun e w' => e = .returned (.string ⟨#[]⟩) ∧ w' = w := by
  go_enter Try.func69, Try.ntmps69
  go_wp2_with fail
  refine (tmade_nil _).mono ?_
  rintro e w1 ⟨rfl, hu⟩
  obtain rfl := hu.symm
  go_wp2_with fail
  go_ret
  exact ⟨rfl, rfl⟩
set_option maxRecDepth 100000 in
theorem nlast (w : World) : Calls Try.prog 70 #[.pointer none] w fun e w' => e = .returned (.string ⟨#[]⟩) ∧ w' = w := by
  go_enter Try.func70, Try.ntmps70
  go_wp2_with fail
  refine (tmade_nil _).mono ?_
  rintro e w1 ⟨rfl, hu⟩
  obtain rfl := hu.symm
  go_wp2_with fail
  go_ret
  exact ⟨rfl, rfl⟩
set_option maxRecDepth 100000 in
theorem nbytes (w : World) : Calls Try.prog 71 #[.pointer none] w fun e w' => e = .returned (.slice none 0 0) ∧ w' = w := by
  go_enter Try.func71, Try.ntmps71
  go_wp2_with fail
  refine (tmade_nil _).mono ?_
  rintro e w1 ⟨rfl, hu⟩
  obtain rfl := hu.symm
  go_wp2_with fail
  go_ret
  exact ⟨rfl, rfl⟩
set_option maxRecDepth 100000 in
theorem nshape (w : World) : Calls Try.prog 65 #[.pointer none] w fun e w' => e = .returned (.agg #[.int .i64 0, .int .i64 0, .int .i64 0]) ∧ Below w.heap.size w w' := by
  have bA : Below w.heap.size w (w.alloc (.cells #[.int .i64 0, .int .i64 0, .int .i64 0] 89)) := (Below.refl _ _).alloc (Nat.le_refl _) _
  have hN := Blk.new w #[.int .i64 0, .int .i64 0, .int .i64 0] 89
  go_enter Try.func65, Try.ntmps65
  go_wp2_with fail
  refine (tmade_nil _).mono ?_
  rintro e w1 ⟨rfl, hu⟩
  obtain rfl := hu.symm
  go_wp2_with fail
  refine bodyPost_ret (v := .agg #[.int .i64 0, .int .i64 0, .int .i64 0]) ?_ rfl ⟨rfl, bA⟩
  have r0 : World.cell? _ ⟨w.heap.size, 0, none⟩ = some (.int .i64 0) := hN.cell 0 _ rfl
  have r1 : World.cell? _ ⟨w.heap.size, 1, none⟩ = some (.int .i64 0) := hN.cell 1 _ rfl
  have r2 : World.cell? _ ⟨w.heap.size, 2, none⟩ = some (.int .i64 0) := hN.cell 2 _ rfl
  simp [results, Try.results65, go_sem, r0, r1, r2]
set_option maxRecDepth 100000 in
theorem tscan_none (n : Nat) (hn : 1 ≤ n) (l b0 b1 b2 : Nat) (W : World) (J : List Cell → World → Prop) (hJ : AbidesFrom W.heap.size J) (h0 : Blk W b0 #[.pointer none] 95) (hj : J [] W) :
    CallsIn Fence.wide n Try.prog 124 #[.func (.yield l) #[] #[], .pointer (some ⟨b0, 0, none⟩), .pointer (some ⟨b1, 0, none⟩), .pointer (some ⟨b2, 0, none⟩)] W fun e W' => (∃ v, e = .returned v) ∧ J [] W' := by
  have c0 : W.cell? ⟨b0, 0, none⟩ = some (.pointer none) := h0.cell 0 _ rfl
  have l0 := h0.lt
  have hj2 : J [] (W.alloc (.cells #[.func (.yield l) #[] #[]] 110)) := hJ _ _ _ none hj (World.grownBy_alloc _ _ none) (fun r e => by cases e)
  refine callsIn_of_wp Try.func124 rfl trivial ?_ rfl
  simp only [Try.ntmps124, List.size_toArray, List.length_cons, List.length_nil, Nat.reduceAdd, Nat.reduceSub, Array.replicate_succ, Array.replicate_zero, List.push_toArray, List.append_toArray, List.nil_append, List.cons_append]
  have hn1 : 1 ≤ n - 1 + 1 := by omega
  gi_wp2_with fail
  refine ⟨trivial, ?_⟩
  refine (callsIn_wide.2 (tmade_nil _)).mono ?_
  rintro e w1 ⟨rfl, hu⟩
  obtain rfl := hu.symm
  gi_wp2_with fail
  refine bodyPost_ret (results_none rfl _ _ _) rfl ?_
  exact ⟨⟨_, rfl⟩, hj2⟩
theorem tscan_nil_stops (n : Nat) (hn : 1 ≤ n) {w : World} {b0 b1 b2 : Nat} (h0 : Blk w b0 #[.pointer none] 95) :
    SeqStopsK Fence.wide n Try.prog 124 #[.pointer (some ⟨b0, 0, none⟩), .pointer (some ⟨b1, 0, none⟩), .pointer (some ⟨b2, 0, none⟩)] (fun x : Cell => #[cellW x]) (fun _ _ => True) (fun ys => ys = []) (fun pre => pre <+: []) 0 w := fun l J _ W hW hJ _ _ hj0 =>
  (tscan_none n hn l b0 b1 b2 W J hJ (h0.kept hW) hj0).mono fun _ _ ⟨h1, h2⟩ => ⟨h1, .inl ⟨[], rfl, h2⟩⟩
theorem range_tnil {n : Nat} (h1 : 1 ≤ n) {p : Nat} {g : Operand} {assign body : Code} {Q : Exit → Act → World → Prop} {a : Act} {w : World} {b0 b1 b2 : Nat}
    (hg : a.eval g = .func (.func 124) #[] #[.pointer (some ⟨b0, 0, none⟩), .pointer (some ⟨b1, 0, none⟩), .pointer (some ⟨b2, 0, none⟩)]) (h0 : Blk w b0 #[.pointer none] 95) (hn : 1 ≤ n - 1)
    (hassign : ∀ (l : Nat) (x : Cell) (W : World) (K : Act → World → Prop), K ⟨a.tmps.setIfInBounds p (cellW x), []⟩ W → assign.wpIn (Fence.wide.inRound l) (n - 1 - 1) Try.prog (Exit.then K (fun _ _ _ => False)) ⟨a.tmps.setIfInBounds p (cellW x), []⟩ W)
    (hdone : ∀ (D : Nat) (W : World), w.heap.size ≤ D → Below w.heap.size w W → W.heap[D]? = some (.deferred (some [])) → Q .normal { a with defers := { target := .collected D, args := #[] } :: a.defers } W) :
    (Code.rangeFunc g #[p] assign body).wpIn Fence.wide n Try.prog Q a w := by
  refine wpIn_rangeFunc_ownH rfl h1 (gf := 124) hg trivial (enters_of Try.func124 (by kernel_rfl) rfl) (tscan_nil_stops (n - 1) hn h0) (fun _ _ => trivial) (fun W l o o' _ _ _ _ => trivial) (Below.refl _ _) (fun _ => rfl) (fun _ W => Below w.heap.size w W) (fun _ _ _ => False)
    (fun s A B row h hg hr => h.grown hg h.size (fun j hj => (hr j hj).1)) (fun _ _ _ _ _ h => h.elim) (Below.refl _ _)
    (fun x a' _ => a' = ⟨a.tmps.setIfInBounds p (cellW x), []⟩) ?_ ?_ ?_ (fun D xs W hD he hi hk => hdone D W hD hi hk) (fun _ _ _ _ _ _ hx => hx.elim)
  · rintro x a' s A B row h hgr hrow
    exact h
  · intro l pre x W K hi hK
    have he : ((#[p] : Array Tmp).zip #[cellW x]).foldl (fun t (p, v) => t.setIfInBounds p v) a.tmps = a.tmps.setIfInBounds p (cellW x) := by simp
    rw [he]
    exact hassign l x W K (hK _ _ (KeepsFrom.refl _ _) trivial hi rfl)
  · rintro l pre x a' W _ _ hi rfl hlt
    exact absurd hlt (Nat.not_lt_zero _)
theorem nob_result {tmps : Array Value} {b : Nat} {v : Bool} {W : World} (hp : tmps.getD 4 undef = .pointer (some ⟨b, 0, none⟩)) (hc : Blk W b #[.bool v] 4) : (results Try.f19 tmps).run Try.prog W = .ok (.bool v) W := by
  have c0 : W.cell? ⟨b, 0, none⟩ = some (.bool v) := hc.cell 0 _ rfl
  have hr : Try.f19.results = #[.cell 4 4] := rfl
  have hp' : tmps[4]?.getD undef = .pointer (some ⟨b, 0, none⟩) := by simpa using hp
  simp only [results, hr]
  simp [hp', asAddr, loadVar, Sem.run_bind, Result.andThen]
  go_simp
set_option maxRecDepth 100000 in
set_option maxHeartbeats 4000000 in
theorem tnobody_walk (key : ByteArray) (seq : Int) (w : World) : Calls Try.prog 19 #[.string key, .int .u64 seq] w fun e w' => e = .returned (.bool true) ∧ Below w.heap.size w w' := by
  have bA : Below w.heap.size w (w.alloc (.cells #[.bool false] 4)) := (Below.refl _ _).alloc (Nat.le_refl _) _
  have hR := Blk.new w #[.bool false] 4
  refine (callsIn_wide (n := 6)).1 ?_
  refine callsIn_of_wp_marks Try.func19 rfl trivial ?_ rfl
  simp only [Try.ntmps19, List.size_toArray, List.length_cons, List.length_nil, Nat.reduceAdd, Nat.reduceSub, Array.replicate_succ, Array.replicate_zero, List.push_toArray, List.append_toArray, List.nil_append, List.cons_append]
  gi_wp2_with fail
  refine ⟨trivial, ?_⟩
  refine (callsIn_wide.2 (tlives _)).mono ?_
  rintro e w1 ⟨rfl, hb1⟩
  have d1 := bA.trans (hb1.mono bA.size)
  have hR1 := hR.kept hb1
  gi_wp2_with fail
  refine ⟨trivial, ?_⟩
  refine (callsIn_wide.2 (nget key seq _)).mono ?_
  rintro e w2 ⟨rfl, hb2⟩
  have d2 := d1.trans (hb2.mono d1.size)
  have hR2 := hR1.kept hb2
  have e0 : Cell.zero = ⟨⟨#[]⟩, 0, ⟨#[]⟩, false⟩ := rfl
  rw [e0]
  unfold cellW
  dsimp only
  gi_wp2_with fail
  have d3 := d2.alloc d2.size (.cells #[.string ⟨#[]⟩, .int .u64 0, .string ⟨#[]⟩, .bool false] 25)
  have hR3 := hR2.alloc (.cells #[.string ⟨#[]⟩, .int .u64 0, .string ⟨#[]⟩, .bool false] 25)
  refine ⟨trivial, ?_⟩
  refine (callsIn_wide.2 (tscan_make _ _ _ _ ⟨_, rfl⟩)).mono ?_
  rintro e w4 ⟨rfl, hs0, -, -, hb4⟩
  have d4 := d3.trans (hb4.mono d3.size)
  have hR4 := hR3.kept hb4
  gi_wp2_with fail
  rw [World.size_alloc] at hs0
  refine range_tnil (p := 19) (by omega) rfl hs0 (by omega) ?assign ?done
  case assign =>
    intro l x W K hK
    simp only [List.setIfInBounds_toArray, List.set_cons_succ, List.set_cons_zero] at hK ⊢
    gi_wp2
    exact hK
  case done =>
    intro D W hD hbD hmk
    have hDw := (Array.getElem?_eq_some_iff.1 hmk).1
    have d5 := d4.trans (hbD.mono d4.size)
    have hR5 := hR4.kept hbD
    have w4n := hR4.lt
    have HMK := Lib.hid hmk
    clear hmk
    dsimp only
    gi_wp2_with fail
    refine ⟨trivial, ?_⟩
    refine (callsIn_wide.2 (nmay key _)).mono ?_
    rintro e wx ⟨rfl, hu⟩
    obtain rfl := hu.symm
    gi_wp2_with fail
    refine ⟨trivial, ?_⟩
    refine (callsIn_wide.2 (ncount _)).mono ?_
    rintro e wx ⟨rfl, hu⟩
    obtain rfl := hu.symm
    gi_wp2_with fail
    refine ⟨trivial, ?_⟩
    refine (callsIn_wide.2 (nblocks _)).mono ?_
    rintro e wx ⟨rfl, hu⟩
    obtain rfl := hu.symm
    gi_wp2_with fail
    refine ⟨trivial, ?_⟩
    refine (callsIn_wide.2 (nfirst _)).mono ?_
    rintro e wx ⟨rfl, hu⟩
    obtain rfl := hu.symm
    gi_wp2_with fail
    refine ⟨trivial, ?_⟩
    refine (callsIn_wide.2 (nlast _)).mono ?_
    rintro e wx ⟨rfl, hu⟩
    obtain rfl := hu.symm
    gi_wp2_with fail
    refine ⟨trivial, ?_⟩
    refine (callsIn_wide.2 (nshape _)).mono ?_
    rintro e w6 ⟨rfl, hb6⟩
    have d6 := d5.trans (hb6.mono d5.size)
    have hR6 := hR5.kept hb6
    have g0 : w6.cell? ⟨w.heap.size, 0, none⟩ = some (.bool false) := hR6.cell 0 _ rfl
    have g1 := hR6.lt
    have g2 := hR6.frozen 0
    gi_wp2_with fail
    refine ⟨trivial, ?_⟩
    refine (callsIn_wide.2 (nbytes _)).mono ?_
    rintro e wx ⟨rfl, hu⟩
    obtain rfl := hu.symm
    gi_wp2_with fail
    have hR7 := hR6.setCell 0 (.bool true)
    have d7 := d6.setCell (p := ⟨w.heap.size, 0, none⟩) (Nat.le_refl _) (.bool true)
    have hm7 : (w6.setCell ⟨w.heap.size, 0, none⟩ (.bool true)).heap[D]? = some (.deferred (some [])) := (Below.heap_setCell _ _ _ _ (by show D ≠ w.heap.size; omega)).trans ((hb6.block D hDw).trans HMK.out)
    refine leaves_marks (B := w.heap.size + 1) [D] _ (by simp) (fun D' hD' => ?_) (by have := hR7.lt; omega) (fun W' hb => ⟨_, nob_result (b := w.heap.size) (v := true) rfl (hR7.below hb (by omega)), rfl, d7.trans (hb.mono (by omega))⟩)
    obtain rfl : D' = D := by simpa using hD'
    exact ⟨hm7, by omega⟩
end Go.Proofs.Ytbcaiegglbdonaa

/-
  Arguments of a law opened: a slice of cells that may be nil, an int.
-/
namespace Go.Proofs.Ytbcaiegglbdonaa
open Go.ChangeShapes Go.WideShapes Go.ChangeAt Go.RowKit Go.Deep Go.Joins

set_option maxRecDepth 100000 in
/-- A nil slice of cells has nothing in it. -/
theorem open_nil {H : Type} {enc : TypeId × Value → H} {W : World} {v : Value} {d : DataW H} {p : List MemPlace} {r : Reach} {b0 : Nat} (hv : Value.okWide Try.prog W r b0 22 v) (h : DataW.Trod enc Try.prog W 0 (fun _ => true) true 22 v d p) :
    ∃ A n c, v = .slice A n c ∧ (A = none → n = 0 ∧ c = 0) := by
  obtain ⟨a0, len, cap, rfl⟩ := okWide_slice Try.underlying22 hv
  obtain ⟨fuel, hf⟩ := h
  rcases open_slice_fields Try.underlying22 Try.underlying25 (by kernel_rfl) Try.cells25 hf with ⟨hcs, hx⟩ | ⟨a, len', cap', m, D, Pl, hcs, _, hl, hm, hmm, hx, hcell⟩
  · simp [Value.cells] at hcs
    obtain ⟨rfl, rfl, rfl⟩ := hcs
    exact ⟨none, 0, 0, rfl, fun _ => ⟨rfl, rfl⟩⟩
  · simp [Value.cells] at hcs
    obtain ⟨rfl, rfl, rfl⟩ := hcs
    exact ⟨some a, _, _, rfl, fun h => by cases h⟩
theorem reads_nil {w : World} {v : Value} {cs : List Cell} (h : Reads w v cs.length 4 (cellVals cs)) (hn : ∃ A n c, v = .slice A n c ∧ (A = none → n = 0 ∧ c = 0)) : ∃ A cap, v = .slice A cs.length cap ∧ (A = none → cs.length = 0 ∧ cap = 0) := by
  obtain ⟨A, cap, rfl⟩ := h.form
  obtain ⟨A', n, c, e, h2⟩ := hn
  injection e with e1 e2 e3
  subst e1 e2 e3
  exact ⟨A, cap, rfl, h2⟩
set_option maxRecDepth 100000 in
theorem open_i64 {H : Type} {enc : TypeId × Value → H} {W : World} {v : Value} {d : DataW H} {p : List MemPlace} {r : Reach} {b0 : Nat} (hv : Value.okWide Try.prog W r b0 3 v) (h : DataW.Trod enc Try.prog W 0 (fun _ => true) true 3 v d p) :
    ∃ n, v = .int .i64 n ∧ -9223372036854775808 ≤ n ∧ n ≤ 9223372036854775807 := by
  obtain ⟨n, rfl⟩ := okWide_int Try.underlying3 hv
  obtain ⟨fuel, hf⟩ := h
  obtain ⟨k, e0, _, w0⟩ := DataW.trod_int Try.underlying3 hf
  simp [Value.cells] at e0
  subst e0
  have hw : -9223372036854775808 ≤ n ∧ n ≤ 9223372036854775807 := by simpa [Lit.wf, IntKind.min, IntKind.max, IntKind.signed, IntKind.bits] using w0
  exact ⟨n, rfl, hw.1, hw.2⟩
end Go.Proofs.Ytbcaiegglbdonaa

/-
  The law TableNobody is proved: called with any key and any sequence, it returns true. Conditions: none of its own.
-/
namespace Go.Proofs.Ytbcaiegglbdonaa
open Go.ChangeShapes Go.WideShapes Go.ChangeAt Go.RowKit Go.Deep Go.Joins

set_option maxRecDepth 100000 in
theorem tableNobody_lifted (os : Os) (started : os.Started) (H : Type) (enc : TypeId × Value → H) :
    ReturnsInHanded {} Try.checked os 19 .any (Rows.tableNobodySpec.pre6 enc Try.prog Try.f19 Rows.tableNobodyRow.domain false) (Rows.tableNobodySpec.post enc Try.prog Try.f19 false true false false) := by
  refine returnsInHanded_of_change_sized (C := Try.checked) Try.own started (by kernel_rfl) Try.func19
    (ChangeSpec.witness6 (enc := enc) (C := Try.checked) false ⟨#[], #[.string .empty, .int .u64 0], []⟩ 8 (by kernel_rfl) (by kernel_rfl) (by kernel_rfl) (by kernel_rfl)) ?_
  intro W base args ds gs before hval0 hW _ hsz _
  have hval : ∀ (j : Nat) t v, Try.f19.params[j]? = some t → args[j]? = some v → Value.okWide Try.prog W .any base t v := hval0
  have hW' : DataW.Whole enc Try.prog Try.f19.params.toList Rows.tableNobodySpec.vars false W args.toList ds gs before := hW
  obtain ⟨p, q, hA0, hV, rfl, hfz, hnd⟩ := hW
  have hA : DataW.TrodAll enc Try.prog W 0 (fun _ => true) true Try.f19.params.toList args.toList ds p := hA0
  rw [Try.params19] at hA hval hsz
  obtain ⟨v0, v1, d0, d1, p0, p1, rfl, rfl, rfl, h0, h1⟩ := trodAll_two hA
  obtain ⟨rfl, rfl⟩ := trodVars_none hV
  obtain ⟨s, rfl, rfl, rfl, _⟩ := Go.ChangeMaps.open_string Try.underlying9 (hval 0 9 v0 rfl rfl) h0
  obtain ⟨x, rfl⟩ := okWide_int Try.underlying23 (hval 1 23 v1 rfl rfl)
  refine (tnobody_walk s x W).mono fun e W' ⟨he, hb⟩ => ?_
  subst he
  exact ⟨_, rfl, law_post rfl hW' rfl rfl rfl rfl (by rw [Try.params19]; intro t ht; simp at ht; rcases ht with rfl | rfl <;> exact ⟨by kernel_rfl, of_decide_eq_true (by kernel_rfl)⟩) hb⟩

theorem tableNobody_holds : Rows.TableNobodySaid :=
  OpenClaim.holds_of_wide 19 Try.f19 rfl rfl rfl rfl rfl rfl rfl ⟨rfl, rfl, rfl, rfl, rfl⟩ rfl rfl rfl rfl rfl (by kernel_rfl) Try.func19 (by kernel_rfl)
    (of_decide_eq_true (by kernel_rfl)) (by unfold Func.isWrapper; rw [if_neg (of_decide_eq_false (by kernel_rfl))]; exact ⟨rfl, rfl⟩)
    (fun os started H enc _ => tableNobody_lifted os started H enc)

end Go.Proofs.Ytbcaiegglbdonaa
