/-
  Texts of this seat, part 8: MemSnap, MemNobodyRow, OpenOps, Concat, Filt, WriterM, BytesM, TabN, TabBuild.
-/
import Derived.Test.YtbcaiegglbdonaaTbG
import Derived.Lib.AppendZeros
/-
  The law MemSnapshots is proved: called with any two slices of cells and any cell, it returns true and leaves its arguments as they were (a reader at a moment is not disturbed by whatever is written later). Conditions: none of its own.
-/
namespace Go.Proofs.Ytbcaiegglbdonaa
open Go.RowKit

/-! ### Plain: what is written later does not disturb -/
theorem behind_insert_ahead {key : ByteArray} {seq : Int} (A B : MM) (x : Cell × Nat) (hs : SortedM (A ++ x :: B)) (hx : PLt x.1.key x.1.seq key seq) : behindM (A ++ x :: B) key seq = behindM (A ++ B) key seq := by
  have hA : ∀ y ∈ A, ahd key seq y = true := fun y hy => decide_eq_true (((List.pairwise_append.1 hs).2.2 y hy x (by simp)).trans hx)
  unfold behindM
  rw [List.dropWhile_append_of_pos hA, List.dropWhile_append_of_pos hA, List.dropWhile_cons, if_pos (show ahd key seq x = true from decide_eq_true hx)]
theorem getM_put {M : MM} (hs : SortedM M) (c : Cell) (h : Int) (key : ByteArray) (seq : Int) (hc : seq < c.seq) : getM (putRes M c h).2 key seq = getM M key seq := by
  unfold putRes
  split
  · rfl
  · split
    · rfl
    · split
      · rfl
      · rename_i h1 h2 hh
        have hS : SortedM (aheadM M c.key c.seq ++ (c, h.toNat) :: behindM M c.key c.seq) := by
          have := sorted_put hs c h
          unfold putRes at this
          rwa [if_neg h1, if_neg h2, if_neg hh] at this
        show getM (aheadM M c.key c.seq ++ (c, h.toNat) :: behindM M c.key c.seq) key seq = getM M key seq
        have hab := ahead_behind M c.key c.seq
        by_cases hx : PLt c.key c.seq key seq
        · unfold getM
          rw [behind_insert_ahead _ _ _ hS hx, hab]
        · -- its key is greater
          have hk : SLt key c.key := by
            rcases SLt.total key c.key with h | h | h
            · exact h
            · exact absurd (.inr ⟨h.symm, hc⟩) hx
            · exact absurd (.inl h) hx
          have hne : ¬ c.key = key := fun e => by rw [e] at hk; exact SLt.irrefl _ hk
          have hx' : ahd key seq (c, h.toNat) = false := decide_eq_false hx
          -- whatever stands ahead of the place stands ahead of the cell
          have hsub : ∀ y ∈ behindM M c.key c.seq, ahd key seq y = false := fun y hy => by
            refine decide_eq_false fun hp => mem_behind hs hy (hp.trans (.inl hk))
          have hB : behindM M key seq = (aheadM M c.key c.seq).dropWhile (ahd key seq) ++ behindM M c.key c.seq := by
            have : behindM M key seq = behindM (aheadM M c.key c.seq ++ behindM M c.key c.seq) key seq := by rw [hab]
            rw [this]
            unfold behindM
            rw [List.dropWhile_append]
            split
            · rename_i he
              have he' : (aheadM M c.key c.seq).dropWhile (ahd key seq) = [] := by simpa using he
              rw [he', List.nil_append]
              cases hBB : List.dropWhile (ahd c.key c.seq) M with
              | nil => rfl
              | cons y B => rw [List.dropWhile_cons, if_neg]; rw [hsub y (by unfold behindM; rw [hBB]; simp)]; simp
            · rfl
          have hB' : behindM (aheadM M c.key c.seq ++ (c, h.toNat) :: behindM M c.key c.seq) key seq = (aheadM M c.key c.seq).dropWhile (ahd key seq) ++ (c, h.toNat) :: behindM M c.key c.seq := by
            show List.dropWhile _ _ = _
            rw [List.dropWhile_append]
            split
            · rename_i he
              have he' : (aheadM M c.key c.seq).dropWhile (ahd key seq) = [] := by simpa using he
              rw [he', List.nil_append, List.dropWhile_cons, if_neg (by rw [hx']; simp)]
            · rfl
          unfold getM
          rw [hB, hB']
          cases (aheadM M c.key c.seq).dropWhile (ahd key seq) with
          | cons y A => rfl
          | nil =>
            simp only [List.nil_append, if_neg hne]
            cases hBB : behindM M c.key c.seq with
            | nil => rfl
            | cons y B =>
              have hy := mem_behind hs (x := y) (by rw [hBB]; simp)
              have : ¬ y.1.key = key := fun e => hy (.inl (by rw [e]; exact hk))
              simp only [if_neg this]

def putAll (M : MM) (cs : List Cell) (h : Int) : MM := cs.foldl (fun M c => (putRes M c h).2) M
def putLater (seq : Int) (M : MM) (cs : List Cell) : MM := cs.foldl (fun M c => if seq < c.seq then (putRes M c 1).2 else M) M
theorem sorted_all (cs : List Cell) (h : Int) : ∀ {M : MM}, SortedM M → SortedM (putAll M cs h) := by
  induction cs with
  | nil => intro M hM; exact hM
  | cons c cs ih => intro M hM; exact ih (sorted_put hM c h)
theorem getM_later (key : ByteArray) (seq : Int) (cs : List Cell) : ∀ {M : MM}, SortedM M → getM (putLater seq M cs) key seq = getM M key seq := by
  induction cs with
  | nil => intro M _; rfl
  | cons c cs ih =>
    intro M hM
    show getM (putLater seq (if seq < c.seq then (putRes M c 1).2 else M) cs) key seq = _
    by_cases h : seq < c.seq
    · rw [if_pos h, ih (sorted_put hM c 1), getM_put hM c 1 key seq h]
    · rw [if_neg h, ih hM]
theorem putRes_len (M : MM) (c : Cell) (h : Int) : (putRes M c h).2.length ≤ M.length + 1 := by
  unfold putRes
  split
  · simp
  · split
    · simp
    · split
      · simp
      · have := congrArg List.length (ahead_behind M c.key c.seq)
        simp only [List.length_append] at this
        simp only [List.length_append, List.length_cons]
        omega
theorem putAll_len (cs : List Cell) (h : Int) : ∀ (M : MM), (putAll M cs h).length ≤ M.length + cs.length := by
  induction cs with
  | nil => intro M; simp [putAll]
  | cons c cs ih =>
    intro M
    have h1 := ih (putRes M c h).2
    have h2 := putRes_len M c h
    show (putAll (putRes M c h).2 cs h).length ≤ _
    simp only [List.length_cons]
    omega
theorem putLater_len (seq : Int) (cs : List Cell) : ∀ (M : MM), (putLater seq M cs).length ≤ M.length + cs.length := by
  induction cs with
  | nil => intro M; simp [putLater]
  | cons c cs ih =>
    intro M
    show (putLater seq (if seq < c.seq then (putRes M c 1).2 else M) cs).length ≤ _
    simp only [List.length_cons]
    split
    · have h1 := ih (putRes M c 1).2
      have h2 := putRes_len M c 1
      omega
    · have h1 := ih M
      omega
theorem putAll_snoc (M : MM) (cs : List Cell) (c : Cell) (h : Int) : putAll M (cs ++ [c]) h = (putRes (putAll M cs h) c h).2 := by simp [putAll, List.foldl_append]
theorem putLater_snoc (seq : Int) (M : MM) (cs : List Cell) (c : Cell) : putLater seq M (cs ++ [c]) = if seq < c.seq then (putRes (putLater seq M cs) c 1).2 else putLater seq M cs := by simp [putLater, List.foldl_append]

/-! ### The walk -/
def SnapRel1 (w0 : World) (a : Nat) (cs : List Cell) (i : Value) (wr : World) : Prop := ∃ k : Nat, k ≤ cs.length ∧ i = .int .i64 k ∧ Own w0 a (putAll [] (cs.take k) 2) (fun _ => False) wr
def SnapRel2 (w0 : World) (a : Nat) (seq : Int) (M : MM) (ls : List Cell) (b : Nat) (arr : Array Value) (i : Value) (wr : World) : Prop :=
  ∃ k : Nat, k ≤ ls.length ∧ i = .int .i64 k ∧ Own w0 a (putLater seq M (ls.take k)) (fun k => False ∨ k = b) wr ∧ Blk wr b arr 25
set_option maxRecDepth 100000 in
set_option maxHeartbeats 2000000 in
theorem snapshots_walk {w : World} {v1 v2 : Value} {cs ls : List Cell} (h1 : Reads w v1 cs.length 4 (cellVals cs)) (h2 : Reads w v2 ls.length 4 (cellVals ls)) (c : Cell) (hl1 : cs.length ≤ 549755813888000) (hl2 : ls.length ≤ 549755813888000) :
    Calls Try.prog 3 #[v1, v2, .agg #[.string c.key, .int .u64 c.seq, .string c.val, .bool c.gone]] w fun e w' => e = .returned (.bool true) ∧ Below w.heap.size w w' := by
  obtain ⟨A1, k1, rfl⟩ := h1.form
  obtain ⟨A2, k2, rfl⟩ := h2.form
  have H1 := Lib.hid h1
  have H2 := Lib.hid h2
  clear h1 h2
  go_enter Try.func3, Try.ntmps3
  go_wp2_with fail
  go_quiet (fail)
  go_wp2_with fail
  refine (new_spec _).mono ?_
  rintro e w1 hn
  obtain ⟨rfl, ho⟩ := Own.new (w0 := w) (below_drewN ((Below.refl _ _).alloc (Nat.le_refl _) _) nq) hn
  clear hn
  obtain ⟨a, ha⟩ : ∃ a, a = ((w.alloc (.cells #[.string c.key, .int .u64 c.seq, .string c.val, .bool c.gone] 25)).drewN nq).heap.size + 1 := ⟨_, rfl⟩
  rw [← ha] at ho ⊢
  have HA := Lib.hid ha
  clear ha
  go_wp2_with fail
  refine (awake_spec _).mono ?_
  rintro e w2 ⟨rfl, hb2⟩
  have ho2 := ho.only hb2
  clear ho hb2
  go_wp2_with fail
  go_loopw [31] (SnapRel1 w a cs) (fun i _ => cs.length - (intOf i).toNat)
  case atStart => exact ⟨0, by omega, rfl, ho2⟩
  case round =>
    obtain ⟨k, hk, rfl, ho⟩ := hrel
    by_cases hlt : k < cs.length
    · obtain ⟨d, hd⟩ : ∃ d, cs[k]? = some d := ⟨_, List.getElem?_eq_getElem hlt⟩
      obtain ⟨b, o, rfl, hbl, c0, c1, c2, c3⟩ := (H1.out.kept ho.below).cell_at hd
      have i0 : (0 : Int) ≤ (k : Int) := by omega
      have i1 : (k : Int) < (cs.length : Int) := by omega
      have hlen := putAll_len (cs.take k) 2 []
      have hln : (putAll [] (cs.take k) 2).length ≤ 1099511627776000 := by simp at hlen; omega
      clear hlen
      have HD := Lib.hid hd
      clear hd
      go_wp2_with fail
      refine ((ho.alloc _).put d 2 hln).mono ?_
      rintro e w3 ⟨rfl, ho3, _⟩
      go_wp2_with fail
      go_roundw
      case rel => exact ⟨k + 1, by omega, by go_num, by rw [take_snoc HD.out, putAll_snoc]; exact ho3⟩
      case measure => simp [intOf]; omega
    · obtain rfl : k = cs.length := by omega
      rw [List.take_length] at ho
      go_wp2_with fail
      refine (ho.get c.key c.seq).mono ?_
      rintro e w4 ⟨rfl, ho4, _⟩
      have hlen := putAll_len cs 2 []
      have hsort : SortedM (putAll [] cs 2) := sorted_all cs 2 List.Pairwise.nil
      obtain ⟨M, hM⟩ : ∃ M, M = putAll [] cs 2 := ⟨_, rfl⟩
      rw [← hM] at ho4 hlen hsort ⊢
      clear hM ho
      obtain ⟨r, hr⟩ : ∃ r, getM M c.key c.seq = r := ⟨_, rfl⟩
      rw [hr]
      have HR := Lib.hid hr
      clear hr
      have ho5 := ho4.more (.cells (cellArr r.1) 25) rfl
      have HL := Lib.hid hlen
      clear hlen
      go_wp2_with fail
      go_loopw [48] (SnapRel2 w a c.seq M ls w4.heap.size (cellArr r.1)) (fun i _ => ls.length - (intOf i).toNat)
      case atStart => exact ⟨0, by omega, rfl, ho5, Blk.new _ _ _⟩
      case round =>
        obtain ⟨k, hk, rfl, ho, hblk⟩ := hrel
        by_cases hlt : k < ls.length
        · obtain ⟨d, hd⟩ : ∃ d, ls[k]? = some d := ⟨_, List.getElem?_eq_getElem hlt⟩
          obtain ⟨b, o, rfl, hbl, c0, c1, c2, c3⟩ := (H2.out.kept ho.below).cell_at hd
          have i0 : (0 : Int) ≤ (k : Int) := by omega
          have i1 : (k : Int) < (ls.length : Int) := by omega
          have hlen2 := putLater_len c.seq (ls.take k) M
          have hln : (putLater c.seq M (ls.take k)).length ≤ 1099511627776000 := by have := HL.out; simp at hlen2 this; omega
          clear hlen2
          have HD := Lib.hid hd
          clear hd
          by_cases hsq : c.seq < d.seq
          · go_wp2_with fail
            refine ((ho.alloc _).put d 1 hln).mono ?_
            rintro e w6 ⟨rfl, ho6, hk6⟩
            have hblk6 := hk6 _ _ _ (.inr rfl) (hblk.alloc _)
            go_wp2_with fail
            go_roundw
            case rel => exact ⟨k + 1, by omega, by go_num, by rw [take_snoc HD.out, putLater_snoc, if_pos hsq]; exact ho6, hblk6⟩
            case measure => simp [intOf]; omega
          · go_wp2_with fail
            go_roundw
            case rel => exact ⟨k + 1, by omega, by go_num, by rw [take_snoc HD.out, putLater_snoc, if_neg hsq]; exact ho.alloc _, hblk.alloc _⟩
            case measure => simp [intOf]; omega
        · obtain rfl : k = ls.length := by omega
          rw [List.take_length] at ho
          go_wp2_with fail
          refine (ho.get c.key c.seq).mono ?_
          rintro e w7 ⟨rfl, ho7, hb7⟩
          rw [getM_later c.key c.seq ls hsort, HR.out]
          obtain ⟨x0, x1, x2, x3⟩ := cell4 (hblk.kept hb7)
          have hlt7 := (hblk.kept hb7).lt
          have heq := cell_eql r.1 r.1
          rw [decide_eq_true rfl] at heq
          have hbeq : (r.2 == r.2) = true := by simp
          go_wp2_with fail
          go_ret
          exact ⟨rfl, (ho7.below.alloc ho7.below.size _)⟩

/-! ### The row -/
section
open Go.ChangeShapes Go.WideShapes Go.ChangeAt Go.Deep
set_option maxRecDepth 100000 in
theorem memSnapshots_lifted (os : Os) (started : os.Started) (H : Type) (enc : TypeId × Value → H) :
    ReturnsInHanded {} Try.checked os 3 .any (Rows.memSnapshotsSpec.pre6 enc Try.prog Try.f3 Rows.memSnapshotsRow.domain false) (Rows.memSnapshotsSpec.post enc Try.prog Try.f3 false true false false) := by
  refine returnsInHanded_of_change_sized (C := Try.checked) Try.own started (by kernel_rfl) Try.func3
    (ChangeSpec.witness6 (enc := enc) (C := Try.checked) false ⟨#[], #[.slice none 0 0, .slice none 0 0, .agg #[.string .empty, .int .u64 0, .string .empty, .bool false]], []⟩ 8 (by kernel_rfl) (by kernel_rfl) (by kernel_rfl) (by kernel_rfl)) ?_
  intro W base args ds gs before hval0 hW _ hsz _
  have hval : ∀ (j : Nat) t v, Try.f3.params[j]? = some t → args[j]? = some v → Value.okWide Try.prog W .any base t v := hval0
  have hW' : DataW.Whole enc Try.prog Try.f3.params.toList Rows.memSnapshotsSpec.vars false W args.toList ds gs before := hW
  obtain ⟨p, q, hA0, hV, rfl, hfz, hnd⟩ := hW
  have hA : DataW.TrodAll enc Try.prog W 0 (fun _ => true) true Try.f3.params.toList args.toList ds p := hA0
  rw [Try.params3] at hA hval hsz
  obtain ⟨v0, v1, v2, d0, d1, d2, p0, p1, p2, rfl, rfl, rfl, h0, h1, h2⟩ := trodAll_three hA
  obtain ⟨rfl, rfl⟩ := trodVars_none hV
  obtain ⟨cs, hcs, _, hd0⟩ := open_cells (hval 0 22 v0 rfl rfl) h0
  obtain ⟨ls, hls, _, hd1⟩ := open_cells (hval 1 22 v1 rfl rfl) h1
  obtain ⟨c, rfl, _, rfl⟩ := open_cell (hval 2 25 v2 rfl rfl) h2
  have hl0 := cells_len hsz (j := 0) rfl rfl hd0
  have hl1 := cells_len hsz (j := 1) rfl rfl hd1
  refine (snapshots_walk hcs hls c (by omega) (by omega)).mono fun e W' ⟨he, hb⟩ => ?_
  subst he
  exact ⟨_, rfl, law_post rfl hW' rfl rfl rfl rfl (by rw [Try.params3]; intro t ht; simp at ht; rcases ht with rfl | rfl <;> exact ⟨by kernel_rfl, of_decide_eq_true (by kernel_rfl)⟩) hb⟩

theorem memSnapshots_holds : Rows.MemSnapshotsSaid :=
  OpenClaim.holds_of_wide 3 Try.f3 rfl rfl rfl rfl rfl rfl rfl ⟨rfl, rfl, rfl, rfl, rfl⟩ rfl rfl rfl rfl rfl (by kernel_rfl) Try.func3 (by kernel_rfl)
    (of_decide_eq_true (by kernel_rfl)) (by unfold Func.isWrapper; rw [if_neg (of_decide_eq_false (by kernel_rfl))]; exact ⟨rfl, rfl⟩)
    (fun os started H enc _ => memSnapshots_lifted os started H enc)
end

end Go.Proofs.Ytbcaiegglbdonaa

/-
  The law MemNobody is proved: called with any step, it returns true and leaves its argument as it was. Conditions: none of its own.
-/
namespace Go.Proofs.Ytbcaiegglbdonaa
open Go.ChangeShapes Go.WideShapes Go.ChangeAt Go.RowKit Go.Deep Go.Joins

theorem Try.cells51 : Try.prog.cellsOf 51 = 7 := by kernel_rfl
theorem seven {α : Type} {xs : Array α} (h : xs.size = 7) : ∃ a b c d e f g, xs = #[a, b, c, d, e, f, g] := by
  obtain ⟨l⟩ := xs
  match l, h with
  | [a, b, c, d, e, f, g], _ => exact ⟨a, b, c, d, e, f, g, rfl⟩
section
variable {H : Type} {enc : TypeId × Value → H} {W : World}
set_option maxRecDepth 100000 in
theorem trod_cell {base : Nat} {sp : Nat → Bool} {hd : Bool} {n : Nat} {c0 c1 c2 c3 : Value} {y : DataW H × List MemPlace} (h : DataW.trod enc Try.prog W base sp hd n 25 [c0, c1, c2, c3] = some y) :
    ∃ c : Cell, c0 = .string c.key ∧ c1 = .int .u64 c.seq ∧ c2 = .string c.val ∧ c3 = .bool c.gone ∧ CellWf c := by
  obtain ⟨y0, y1, y2, y3, n, _, _, h0, h1, h2, h3⟩ := trod_struct4 Try.underlying25 h
  simp only [show Try.prog.cellsOf 9 = 1 by kernel_rfl, show Try.prog.cellsOf 23 = 1 by kernel_rfl, show Try.prog.cellsOf 4 = 1 by kernel_rfl, List.drop_succ_cons, List.drop_zero, List.take_succ_cons, List.take_zero] at h0 h1 h2 h3
  obtain ⟨s0, e0, _, w0⟩ := DataW.trod_string Try.underlying9 h0
  obtain ⟨s1, e1, _, w1⟩ := DataW.trod_int Try.underlying23 h1
  obtain ⟨s2, e2, _, w2⟩ := DataW.trod_string Try.underlying9 h2
  obtain ⟨s3, e3, _⟩ := DataW.trod_bool Try.underlying4 h3
  simp at e0 e1 e2 e3
  subst e0 e1 e2 e3
  have hw : 0 ≤ s1 ∧ s1 ≤ 18446744073709551615 := by simpa [Lit.wf, IntKind.min, IntKind.max, IntKind.signed, IntKind.bits] using w1
  exact ⟨⟨s0, s1, s2, s3⟩, rfl, rfl, rfl, rfl, hw.1, hw.2, w0, w2⟩
set_option maxRecDepth 100000 in
theorem trod_op {base : Nat} {sp : Nat → Bool} {hd : Bool} {n : Nat} {c0 c1 c2 c3 c4 c5 c6 : Value} {y : DataW H × List MemPlace} (h : DataW.trod enc Try.prog W base sp hd n 51 [c0, c1, c2, c3, c4, c5, c6] = some y) :
    ∃ (kind : Int) (c : Cell) («to» : ByteArray) (k : Int), c0 = .int .i64 kind ∧ c1 = .string c.key ∧ c2 = .int .u64 c.seq ∧ c3 = .string c.val ∧ c4 = .bool c.gone ∧ c5 = .string «to» ∧ c6 = .int .i64 k ∧ CellWf c ∧ -9223372036854775808 ≤ k ∧ k ≤ 9223372036854775807 := by
  obtain ⟨y0, y1, y2, y3, n, _, _, h0, h1, h2, h3⟩ := trod_struct4 Try.underlying51 h
  simp only [show Try.prog.cellsOf 9 = 1 by kernel_rfl, show Try.prog.cellsOf 3 = 1 by kernel_rfl, show Try.prog.cellsOf 25 = 4 by kernel_rfl, List.drop_succ_cons, List.drop_zero, List.take_succ_cons, List.take_zero] at h0 h1 h2 h3
  obtain ⟨kind, e0, _, _⟩ := DataW.trod_int Try.underlying3 h0
  obtain ⟨c, e1, e2, e3, e4, hc⟩ := trod_cell h1
  obtain ⟨«to», e5, _, _⟩ := DataW.trod_string Try.underlying9 h2
  obtain ⟨k, e6, _, w6⟩ := DataW.trod_int Try.underlying3 h3
  simp at e0 e5 e6
  have hw : -9223372036854775808 ≤ k ∧ k ≤ 9223372036854775807 := by simpa [Lit.wf, IntKind.min, IntKind.max, IntKind.signed, IntKind.bits] using w6
  exact ⟨kind, c, «to», k, e0, e1, e2, e3, e4, e5, e6, hc, hw.1, hw.2⟩
set_option maxRecDepth 100000 in
theorem open_op {base : Nat} {sp : Nat → Bool} {hd : Bool} {v : Value} {d : DataW H} {p : List MemPlace} {r : Reach} {b0 : Nat} (hv : Value.okWide Try.prog W r b0 51 v) (h : DataW.Trod enc Try.prog W base sp hd 51 v d p) :
    ∃ (kind : Int) (c : Cell) («to» : ByteArray) (k : Int), v = .agg #[.int .i64 kind, .string c.key, .int .u64 c.seq, .string c.val, .bool c.gone, .string «to», .int .i64 k] ∧ CellWf c ∧ -9223372036854775808 ≤ k ∧ k ≤ 9223372036854775807 := by
  obtain ⟨cs, rfl, hsz⟩ := okWide_struct Try.underlying51 hv
  rw [Try.cells51] at hsz
  obtain ⟨c0, c1, c2, c3, c4, c5, c6, rfl⟩ := seven hsz
  obtain ⟨fuel, hf⟩ := h
  obtain ⟨kind, c, «to», k, rfl, rfl, rfl, rfl, rfl, rfl, rfl, h⟩ := trod_op (by simpa [Value.cells] using hf)
  exact ⟨kind, c, «to», k, rfl, h⟩
end

set_option maxRecDepth 100000 in
theorem memNobody_lifted (os : Os) (started : os.Started) (H : Type) (enc : TypeId × Value → H) :
    ReturnsInHanded {} Try.checked os 8 .any (Rows.memNobodySpec.pre6 enc Try.prog Try.f8 Rows.memNobodyRow.domain false) (Rows.memNobodySpec.post enc Try.prog Try.f8 false true false false) := by
  refine returnsInHanded_of_change_sized (C := Try.checked) Try.own started (by kernel_rfl) Try.func8
    (ChangeSpec.witness6 (enc := enc) (C := Try.checked) false ⟨#[], #[.agg #[.int .i64 0, .string .empty, .int .u64 0, .string .empty, .bool false, .string .empty, .int .i64 0]], []⟩ 8 (by kernel_rfl) (by kernel_rfl) (by kernel_rfl) (by kernel_rfl)) ?_
  intro W base args ds gs before hval0 hW _ hsz _
  have hval : ∀ (j : Nat) t v, Try.f8.params[j]? = some t → args[j]? = some v → Value.okWide Try.prog W .any base t v := hval0
  have hW' : DataW.Whole enc Try.prog Try.f8.params.toList Rows.memNobodySpec.vars false W args.toList ds gs before := hW
  obtain ⟨p, q, hA0, hV, rfl, hfz, hnd⟩ := hW
  have hA : DataW.TrodAll enc Try.prog W 0 (fun _ => true) true Try.f8.params.toList args.toList ds p := hA0
  rw [Try.params8] at hA hval hsz
  obtain ⟨v0, d0, rfl, rfl, h0⟩ := trodAll_one hA
  obtain ⟨rfl, rfl⟩ := trodVars_none hV
  obtain ⟨kind, c, «to», n, rfl, _⟩ := open_op (hval 0 51 v0 rfl rfl) h0
  refine (nobody_walk kind c «to» n).mono fun e W' ⟨he, hb⟩ => ?_
  subst he
  exact ⟨_, rfl, law_post rfl hW' rfl rfl rfl rfl (by rw [Try.params8]; intro t ht; simp at ht; rcases ht with rfl; exact ⟨by kernel_rfl, of_decide_eq_true (by kernel_rfl)⟩) hb⟩

theorem memNobody_holds : Rows.MemNobodySaid :=
  OpenClaim.holds_of_wide 8 Try.f8 rfl rfl rfl rfl rfl rfl rfl ⟨rfl, rfl, rfl, rfl, rfl⟩ rfl rfl rfl rfl rfl (by kernel_rfl) Try.func8 (by kernel_rfl)
    (of_decide_eq_true (by kernel_rfl)) (by unfold Func.isWrapper; rw [if_neg (of_decide_eq_false (by kernel_rfl))]; exact ⟨rfl, rfl⟩)
    (fun os started H enc _ => memNobody_lifted os started H enc)

end Go.Proofs.Ytbcaiegglbdonaa

/-
  A slice of steps (the laws' Op), opened.
-/
namespace Go.Proofs.Ytbcaiegglbdonaa
open Go.ChangeShapes Go.WideShapes Go.ChangeAt Go.RowKit Go.Deep Go.Joins

structure Step where
  kind : Int
  c : Cell
  «to» : ByteArray
  n : Int
instance : Inhabited Step := ⟨⟨0, Cell.zero, ByteArray.empty, 0⟩⟩
def stepCells (o : Step) : List Value := [.int .i64 o.kind, .string o.c.key, .int .u64 o.c.seq, .string o.c.val, .bool o.c.gone, .string o.to, .int .i64 o.n]
def opVals (l : List Step) : List Value := l.flatMap stepCells
theorem flatMap_get {α β : Type} {f : α → List β} {k : Nat} (hk : 0 < k) (hf : ∀ x, (f x).length = k) : ∀ (l : List α) (j : Nat) (u : β), (l.flatMap f)[j]? = some u → ∃ x, l[j / k]? = some x ∧ (f x)[j % k]? = some u := by
  intro l
  induction l with
  | nil => intro j u h; simp at h
  | cons x l ih =>
    intro j u h
    rw [List.flatMap_cons] at h
    by_cases hj : j < k
    · rw [List.getElem?_append_left (by rw [hf]; exact hj)] at h
      exact ⟨x, by rw [Nat.div_eq_of_lt hj]; rfl, by rw [Nat.mod_eq_of_lt hj]; exact h⟩
    · rw [List.getElem?_append_right (by rw [hf]; omega), hf] at h
      obtain ⟨y, h1, h2⟩ := ih _ _ h
      have hd : j / k = (j - k) / k + 1 := by rw [Nat.div_eq_sub_div hk (by omega)]
      exact ⟨y, by rw [hd]; exact h1, by rw [Nat.mod_eq_sub_mod (by omega)]; exact h2⟩
theorem flatMap_len {α β : Type} {f : α → List β} {k : Nat} (hf : ∀ x, (f x).length = k) (l : List α) : (l.flatMap f).length = l.length * k := by
  induction l with
  | nil => simp
  | cons x l ih => rw [List.flatMap_cons, List.length_append, hf, ih, List.length_cons, Nat.succ_mul]; omega
theorem reads_of {α : Type} {W : World} {f : α → List Value} {k : Nat} (hk : 0 < k) (hf : ∀ x, (f x).length = k) {a : Addr} {len cap : Nat} {C : Nat → α} (hl : len ≤ 9223372036854775807)
    (hC : ∀ i, i < len → ∀ j u, (f (C i))[j]? = some u → W.cell? (a.add (i * k + j)) = some u) : Reads W (.slice (some a) len cap) len k (((List.range len).map C).flatMap f) := by
  refine ⟨by rw [flatMap_len hf]; simp, hl, some a, cap, rfl, ?_⟩
  rcases Nat.eq_zero_or_pos len with h0 | h0
  · exact .inl h0
  · right
    obtain ⟨u0, hu0⟩ : ∃ u, (f (C 0))[0]? = some u := ⟨_, List.getElem?_eq_getElem (by rw [hf]; exact hk)⟩
    have hc0 : W.cell? a = some u0 := by simpa [Addr.add] using hC 0 h0 0 u0 hu0
    have hsp : a.spot = none := spot_none hc0
    have ha : a = ⟨a.block, a.off, none⟩ := by cases a; simp only at hsp; subst hsp; rfl
    refine ⟨a.block, a.off, by rw [← ha], World.block_lt_of_cell? W _ hc0, fun j u hj => ?_⟩
    obtain ⟨x, h1, h2⟩ := flatMap_get hk hf _ _ _ hj
    rw [List.getElem?_map] at h1
    obtain ⟨i, hi, rfl⟩ := Option.map_eq_some_iff.1 h1
    obtain ⟨hlt, hi2⟩ := List.getElem?_eq_some_iff.1 hi
    rw [List.getElem_range] at hi2
    rw [List.length_range] at hlt
    subst hi2
    have := hC _ hlt _ _ h2
    rw [add_at hsp, Nat.mul_comm, Nat.div_add_mod] at this
    exact this
section
variable {H : Type} {enc : TypeId × Value → H} {W : World}
set_option maxRecDepth 100000 in
theorem open_ops {v : Value} {d : DataW H} {p : List MemPlace} {r : Reach} {b0 : Nat} (hv : Value.okWide Try.prog W r b0 46 v) (h : DataW.Trod enc Try.prog W 0 (fun _ => true) true 46 v d p) :
    ∃ l : List Step, Reads W v l.length 7 (opVals l) ∧ (∀ o ∈ l, CellWf o.c) ∧ ((d = .nil ∧ l = []) ∨ ∃ xs spare, d = .slice xs spare ∧ xs.length = l.length) := by
  obtain ⟨a0, len, cap, rfl⟩ := okWide_slice Try.underlying46 hv
  obtain ⟨fuel, hf⟩ := h
  rcases open_slice Try.underlying46 hf with ⟨hcs, hx⟩ | ⟨a, len', cap', m, n, D, Pl, hcs, _, hl, hm, hmm, hx, hcell⟩
  · simp [Value.cells] at hcs
    obtain ⟨rfl, rfl, rfl⟩ := hcs
    simp only [Prod.mk.injEq] at hx
    exact ⟨[], ⟨rfl, by simp, none, 0, rfl, .inl rfl⟩, by simp, .inl ⟨hx.1, rfl⟩⟩
  · simp [Value.cells] at hcs
    obtain ⟨rfl, rfl, rfl⟩ := hcs
    simp only [if_true] at hmm
    subst hmm
    rw [Try.cells51] at hcell
    obtain ⟨C, hC⟩ := choose_lt (α := Step) (p := fun i o => CellWf o.c ∧ ∀ j u, (stepCells o)[j]? = some u → W.cell? (a.add (i * 7 + j)) = some u) (fun i (hi : i < m) => by
      obtain ⟨cs', hc, ht⟩ := hcell i hi
      obtain ⟨_, hcl, hat⟩ := World.cells?_some hc
      obtain ⟨c0, c1, c2, c3, c4, c5, c6, he⟩ := seven (xs := cs'.toArray) (by simpa using hcl)
      have he : cs' = [c0, c1, c2, c3, c4, c5, c6] := by simpa using congrArg Array.toList he
      subst he
      obtain ⟨kind, c, «to», k, rfl, rfl, rfl, rfl, rfl, rfl, rfl, hw, _⟩ := trod_op ht
      refine ⟨⟨kind, c, «to», k⟩, hw, fun j u hj => ?_⟩
      have hj7 : j < 7 := by have := (List.getElem?_eq_some_iff.1 hj).1; simpa [stepCells] using this
      rw [← Go.Deep.add_add, hat j hj7]
      exact hj)
    have hlen : ((List.range len).map C).length = len := by simp
    simp only [Prod.mk.injEq] at hx
    refine ⟨(List.range len).map C, ?_, fun o ho => ?_, .inr ⟨_, _, hx.1, by simp⟩⟩
    · rw [hlen]
      exact reads_of (k := 7) (f := stepCells) (by decide) (fun _ => rfl) (by simp only [maxLen] at hm; omega) fun i hi j u hj => (hC i (by omega)).2 j u hj
    · obtain ⟨i, hi, rfl⟩ := List.mem_map.1 ho
      have := List.mem_range.1 hi
      exact (hC i (by omega)).1
end

theorem flatMap_at {α β : Type} {f : α → List β} {k : Nat} (hf : ∀ x, (f x).length = k) : ∀ (l : List α) (i : Nat) (x : α), l[i]? = some x → ∀ j, j < k → (l.flatMap f)[i * k + j]? = (f x)[j]? := by
  intro l
  induction l with
  | nil => intro i x h; simp at h
  | cons y l ih =>
    intro i x h j hj
    rw [List.flatMap_cons]
    cases i with
    | zero =>
      simp at h; subst h
      rw [Nat.zero_mul, Nat.zero_add, List.getElem?_append_left (by rw [hf]; exact hj)]
    | succ i =>
      rw [List.getElem?_append_right (by rw [hf, Nat.succ_mul]; omega), hf, show (i + 1) * k + j - k = i * k + j by rw [Nat.succ_mul]; omega]
      exact ih i x (by simpa using h) j hj
theorem Reads.op_at {w : World} {A : Option Addr} {cap : Nat} {l : List Step} (h : Reads w (.slice A l.length cap) l.length 7 (opVals l)) {k : Nat} {o : Step} (hk : l[k]? = some o) :
    ∃ b p, A = some ⟨b, p, none⟩ ∧ b < w.heap.size ∧ w.cell? ⟨b, p + k * 7, none⟩ = some (.int .i64 o.kind) ∧ w.cell? ⟨b, p + k * 7 + 1, none⟩ = some (.string o.c.key) ∧ w.cell? ⟨b, p + k * 7 + 2, none⟩ = some (.int .u64 o.c.seq) ∧
      w.cell? ⟨b, p + k * 7 + 3, none⟩ = some (.string o.c.val) ∧ w.cell? ⟨b, p + k * 7 + 4, none⟩ = some (.bool o.c.gone) ∧ w.cell? ⟨b, p + k * 7 + 5, none⟩ = some (.string o.to) ∧ w.cell? ⟨b, p + k * 7 + 6, none⟩ = some (.int .i64 o.n) := by
  obtain ⟨_, _, A', cap', hA, h2⟩ := h
  cases hA
  have hlt := (List.getElem?_eq_some_iff.1 hk).1
  rcases h2 with h2 | ⟨b, p, rfl, hb, hc⟩
  · omega
  · have hf := flatMap_at (f := stepCells) (k := 7) (fun _ => rfl) l k o hk
    have g : ∀ j u, j < 7 → (stepCells o)[j]? = some u → w.cell? ⟨b, p + k * 7 + j, none⟩ = some u := fun j u hj hu => by
      rw [Nat.add_assoc]; exact hc _ _ ((hf j hj).trans hu)
    exact ⟨b, p, rfl, hb, g 0 _ (by decide) rfl, g 1 _ (by decide) rfl, g 2 _ (by decide) rfl, g 3 _ (by decide) rfl, g 4 _ (by decide) rfl, g 5 _ (by decide) rfl, g 6 _ (by decide) rfl⟩
theorem ops_len {H : Type} {ts : List TypeId} {ds : List (DataW H)} {l : List Step} {d : DataW H} (hsz : (DataW.weightsEach Try.prog ts ds).all (· ≤ reachBytes) = true) {j : Nat} (ht : ts[j]? = some 46) (hd : ds[j]? = some d)
    (hc : (d = .nil ∧ l = []) ∨ ∃ xs spare, d = .slice xs spare ∧ xs.length = l.length) : l.length ≤ 1759218604441 := by
  rcases hc with ⟨rfl, rfl⟩ | ⟨xs, sp, rfl, hx⟩
  · simp
  · have := sized_slice hsz ht hd Try.underlying46
    rw [show Try.prog.bytesOf 51 = 80 by kernel_rfl, hx] at this
    unfold reachBytes at this
    omega

end Go.Proofs.Ytbcaiegglbdonaa

/-
  slices.Concat over rows of bytes.
-/
namespace Go.Proofs.Ytbcaiegglbdonaa
open Go Go.RowKit
set_option linter.unusedSimpArgs false

theorem wpList_append_run {P : Program} {w w' : World} {ops : Array Oper} {rest : List Oper} {o : Oper} {a : Act} {v' : Value} {Q : Exit → Act → World → Prop} (hgd : o.guard = none) (s x : Operand) (t u : TypeId)
    (ho : o.op = .call { callee := .builtin .append, args := #[s, x], argTypes := #[t, u] }) (hrun : (Builtin.append_ #[t, u] o.type #[a.eval s, a.eval x]).run P w = .ok v' w') (h : wpList P ops Q rest (a.put o.dst v') w') : wpList P ops Q (o :: rest) a w := by
  refine wpList_plain hgd fun K hK => ?_
  unfold Oper.wp execOp
  simp only [ho, resolve, invoke, builtin, Sem.run_bind, Sem.run_pure, Result.andThen_ok, List.map_toArray, List.map_cons, List.map_nil, hrun]
  exact hK _ _ h
set_option maxRecDepth 100000 in
set_option maxHeartbeats 1000000 in
theorem grow_nil (n : Nat) (hn : n ≤ 140737488355328) (w : World) : Calls Try.prog 142 #[.slice none 0 0, .int .i64 n] w fun e w' => ∃ v, e = .returned v ∧ w'.ownsRow w.heap.size 5 1 v 0 [] ∧ Below w.heap.size w w' := by
  obtain ⟨i0, hi, hz0, hz1, hz2⟩ := info_parts Try.infoByte
  by_cases h0 : n = 0
  · subst h0
    go_enter Try.func142, Try.ntmps142
    go_wp2_with fail
    go_ret
    exact ⟨_, rfl, World.ownsRow_nil _ _ _ _, Below.refl _ _⟩
  · have hw1 : IntKind.i64.wrap ((n : Int) - 0) = (n : Int) := by rw [Int.sub_zero]; exact IntWalk.i64_in _ (by omega)
    have hpos : (0 : Int) < (n : Int) := by omega
    have hneg : ¬ ((n : Int) < 0) := by omega
    have hgc := grownCap_ge w n 0 5
    have hgm : grownCap w n 0 5 ≤ maxLen := grownCap_le_maxLen w n 0 5 (by unfold maxLen; omega)
    have hrun := fun ty => Lib.run_append_nil_zeros (P := Try.prog) w 74 3 ty 5 i0 (.int .u8 0) .i64 .i64 Try.underlying74 (by kernel_rfl) hi hz0 n (by omega) (by omega) (by omega) (by rw [hz2]; omega)
    obtain ⟨C, hC⟩ : ∃ C, grownCap w n 0 5 = C := ⟨_, rfl⟩
    rw [hC] at hgc hgm
    simp only [hC] at hrun
    obtain ⟨o, ho⟩ : ∃ o, Obj.cells (Builtin.zeroCells (Value.int .u8 0).cells n ++ Builtin.zeroCells (Value.int .u8 0).cells (C - n)) 5 = o := ⟨_, rfl⟩
    simp only [ho] at hrun
    have HO := Lib.hid ho
    clear ho h0 hC
    have HR := Lib.hid hrun
    clear hrun
    go_enter Try.func142, Try.ntmps142
    go_wp2_with (at_builtin; refine wpList_append_run rfl _ _ 74 3 rfl (HR.out _) ?_)
    go_ret
    refine ⟨_, rfl, ⟨rfl, .inr ⟨w.heap.size, C, Builtin.zeroCells (Value.int .u8 0).cells n ++ Builtin.zeroCells (Value.int .u8 0).cells (C - n), rfl, Nat.le_refl _, ?_, by omega, hgm, ?_, rfl⟩⟩, (Below.refl _ _).drew.alloc (Nat.le_refl _) _⟩
    · rw [← HO.out]; exact heap_alloc_new w.drew _
    · have hz1 : (Value.int IntKind.u8 0).cells.size = 1 := rfl
      simp only [Array.size_append, size_zeroCells, hz1]; omega
/-! ### Concat -/
theorem SrcIs.kept {w w' : World} {v : Value} {m : Nat} {xs : List Value} (h : SrcIs w v m xs) (hb : Below w.heap.size w w') : SrcIs w' v m xs := by
  rcases h with h | ⟨ad, c, h1, h2⟩
  · exact .inl h
  · exact .inr ⟨ad, c, h1, fun j u hj => cell_keep hb (h2 j u hj)⟩
theorem SrcIs.of_own {w : World} {base e n : Nat} {v : Value} {xs : List Value} (h : w.ownsRow base e 1 v n xs) : SrcIs w v n xs := by
  rcases h.2 with h1 | ⟨g, cap', cur, h1, _⟩
  · exact .inl h1
  · subst h1; exact .inr ⟨_, _, rfl, h.cells rfl⟩
theorem SrcIs.form {w : World} {v : Value} {n : Nat} {xs : List Value} (h : SrcIs w v n xs) : ∃ A c, v = .slice A n c := by
  rcases h with ⟨h1, h2⟩ | ⟨ad, c, h1, _⟩
  · exact ⟨_, _, by rw [h1, h2]⟩
  · exact ⟨_, _, h1⟩
/-- Rows of bytes, in a slice. -/
structure RowsIs (w : World) (A : Addr) (vs : List Value) (L : List (List UInt8)) : Prop where
  len : vs.length = L.length
  cell : ∀ i v, vs[i]? = some v → w.cell? (A.add i) = some v
  src : ∀ (i : Nat) v d, vs[i]? = some v → L[i]? = some d → SrcIs w v d.length (bv d)
def CatRel1 (w : World) (L : List (List UInt8)) (n i : Value) (W : World) : Prop :=
  ∃ k : Nat, k ≤ L.length ∧ i = .int .i64 k ∧ n = .int .i64 (((L.take k).flatten.length : Nat) : Int) ∧ W = w
def CatRel2 (w : World) (L : List (List UInt8)) (v i : Value) (W : World) : Prop :=
  ∃ k : Nat, k ≤ L.length ∧ i = .int .i64 k ∧ W.ownsRow w.heap.size 5 1 v (L.take k).flatten.length (bv (L.take k).flatten) ∧ Below w.heap.size w W
def RowPost (w : World) (d : List UInt8) (e : Ending) (w' : World) : Prop := ∃ v, e = .returned v ∧ w'.ownsRow w.heap.size 5 1 v d.length (bv d) ∧ Below w.heap.size w w'
theorem take_flat {L : List (List UInt8)} {k : Nat} {d : List UInt8} (h : L[k]? = some d) : (L.take (k + 1)).flatten = (L.take k).flatten ++ d := by
  rw [take_snoc h]; simp
theorem take_flat_le (L : List (List UInt8)) (k : Nat) : (L.take k).flatten.length ≤ L.flatten.length := by
  have h : L.flatten = (L.take k).flatten ++ (L.drop k).flatten := by rw [← List.flatten_append, List.take_append_drop]
  rw [h, List.length_append]; omega
set_option maxRecDepth 100000 in
set_option maxHeartbeats 1000000 in
theorem concat_spec {w : World} {A : Addr} {cap : Nat} {vs : List Value} {L : List (List UInt8)} (h : RowsIs w A vs L) (hl : L.flatten.length ≤ 1099511627776) (hn : L.length ≤ 1000) :
    Calls Try.prog 112 #[.slice (some A) L.length cap] w (RowPost w L.flatten) := by
  obtain ⟨i0, hi, hz0, hz1, hz2⟩ := info_parts Try.infoByte
  have H := Lib.hid h
  clear h
  go_enter Try.func112, Try.ntmps112
  go_wp2_with fail
  go_loopw [3, 11] (CatRel1 w L) (fun _ i _ => L.length - (intOf i).toNat)
  case atStart => exact ⟨0, by omega, rfl, rfl, rfl⟩
  case round =>
    obtain ⟨k, hk, rfl, rfl, hW⟩ := hrel
    obtain rfl := hW.symm
    clear hW
    by_cases hlt : k < L.length
    · obtain ⟨d, hd⟩ : ∃ d, L[k]? = some d := ⟨_, List.getElem?_eq_getElem hlt⟩
      obtain ⟨v, hv⟩ : ∃ v, vs[k]? = some v := ⟨_, List.getElem?_eq_getElem (by rw [H.out.len]; exact hlt)⟩
      have hc := H.out.cell k v hv
      obtain ⟨B, c, rfl⟩ := (H.out.src k v d hv hd).form
      have hle := take_flat_le L (k + 1)
      rw [take_flat hd, List.length_append] at hle
      have j0 : (0 : Int) ≤ (k : Int) := by omega
      have j1 : (k : Int) < (L.length : Int) := by omega
      obtain ⟨n, hn2⟩ : ∃ n, (L.take k).flatten.length = n := ⟨_, rfl⟩
      rw [hn2] at hle ⊢
      have hw1 : IntKind.i64.wrap ((n : Int) + (d.length : Int)) = (n : Int) + (d.length : Int) := IntWalk.i64_in _ (by omega)
      have hnn : ¬ ((n : Int) + (d.length : Int) < 0) := by omega
      have hnn2 : ((n : Int) + (d.length : Int) < 0) = False := by simp [hnn]
      have HD := Lib.hid (take_flat hd)
      have HN := Lib.hid hn2
      clear hd hn2 hv
      go_wp2_with fail
      go_roundw
      case rel => exact ⟨k + 1, by omega, by go_num, by rw [HD.out, List.length_append, HN.out]; push_cast; rfl, rfl⟩
      case measure => simp [intOf]; omega
    · obtain rfl : k = L.length := by omega
      rw [List.take_length]
      obtain ⟨T, hT⟩ : ∃ T, L.flatten.length = T := ⟨_, rfl⟩
      rw [hT] at hl ⊢
      have HT := Lib.hid hT
      clear hT
      go_wp2_with fail
      refine (grow_nil T (by omega) w).mono ?_
      rintro e w1 ⟨v1, rfl, own1, hb1⟩
      have HO1 := Lib.hid own1
      clear own1
      go_wp2_with fail
      go_loopw [6, 27] (CatRel2 w L) (fun _ i _ => L.length - (intOf i).toNat)
      case atStart => exact ⟨0, by omega, rfl, by simpa [bv] using HO1.out, hb1⟩
      case round =>
        obtain ⟨k, hk, rfl, hrow, hb⟩ := hrel
        by_cases hlt : k < L.length
        · obtain ⟨d, hd⟩ : ∃ d, L[k]? = some d := ⟨_, List.getElem?_eq_getElem hlt⟩
          obtain ⟨v, hv⟩ : ∃ v, vs[k]? = some v := ⟨_, List.getElem?_eq_getElem (by rw [H.out.len]; exact hlt)⟩
          have hc := cell_keep (hb.mono (Nat.le_refl _)) (H.out.cell k v hv)
          have hsrc := (H.out.src k v d hv hd).kept hb
          obtain ⟨B, c, rfl⟩ := hsrc.form
          have hle := take_flat_le L (k + 1)
          have j0 : (0 : Int) ≤ (k : Int) := by omega
          have j1 : (k : Int) < (L.length : Int) := by omega
          rw [take_flat hd, List.length_append, HT.out] at hle
          have HD := Lib.hid (take_flat hd)
          obtain ⟨D, hD⟩ : ∃ D, (L.take k).flatten = D := ⟨_, rfl⟩
          rw [hD] at hrow hle
          have HDD := Lib.hid hD
          have HR := Lib.hid hrow
          have HS := Lib.hid hsrc
          have p1 : D.length + d.length ≤ maxLen := by unfold maxLen; omega
          have p2 : (D.length + d.length) * 1 ≤ 140737488355328 := by omega
          have p3 := hb.size
          clear hd hv hD hrow hsrc
          go_wp2_with (at_builtin; refine wpList_append_src rfl _ _ 74 rfl w.heap.size 5 i0 (.int .u8 0) 1 1 Try.underlying74 hi hz0 hz1 hz2 rfl (by decide) _ D.length (bv D) rfl HR.out d.length (bv d) HS.out (by rw [bv_len]; omega) (bv_one d) p1 p2 p3 ?_; intro v4 w4 own4 hgr hfr)
          go_roundw
          case rel =>
            refine ⟨k + 1, by omega, by go_num, ?_, hb.grown hgr p3 (fun z hz => (HR.out.lt z hz).1)⟩
            rw [HD.out, HDD.out, List.length_append, bv_append]
            exact own4
          case measure => simp [intOf]; omega
        · obtain rfl : k = L.length := by omega
          rw [List.take_length] at hrow
          go_wp2_with fail
          go_ret
          exact ⟨_, rfl, hrow, hb⟩
end Go.Proofs.Ytbcaiegglbdonaa

/-
  A filter built: the program's filter.Build.
-/
namespace Go.Proofs.Ytbcaiegglbdonaa
open Go Go.RowKit Go.Shelf
attribute [local go_sem] Oper.semAt_some
set_option linter.unusedSimpArgs false

/-! ### Plain -/
def setBit (b : List UInt8) (p : Nat) : List UInt8 := b.set (p / 8) (UInt8.ofNat ((b.getD (p / 8) 0).toNat ||| 2 ^ (p % 8)))
def fillN (b : List UInt8) (ps : List Nat) : List UInt8 := ps.foldl setBit b
def fM (n perKey : Nat) : Nat := (max 64 (n * perKey) + 7) / 8 * 8
def fK (perKey : Nat) : Nat := min (max (perKey * 69 / 100) 1) 30
def startF (m k : Nat) : List UInt8 := List.replicate (m / 8) 0 ++ [UInt8.ofNat k]
def fillK (m k : Nat) (b : List UInt8) (keys : List ByteArray) : List UInt8 := keys.foldl (fun b key => fillN b (placesN (hashN key) (stepN key) m k)) b
def filterN (keys : List ByteArray) (perKey : Nat) : List UInt8 := fillK (fM keys.length perKey) (fK perKey) (startF (fM keys.length perKey) (fK perKey)) keys
theorem setBit_len (b : List UInt8) (p : Nat) : (setBit b p).length = b.length := by simp [setBit]
theorem fillN_len (b : List UInt8) (ps : List Nat) : (fillN b ps).length = b.length := by
  induction ps generalizing b with
  | nil => rfl
  | cons p ps ih => show (fillN (setBit b p) ps).length = _; rw [ih, setBit_len]
theorem fillK_len (m k : Nat) (b : List UInt8) (keys : List ByteArray) : (fillK m k b keys).length = b.length := by
  induction keys generalizing b with
  | nil => rfl
  | cons p ps ih => show (fillK m k (fillN b _) ps).length = _; rw [ih, fillN_len]
theorem fM_facts (n perKey : Nat) : ∃ q, fM n perKey = q * 8 ∧ 8 ≤ q ∧ fM n perKey ≤ max 64 (n * perKey) + 7 := ⟨(max 64 (n * perKey) + 7) / 8, rfl, by omega, by unfold fM; omega⟩
theorem startF_len (m k : Nat) : (startF m k).length = m / 8 + 1 := by simp [startF]
theorem fillN_snoc (b : List UInt8) (ps : List Nat) (p : Nat) : fillN b (ps ++ [p]) = setBit (fillN b ps) p := by simp [fillN, List.foldl_append]
theorem fillK_snoc (m k : Nat) (b : List UInt8) (ks : List ByteArray) (key : ByteArray) : fillK m k b (ks ++ [key]) = fillN (fillK m k b ks) (placesN (hashN key) (stepN key) m k) := by simp [fillK, List.foldl_append]

/-! ### The walk -/
theorem made_bv (k : Nat) : madeCells #[.int .u8 0] k = (bv (List.replicate k 0)).toArray := by
  apply Array.ext
  · simp [size_madeCells, bv]
  · intro i h1 h2
    simp [madeCells, bv, Nat.mod_one]
theorem make_bytes2 (k : Nat) (hk : k ≤ 10000000) (w : World) : (Instr.makeSlice 74 (.int .i64 k) (.int .i64 k)).run Try.prog w = .ok (.slice (some ⟨w.heap.size, 0, none⟩) k k) (w.alloc (.cells (bv (List.replicate k 0)).toArray 5)) := by
  obtain ⟨i0, hi, hz0, hz1, hz2⟩ := info_parts Try.infoByte
  have := run_makeSlice (P := Try.prog) w 74 5 i0 _ Try.underlying74 hi hz0 .i64 .i64 k k (by omega) (by omega) (by rw [hz1]; simp; omega) (by rw [hz2]; omega) (by omega)
  rw [this, hz1, ← made_bv]
  simp [Value.cells]
theorem Reads.str_at {w : World} {A : Option Addr} {cap : Nat} {l : List ByteArray} (h : Reads w (.slice A l.length cap) l.length 1 (l.map Value.string)) {k : Nat} {x : ByteArray} (hk : l[k]? = some x) :
    ∃ b o, A = some ⟨b, o, none⟩ ∧ b < w.heap.size ∧ w.cell? ⟨b, o + k, none⟩ = some (.string x) := by
  obtain ⟨_, _, A', cap', e, h3⟩ := h
  injection e with e1 e2 e3
  subst e1 e3
  have hlt := (List.getElem?_eq_some_iff.1 hk).1
  obtain ⟨b, o, rfl, hb, hc⟩ := h3.resolve_left (by omega)
  exact ⟨b, o, rfl, hb, hc k _ (by simp [hk])⟩
theorem or_bit (c : UInt8) {pr : Nat} (h : pr < 8) : bits .or .u8 ((c.toNat : Nat) : Int) ((2 : Int) ^ pr % 256) = (((UInt8.ofNat (c.toNat ||| 2 ^ pr)).toNat : Nat) : Int) := by
  have hp : 2 ^ pr < 256 := Nat.lt_of_lt_of_le (Nat.pow_lt_pow_right (by decide) h) (by decide)
  have h2 : (2 : Int) ^ pr % 256 = ((2 ^ pr : Nat) : Int) := by
    have : ((2 ^ pr : Nat) : Int) = (2 : Int) ^ pr := by simp
    rw [← this]
    exact Int.emod_eq_of_lt (Int.natCast_nonneg _) (Int.ofNat_lt.2 hp)
  have hc : c.toNat < 256 := c.toNat_lt
  rw [h2, u8_or_nat _ _ hc hp]
  have ho : c.toNat ||| 2 ^ pr < 256 := Nat.or_lt_two_pow (n := 8) hc hp
  congr 1
  simp only [UInt8.toNat_ofNat']
  omega
theorem Keep.setRow {w0 W : World} {Bs : List (Nat × Array Value × TypeId)} {Ds : List Nat} {b : Nat} {arr : Array Value} {t : TypeId} (h : Keep w0 ((b, arr, t) :: Bs) Ds W) (hn : ∀ x ∈ Bs, x.1 ≠ b) (hb : w0.heap.size ≤ b) (i : Nat) (v' : Value) :
    Keep w0 ((b, arr.setIfInBounds i v', t) :: Bs) Ds (W.setCell ⟨b, i, none⟩ v') := by
  have hbB := h.blk _ (by simp : (b, arr, t) ∈ _)
  refine ⟨fun x hx => ?_, h.below.setCell (p := ⟨b, i, none⟩) hb v', fun D hd => (Below.heap_setCell _ _ _ _ (fun e => ?_)).trans (h.marks D hd)⟩
  · rcases List.mem_cons.1 hx with rfl | hx
    · exact hbB.setCell i v'
    · exact (h.blk x (by simp [hx])).setCell_ne (hn x hx) i v'
  · have := h.marks D hd
    rw [e, show W.heap[b]? = _ from hbB] at this
    cases this
theorem bv_set (l : List UInt8) (i : Nat) (y : UInt8) : (bv l).toArray.setIfInBounds i (.int .u8 (y.toNat : Nat)) = (bv (l.set i y)).toArray := by simp [bv, List.map_set]
theorem keeps_setCell {B b i : Nat} {W : World} {arr : Array Value} {t : TypeId} (h : Blk W b arr t) (v : Value) : KeepsFrom B W (W.setCell ⟨b, i, none⟩ v) := by
  refine ⟨by simp, fun k o _ hk ho => (Below.heap_setCell _ _ _ _ (fun e => ?_)).trans hk⟩
  rw [e, show W.heap[b]? = _ from h] at hk
  cases hk
  cases ho
theorem kpB_setCell {N b i : Nat} {W : World} (v : Value) : KpB N b W (W.setCell ⟨b, i, none⟩ v) := ⟨by simp, fun k _ hn => Below.heap_setCell _ _ _ _ hn⟩
def marksOf (Ds : List Nat) : List Deferred := Ds.map fun D => { target := .collected D, args := #[] }
def FlRel (w : World) (ks : List ByteArray) (m q kk : Nat) (ds : List Deferred) (i : Value) (W : World) : Prop :=
  ∃ (j : Nat) (Ds : List Nat), j ≤ ks.length ∧ i = .int .i64 j ∧ ds = marksOf Ds ∧ Ds.Nodup ∧ (∀ D ∈ Ds, w.heap.size + 2 ≤ D ∧ D < W.heap.size) ∧
    Keep w [(w.heap.size, (bv (fillK m kk (startF m kk) (ks.take j))).toArray, 5), (w.heap.size + 1, #[.slice (some ⟨w.heap.size, 0, none⟩) (q + 1) (q + 1)], 74)] Ds W
set_option maxRecDepth 100000 in
set_option maxHeartbeats 4000000 in
theorem filter_main {w : World} {A : Option Addr} {cap : Nat} {ks : List ByteArray} (h : Reads w (.slice A ks.length cap) ks.length 1 (ks.map Value.string)) (hl : ks.length ≤ 65536) (hs : ∀ s ∈ ks, s.size ≤ 128) (r : Nat) (hr1 : 1 ≤ r) (hr2 : r ≤ 32) :
    Calls Try.prog 110 #[.slice A ks.length cap, .int .i64 (r : Nat)] w fun e w' => ∃ v, e = .returned (.tuple #[v, .int .i64 0]) ∧ w'.ownsRow w.heap.size 5 1 v (filterN ks r).length (bv (filterN ks r)) ∧ Below w.heap.size w w' := by
  have H := Lib.hid h
  have HS := Lib.hid hs
  obtain ⟨q, hq, hq8, hqm⟩ := fM_facts ks.length r
  have hnr : ks.length * r ≤ 65536 * 32 := Nat.mul_le_mul hl hr2
  have w1 : IntKind.i64.wrap ((ks.length : Int) * (r : Int)) = (ks.length : Int) * (r : Int) := IntWalk.i64_in _ (by rw [← Int.natCast_mul]; omega)
  obtain ⟨kk, hkk⟩ : ∃ kk, fK r = kk := ⟨_, rfl⟩
  have hk1 : 1 ≤ kk ∧ kk ≤ 30 := by rw [← hkk]; unfold fK; omega
  have e1 : (max 64 ((ks.length : Int) * (r : Int)) + 7) / 8 = (q : Int) := by
    have : fM ks.length r = (max 64 (ks.length * r) + 7) / 8 * 8 := rfl
    rw [← Int.natCast_mul]
    omega
  obtain ⟨m, hm⟩ : ∃ m, q * 8 = m := ⟨_, rfl⟩
  have e2 : (m : Int) / 8 = (q : Int) := by omega
  have e5 : (q : Int) * 8 = (m : Int) := by omega
  have e6 : IntKind.u64.wrap (m : Int) = (m : Int) := by rw [IntKind.wrap_u64]; omega
  have e3 : min (max ((r : Int) * 69 / 100) 1) 30 = (kk : Int) := by rw [← hkk]; unfold fK; omega
  have e4 : IntKind.u8.wrap (kk : Int) = (kk : Int) := by rw [IntKind.wrap_u8]; omega
  have hq64 : q ≤ 300000 := by omega
  obtain ⟨Z, hZ⟩ : ∃ Z, (bv (List.replicate (q + 1) 0)).toArray = Z := ⟨_, rfl⟩
  have hmk : ∀ W, (Instr.makeSlice 74 (.int .i64 ((q : Int) + 1)) (.int .i64 ((q : Int) + 1))).run Try.prog W = .ok (.slice (some ⟨W.heap.size, 0, none⟩) (q + 1) (q + 1)) (W.alloc (.cells Z 5)) := fun W => by
    rw [← hZ]; exact make_bytes2 (q + 1) (by omega) W
  have hZs : Z.size = q + 1 := by rw [← hZ]; simp [bv]
  have HZ := Lib.hid hZ
  have HK := Lib.hid hkk
  have HQ := Lib.hid hq
  have HZS := Lib.hid hZs
  have HM := Lib.hid hm
  clear h hs hZ hkk hq hqm hZs hm
  refine (callsIn_wide (n := 6)).1 ?_
  refine callsIn_of_wp_marks Try.func110 rfl trivial ?_ rfl
  simp only [Try.ntmps110, List.size_toArray, List.length_cons, List.length_nil, Nat.reduceAdd, Nat.reduceSub, Array.replicate_succ, Array.replicate_zero, List.push_toArray, List.append_toArray, List.nil_append, List.cons_append]
  have j1 : ¬ ((r : Int) < 1) := by omega
  have j2 : ¬ (32 < (r : Int)) := by omega
  have j3 : ¬ (65536 < (ks.length : Int)) := by omega
  have hZ0 : Z[q]? = some (.int .u8 0) := by rw [← HZ.out]; simp [bv]
  have B0 : Blk ((w.alloc (.cells Z 5)).alloc (.cells #[.slice (some ⟨w.heap.size, 0, none⟩) (q + 1) (q + 1)] 74)) w.heap.size Z 5 := (Blk.new w Z 5).alloc _
  have b0 := B0.cell q _ hZ0
  have b1 := B0.lt
  have b2 := B0.frozen q
  have b3 : (0 : Int) ≤ (q : Int) := by omega
  have b4 : (q : Int) < (q : Int) + 1 := by omega
  gi_wp2_with fail
  have F0 : FlRel w ks m q kk [] (.int .i64 0) ((w.alloc (.cells (Z.setIfInBounds q (.int .u8 (kk : Nat))) 5)).alloc (.cells #[.slice (some ⟨w.heap.size, 0, none⟩) (q + 1) (q + 1)] 74)) := by
    have hs : Z.setIfInBounds q (.int .u8 (kk : Nat)) = (bv (startF m kk)).toArray := by
      have e : ((UInt8.ofNat kk).toNat : Int) = (kk : Int) := by simp only [UInt8.toNat_ofNat']; omega
      rw [← HZ.out, ← e, bv_set]
      congr 2
      unfold startF
      rw [show m / 8 = q by have := HM.out; omega, List.replicate_succ']
      exact List.set_append_right _ _ (by simp) |>.trans (by simp)
    rw [hs]
    refine ⟨0, [], Nat.zero_le _, rfl, rfl, List.nodup_nil, by simp, ⟨?_, ((Below.refl _ _).alloc (Nat.le_refl _) _).alloc (by simp) _, by simp⟩⟩
    intro x hx
    simp only [List.mem_cons, List.not_mem_nil, or_false] at hx
    rcases hx with rfl | rfl
    · exact (Blk.new _ _ _).alloc _
    · exact Blk.new' _ _ _ (by simp)
  clear b0 b1 b2 B0 hZ0 hmk
  refine wpIn_loop (fun a W => ∃ (ds : List Deferred) (i : Value), FlRel w ks m q kk ds i W ∧ ∃ (x0 x1 x2 x3 x4 x5 x9 x10 x11 x12 x13 x14 x15 x16 x17 x18 x19 x20 x21 x22 x23 x24 x25 x26 x27 x28 x29 x30 x31 x32 x33 x34 x35 x36 x37 x38 x39 x40 x41 x42 x43 x47 x48 x49 x50 x51 x52 x53 x54 x55 x56 x57 x58 x59 x60 x61 x62 x63 x64 x65 x66 x67 : Value), a = ⟨[x0, x1, x2, x3, x4, x5, .int .i64 (m : Nat), .int .i64 (kk : Nat), .pointer (some ⟨w.heap.size + 1, 0, none⟩), x9, x10, x11, x12, x13, x14, x15, x16, x17, x18, x19, x20, x21, x22, x23, x24, x25, x26, x27, x28, x29, x30, x31, x32, x33, x34, x35, x36, x37, x38, x39, x40, x41, x42, x43, .slice A ks.length cap, .int .i64 (ks.length : Nat), i, x47, x48, x49, x50, x51, x52, x53, x54, x55, x56, x57, x58, x59, x60, x61, x62, x63, x64, x65, x66, x67].toArray, ds⟩) (fun a _ => ks.length - (intOf (a.tmps.getD 46 undef)).toNat) ?_ ?_
  · exact ⟨[], _, F0, (by (repeat apply Exists.intro); exact rfl)⟩
  · intro a wr hinv
    clear F0
    obtain ⟨ds, i, hrel, x0, x1, x2, x3, x4, x5, x9, x10, x11, x12, x13, x14, x15, x16, x17, x18, x19, x20, x21, x22, x23, x24, x25, x26, x27, x28, x29, x30, x31, x32, x33, x34, x35, x36, x37, x38, x39, x40, x41, x42, x43, x47, x48, x49, x50, x51, x52, x53, x54, x55, x56, x57, x58, x59, x60, x61, x62, x63, x64, x65, x66, x67, rfl⟩ := hinv
    dsimp only
    obtain ⟨j, Ds, hj, rfl, hds, hnd, hlt, hk⟩ := hrel
    by_cases hjl : j < ks.length
    · obtain ⟨key, hx⟩ : ∃ key, ks[j]? = some key := ⟨_, List.getElem?_eq_getElem hjl⟩
      obtain ⟨b, o, rfl, hbl, hc⟩ := (H.out.kept hk.below).str_at hx
      have hks := HS.out key (List.mem_of_getElem? hx)
      have i0 : (0 : Int) ≤ (j : Int) := by omega
      have i1 : (j : Int) < (ks.length : Int) := by omega
      have HX := Lib.hid hx
      clear hx
      gi_wp2_with fail
      refine ⟨trivial, ?_⟩
      refine (callsIn_wide.2 (places_spec key (by omega) m kk wr)).mono ?_
      rintro e w2 ⟨rfl, hP, hb2⟩
      unfold plFn
      gi_wp2_with fail
      obtain ⟨C, hC⟩ : ∃ C, fillK m kk (startF m kk) (ks.take j) = C := ⟨_, rfl⟩
      have hCl : C.length = q + 1 := by rw [← hC, fillK_len, startF_len, ← HM.out]; omega
      rw [hC] at hk
      have HC := Lib.hid hC
      have hmp : 0 < m := by have := HM.out; omega
      have hm2 : m < 18446744073709551616 := by have := HM.out; omega
      have hgl := (hk.blk (w.heap.size + 1, #[.slice (some ⟨w.heap.size, 0, none⟩) (q + 1) (q + 1)], 74) (by simp)).lt
      have hseq := places_stops 5 (by omega) (w := w2) (N := w2.heap.size) (g := w.heap.size) hmp hm2 (by omega) hP hP.d.lt (Nat.le_refl _) (.inl (by simp only at hgl; omega))
      have hk2 := hk.kept hb2
      have hwr := hb2.size
      clear hC hP hk
      refine range_places (p := 55) (q := 11) (by omega) rfl hseq (Nat.le_refl _) (fun pre W => Keep w [(w.heap.size, (bv (fillN C (pre.map (·.val)))).toArray, 5), (w.heap.size + 1, #[.slice (some ⟨w.heap.size, 0, none⟩) (q + 1) (q + 1)], 74)] Ds W ∧ w2.heap.size ≤ W.heap.size) (fun _ _ _ => False)
        (OwnFrom.and (keep_own (fun pre : List (Fin m) => [(w.heap.size, (bv (fillN C (pre.map (·.val)))).toArray, 5), (w.heap.size + 1, #[.slice (some ⟨w.heap.size, 0, none⟩) (q + 1) (q + 1)], 74)]) hk2.below.size (fun D hD => by have := (hlt D hD).2; omega)) (fun _ _ _ _ h hg _ => Nat.le_trans h hg.size))
        (fun _ _ _ _ _ hs => hs.elim) ⟨hk2, Nat.le_refl _⟩ ?assign ?body ?done (fun _ _ _ _ _ _ hs => hs.elim)
      case assign =>
        intro l x W K hK
        simp only [List.setIfInBounds_toArray, List.set_cons_succ, List.set_cons_zero] at hK ⊢
        gi_wp2
        exact hK
      case body =>
        rintro l pre x W ⟨hk, hsz⟩ hlen
        simp only [List.setIfInBounds_toArray, List.set_cons_succ, List.set_cons_zero]
        clear hseq hk2
        obtain ⟨p, hp⟩ := x
        obtain ⟨D, hD⟩ : ∃ D, fillN C (pre.map (·.val)) = D := ⟨_, rfl⟩
        have hDl : D.length = q + 1 := by rw [← hD, fillN_len, hCl]
        rw [hD] at hk
        have hpq : p / 8 < q + 1 := by have := HM.out; omega
        obtain ⟨c, hc⟩ : ∃ c, D[p / 8]? = some c := ⟨_, List.getElem?_eq_getElem (by omega)⟩
        have G0 := hk.blk (w.heap.size, (bv D).toArray, 5) (by simp)
        have G1 := hk.blk (w.heap.size + 1, #[.slice (some ⟨w.heap.size, 0, none⟩) (q + 1) (q + 1)], 74) (by simp)
        have HD := Lib.hid hD
        obtain ⟨pq, hpq2⟩ : ∃ pq, p / 8 = pq := ⟨_, rfl⟩
        obtain ⟨pr, hpr2⟩ : ∃ pr, p % 8 = pr := ⟨_, rfl⟩
        have f1 : (p : Int) / 8 = (pq : Int) := by omega
        have f2 : (p : Int) % 8 = (pr : Int) := by omega
        have f3 : IntKind.u64.wrap (pq : Int) = (pq : Int) := by rw [IntKind.wrap_u64]; omega
        have f4 : IntKind.u64.wrap (pr : Int) = (pr : Int) := by rw [IntKind.wrap_u64]; omega
        rw [hpq2] at hc hpq
        have g0 : W.cell? ⟨w.heap.size, pq, none⟩ = some (.int .u8 (c.toNat : Nat)) := G0.cell pq _ (by simp [bv, hc])
        have g1 := G0.lt
        have g2 := G0.frozen pq
        have g3 : W.cell? ⟨w.heap.size + 1, 0, none⟩ = some (.slice (some ⟨w.heap.size, 0, none⟩) (q + 1) (q + 1)) := G1.cell 0 _ rfl
        have g4 := G1.lt
        have n0 : (0 : Int) ≤ (pq : Int) := by omega
        have n1 : (pq : Int) < ((q + 1 : Nat) : Int) := by omega
        simp only at g1 g4
        clear hD hpq2 hpr2
        have hpr8 : pr < 8 := by omega
        have hor := or_bit c hpr8
        have HOR := Lib.hid hor
        have HSB := Lib.hid (show setBit D p = D.set pq (UInt8.ofNat (c.toNat ||| 2 ^ pr)) by
          unfold setBit
          rw [show p / 8 = pq by omega, show p % 8 = pr by omega, List.getD_eq_getElem?_getD, hc]
          rfl)
        have HPR := Lib.hid hpr8
        clear hor hpr8
        gi_wp2_with fail
        rw [HOR.out]
        refine ⟨keeps_setCell G0 _, kpB_setCell _, ?_, by simpa using hsz⟩
        have hks := hk.setRow (fun x hx => by simp at hx; subst hx; simp) (Nat.le_refl _) pq (.int .u8 ((UInt8.ofNat (c.toNat ||| 2 ^ pr)).toNat : Nat))
        rw [bv_set, ← HSB.out] at hks
        rw [List.map_append, List.map_singleton, fillN_snoc, HD.out]
        exact hks
      case done =>
        rintro D W hDn ⟨hk3, hsz⟩ hmk
        have hDw := (Array.getElem?_eq_some_iff.1 hmk).1
        have hk4 := hk3.mark hmk
        rw [placesF_val, ← HC.out, ← fillK_snoc, ← take_snoc HX.out] at hk4
        have HK4 := Lib.hid hk4
        clear hk4 hk3 hseq hk2
        dsimp only
        gi_wp2_with fail
        refine ⟨⟨_, _, ⟨j + 1, D :: Ds, by omega, by go_num, rfl, List.nodup_cons.2 ⟨fun h => by have := (hlt D h).2; omega, hnd⟩, fun D' hD' => ?_, HK4.out⟩, rfl, rfl⟩, by simp [intOf]; omega⟩
        rcases List.mem_cons.1 hD' with rfl | h
        · exact ⟨by omega, hDw⟩
        · have := hlt D' h; exact ⟨this.1, by omega⟩
    · obtain rfl : j = ks.length := by omega
      rw [List.take_length] at hk
      have G0 := hk.blk _ (by simp : (w.heap.size, (bv (fillK m kk (startF m kk) ks)).toArray, (5 : TypeId)) ∈ _)
      have G1 := hk.blk _ (by simp : (w.heap.size + 1, #[Value.slice (some ⟨w.heap.size, 0, none⟩) (q + 1) (q + 1)], (74 : TypeId)) ∈ _)
      have g3 : wr.cell? ⟨w.heap.size + 1, 0, none⟩ = some (.slice (some ⟨w.heap.size, 0, none⟩) (q + 1) (q + 1)) := G1.cell 0 _ rfl
      have g4 := G1.lt
      subst hds
      simp only at g4
      have HKK := Lib.hid hk
      clear hk
      have hF : (fillK m kk (startF m kk) ks).length = q + 1 := by rw [fillK_len, startF_len]; have := HM.out; omega
      have HF := Lib.hid (show filterN ks r = fillK m kk (startF m kk) ks by
        unfold filterN
        rw [HQ.out, HK.out, HM.out])
      have HFL := Lib.hid hF
      have hbw := HKK.out.below
      clear hF
      gi_wp2_with fail
      refine leaves_marks (B := w.heap.size + 2) Ds wr hnd (fun D hD => ⟨HKK.out.marks D hD, (hlt D hD).1⟩) (by omega) (fun W' hb => ⟨_, results_tmp2 rfl _ _ _, _, rfl, ?_, hbw.trans (hb.mono (by omega))⟩)
      have G2 := G0.below hb (show w.heap.size < w.heap.size + 2 by omega)
      rw [HF.out]
      refine ⟨by rw [bv_len]; omega, .inr ⟨w.heap.size, q + 1, _, by rw [HFL.out]; rfl, Nat.le_refl _, G2, by rw [HFL.out]; exact Nat.le_refl _, by unfold maxLen; omega, by rw [List.size_toArray, bv_len, HFL.out]; omega, ?_⟩⟩
      rw [List.take_of_length_le (by rw [bv_len]; omega)]
end Go.Proofs.Ytbcaiegglbdonaa

/-
  The codec's Writer with room for M bytes.
-/
namespace Go.Proofs.Ytbcaiegglbdonaa.WM
open Go Go.RowKit
set_option linter.unusedSimpArgs false
variable {M : Nat}

def putW (M : Nat) (st : Option (List UInt8)) (d : List UInt8) : Option (List UInt8) := st.bind fun l => if (M : Int) - l.length < d.length then none else some (l ++ d)
/-- The Writer at block p tells st: the bytes written, or none: too many. -/
structure WrIs (M : Nat) (w : World) (base p : Nat) (F : Nat → Prop) (st : Option (List UInt8)) : Prop where
  ex : ∃ v l, Blk w p #[.int .i64 (M : Nat), v, .bool st.isNone] 159 ∧ w.ownsRow base 5 1 v l.length (bv l) ∧ (st = none ∨ st = some l) ∧ (l.length ≤ M ∧ M ≤ 1099511627776) ∧ F p ∧ ∀ g, v.ownBlock = some g → F g
  lt : ∀ k, F k → base ≤ k ∧ k < w.heap.size
theorem WrIs.only {w w' : World} {base p : Nat} {F S : Nat → Prop} {st : Option (List UInt8)} (h : WrIs M w base p F st) (ho : Only S w w') (hS : ∀ k, F k → ¬ S k) : WrIs M w' base p F st := by
  obtain ⟨v, l, h1, h2, h3, ⟨h4, hM40⟩, h5, h6⟩ := h.ex
  refine ⟨⟨v, l, h1.only ho (hS p h5), ?_, h3, ⟨h4, hM40⟩, h5, h6⟩, fun k hk => ⟨(h.lt k hk).1, Nat.lt_of_lt_of_le (h.lt k hk).2 ho.size⟩⟩
  refine ⟨h2.1, ?_⟩
  rcases h2.2 with h3 | ⟨g, cap', cur, e1, hb, hg, hr2⟩
  · exact .inl h3
  · exact .inr ⟨g, cap', cur, e1, hb, Blk.only (show Blk w g cur 5 from hg) ho (hS g (h6 g (by rw [e1]; rfl))), hr2⟩
theorem WrIs.kept {w w' : World} {base p : Nat} {F : Nat → Prop} {st : Option (List UInt8)} (h : WrIs M w base p F st) (hb : Below w.heap.size w w') : WrIs M w' base p F st := h.only (Only.of_below (S := fun _ => False) hb) fun _ _ h => h

/-- What a call leaves that puts bytes into a Writer. -/
def PutsW (M : Nat) (w : World) (base p : Nat) (F : Nat → Prop) (st' : Option (List UInt8)) (e : Ending) (w' : World) : Prop :=
  e = .returned (.tuple #[]) ∧ ∃ F', WrIs M w' base p F' st' ∧ (∀ k, F' k → F k ∨ w.heap.size ≤ k) ∧ Only F w w'

set_option maxRecDepth 100000 in
set_option maxHeartbeats 1000000 in
theorem writer_put {w : World} {base p : Nat} {F : Nat → Prop} {st : Option (List UInt8)} (h : WrIs M w base p F st) (hB : base ≤ w.heap.size) {ad : Addr} {d : List UInt8} {c : Nat} (hd : ∀ j u, (bv d)[j]? = some u → w.cell? (ad.add j) = some u) :
    Calls Try.prog 128 #[.pointer (some ⟨p, 0, none⟩), .slice (some ad) d.length c] w (PutsW M w base p F (putW M st d)) := by
  obtain ⟨v, l, h1, h2, h3, ⟨h4, hM40⟩, h5, h6⟩ := h.ex
  obtain ⟨i0, hi, hz0, hz1, hz2⟩ := info_parts Try.infoByte
  obtain ⟨A, cap, rfl⟩ := (Reads.of_own h2).form
  have c0 : w.cell? ⟨p, 0, none⟩ = some (.int .i64 (M : Nat)) := h1.cell 0 _ rfl
  have c1 : w.cell? ⟨p, 1, none⟩ = some (.slice A l.length cap) := h1.cell 1 _ rfl
  have c2 : w.cell? ⟨p, 2, none⟩ = some (.bool st.isNone) := h1.cell 2 _ rfl
  have cf := h1.frozen
  have pl := h1.lt
  have HW := Lib.hid h
  have H1 := Lib.hid h1
  have H2 := Lib.hid h2
  have HD := Lib.hid hd
  clear h h1 h2 hd
  rcases h3 with rfl | rfl
  · have c2' : w.cell? ⟨p, 2, none⟩ = some (.bool true) := c2
    clear c2
    go_enter Try.func128, Try.ntmps128
    go_wp2_with fail
    exact body_none rfl rfl ⟨rfl, F, HW.out, fun k hk => .inl hk, Only.refl _ _⟩
  · have c2' : w.cell? ⟨p, 2, none⟩ = some (.bool false) := c2
    clear c2
    by_cases hr : (M : Int) - (l.length : Int) < (d.length : Int)
    · have hp : putW M (some l) d = none := by simp [putW, hr]
      have HP := Lib.hid hp
      have hw : IntKind.i64.wrap ((M : Int) - (l.length : Int)) = (M : Int) - (l.length : Int) := IntWalk.i64_in _ (by omega)
      clear hp
      go_enter Try.func128, Try.ntmps128
      go_wp2_with fail
      go_quiet (fail)
      go_wp2_with fail
      refine body_none rfl rfl ⟨rfl, F, ⟨⟨_, l, (by rw [HP.out]; exact (H1.out.drewN nq).setCell 2 (.bool true)), own_set (w := w.drewN nq) H2.out (H1.out.drewN nq) (by decide) 2 _, .inl (by simp [putW, hr]), by omega, h5, h6⟩, ?_⟩, fun k hk => .inl hk, ?_⟩
      · intro k hk
        exact ⟨(HW.out.lt k hk).1, by rw [World.size_setCell]; exact (HW.out.lt k hk).2⟩
      · exact (Only.of_below (below_drewN (Below.refl _ _) nq)).setCell (.inl h5) 2 _
    · have hp : putW M (some l) d = some (l ++ d) := by
        unfold putW
        simp only [Option.bind_some]
        rw [if_neg (by omega)]
      have HP := Lib.hid hp
      have hw : IntKind.i64.wrap ((M : Int) - (l.length : Int)) = (M : Int) - (l.length : Int) := IntWalk.i64_in _ (by omega)
      have hr' : ¬ (M : Int) - (l.length : Int) < (d.length : Int) := hr
      have hpF := HW.out.lt p h5
      have hdr : Below w.heap.size w w.drew := (Below.refl _ _).drew
      have p1 : l.length + d.length ≤ maxLen := by unfold maxLen; omega
      have p2 : (l.length + d.length) * 1 ≤ 140737488355328 := by omega
      have hld : d.length ≤ (M : Int) - l.length := by omega
      clear hp
      go_enter Try.func128, Try.ntmps128
      go_wp2_with fail
      go_quiet (fail)
      go_wp2_with (at_builtin; refine wpList_append_row rfl _ _ 74 rfl base 5 i0 (.int .u8 0) 1 1 Try.underlying74 hi hz0 hz1 hz2 rfl (by decide) _ _ (bv l) rfl (w := w.drewN nq) H2.out ad d.length c (bv d) rfl (by rw [bv_len, Nat.mul_one]) HD.out (bv_one d) p1 p2 hB ?_)
      intro v' w1 own1 hgr hfr
      obtain ⟨A', cap', rfl⟩ := (Reads.of_own own1).form
      have hb1 : w.heap.size ≤ w1.heap.size := hgr.size
      have hne : some p ≠ (Value.slice A l.length cap).ownBlock := by
        intro e
        rcases H2.out.2 with ⟨h1, _⟩ | ⟨g, cap', cur, h1, _, hg, _⟩
        · rw [h1] at e; cases e
        · rw [h1] at e
          cases e
          have := hg.symm.trans H1.out
          injection this with this
          injection this with _ e2 _
          exact absurd e2 (by decide)
      have hk1 : Blk w1 p #[.int .i64 (M : Nat), .slice A l.length cap, .bool false] 159 := (hgr.block p pl hne).trans H1.out
      have r1 := hk1.cell 1 _ rfl
      have rf := hk1.frozen
      have rl := hk1.lt
      have own1' := own_set own1 hk1 (by decide) 1 (.slice A' (l.length + d.length) cap')
      have hne' : ∀ k, (Value.slice A' (l.length + d.length) cap').ownBlock = some k → k < w1.heap.size ∧ base ≤ k := fun k hk => ⟨(own1.lt k hk).2, (own1.lt k hk).1⟩
      clear cf c0 c1 c2'
      go_wp2_with fail
      refine body_none rfl rfl ⟨rfl, fun k => k = p ∨ (Value.slice A' (l.length + d.length) cap').ownBlock = some k, ⟨⟨_, l ++ d, ?_, ?_, .inr HP.out, ?_, .inl rfl, fun g hg => .inr hg⟩, ?_⟩, ?_, ?_⟩
      · rw [HP.out]; exact hk1.setCell 1 (.slice A' (l.length + d.length) cap')
      · rw [bv_append, List.length_append]; exact own1'
      · rw [List.length_append]; omega
      · intro k hk
        rw [World.size_setCell]
        rcases hk with rfl | hk
        · exact ⟨hpF.1, rl⟩
        · exact ⟨(hne' k hk).2, (hne' k hk).1⟩
      · intro k hk
        rcases hk with rfl | hk
        · exact .inl h5
        · exact (hfr k hk).imp (h6 k) id
      · refine (Only.of_below (below_drewN (Below.refl _ _) nq)).trans (Only.setCell (w := w1) (a := w.drewN nq) ⟨hgr.os, hgr.tape, hgr.output, hgr.size, fun k hk hn => hgr.block k hk (fun e => hn (h6 k e.symm))⟩ (.inl h5) 1 (.slice A' (l.length + d.length) cap'))
theorem PutsW.pre {w w1 w' : World} {base p : Nat} {F : Nat → Prop} {st : Option (List UInt8)} {e : Ending} (hb : Below w.heap.size w w1) (h : PutsW M w1 base p F st e w') : PutsW M w base p F st e w' := by
  obtain ⟨h1, F', h2, h3, h4⟩ := h
  exact ⟨h1, F', h2, fun k hk => (h3 k hk).imp id (fun h => Nat.le_trans hb.size h), (Only.of_below hb).trans h4⟩
set_option maxRecDepth 100000 in
set_option maxHeartbeats 1000000 in
theorem writer_varint {w : World} {base p : Nat} {F : Nat → Prop} {st : Option (List UInt8)} (h : WrIs M w base p F st) (hB : base ≤ w.heap.size) (n : Nat) (hn : n < 18446744073709551616) :
    Calls Try.prog 86 #[.pointer (some ⟨p, 0, none⟩), .int .u64 n] w (PutsW M w base p F (putW M st (varN n))) := by
  have HW := Lib.hid h
  clear h
  go_enter Try.func86, Try.ntmps86
  go_wp2_with fail
  refine (varint_spec n hn w).mono ?_
  rintro e w1 ⟨A, c, rfl, hown, hb1⟩
  have HO := Lib.hid hown
  clear hown
  go_wp2_with fail
  refine (writer_put (HW.out.kept hb1) (Nat.le_trans hB hb1.size) (own_src HO.out)).mono ?_
  rintro e w2 h2
  have h3 := h2.pre hb1
  obtain ⟨rfl, h4⟩ := h3
  clear h2
  go_wp2_with fail
  exact body_none rfl rfl ⟨rfl, h4⟩

set_option maxRecDepth 100000 in
set_option maxHeartbeats 1000000 in
theorem writer_raw {w : World} {base p : Nat} {F : Nat → Prop} {st : Option (List UInt8)} (h : WrIs M w base p F st) (hB : base ≤ w.heap.size) (s : ByteArray) :
    Calls Try.prog 88 #[.pointer (some ⟨p, 0, none⟩), .string s] w (PutsW M w base p F (putW M st s.data.toList)) := by
  have HW := Lib.hid h
  clear h
  have hcv : ∀ W, (convert 9 74 (.string s)).run Try.prog W = .ok (.slice (some ⟨W.heap.size, 0, none⟩) s.size (grownCap W s.size 0 5)) (Lib.bytesWorld W 5 s) := fun W => Lib.run_convert_string_bytes W 9 74 5 s Try.underlying9 Try.underlying74 Try.underlying5
  go_enter Try.func88, Try.ntmps88
  go_wp2_with fail
  have hbb := bytes_below w s
  refine (writer_put (d := s.data.toList) (HW.out.kept hbb) (Nat.le_trans hB hbb.size) (ad := ⟨w.heap.size, 0, none⟩) (c := grownCap w s.size 0 5) (fun j u hj => ?_)).mono ?_
  · have hjl := (List.getElem?_eq_some_iff.1 hj).1
    rw [bv_len] at hjl
    rw [add_at rfl]
    show World.cell? _ ⟨w.heap.size, 0 + j, none⟩ = _
    rw [Nat.zero_add, Lib.bytesWorld_cell w 5 s j (by simpa using hjl)]
    unfold bv at hj
    rw [List.getElem?_map, List.getElem?_eq_getElem hjl] at hj
    simp at hj
    subst hj
    simp [List.getD, List.getElem?_eq_getElem hjl]
  rintro e w2 h2
  have h3 := h2.pre hbb
  obtain ⟨rfl, h4⟩ := h3
  clear h2 hcv
  go_wp2_with fail
  exact body_none rfl rfl ⟨rfl, h4⟩

/-- The end of a number: its bytes lie in a new block. -/
theorem put_new_bytes {w : World} {base p : Nat} {F : Nat → Prop} {st : Option (List UInt8)} (h : WrIs M w base p F st) (hB : base ≤ w.heap.size) (d : List UInt8) (arr : Array Value) (ha : arr = (bv d).toArray) (c : Nat) :
    Calls Try.prog 128 #[.pointer (some ⟨p, 0, none⟩), .slice (some ⟨w.heap.size, 0, none⟩) d.length c] (w.alloc (.cells arr 5)) (PutsW M w base p F (putW M st d)) := by
  subst ha
  have hb : Below w.heap.size w (w.alloc (.cells (bv d).toArray 5)) := (Below.refl _ _).alloc (Nat.le_refl _) _
  refine (writer_put (h.kept hb) (Nat.le_trans hB hb.size) (fun j u hj => ?_)).mono fun e w' h2 => h2.pre hb
  rw [add_at rfl]
  have := (Blk.new w (bv d).toArray 5).cell j u (by simpa using hj)
  simpa using this
set_option maxRecDepth 100000 in
set_option maxHeartbeats 1000000 in
theorem number_u8 {w : World} {base p : Nat} {F : Nat → Prop} {st : Option (List UInt8)} (h : WrIs M w base p F st) (hB : base ≤ w.heap.size) (n : Nat) (hn : n < 256) :
    Calls Try.prog 130 #[.pointer (some ⟨p, 0, none⟩), .int .u8 n, .int .i64 1] w (PutsW M w base p F (putW M st [UInt8.ofNat n])) := by
  have HW := Lib.hid h
  clear h
  have hmk : ∀ W, (Instr.makeSlice 74 (.int .i64 1) (.int .i64 1)).run Try.prog W = .ok (.slice (some ⟨W.heap.size, 0, none⟩) 1 1) (W.alloc (.cells #[.int .u8 0] 5)) := fun W => by
    have := make_bytes 1 (by decide) W
    rw [show madeCells #[.int .u8 0] 1 = #[.int .u8 0] from by kernel_rfl] at this
    exact this
  go_enter Try.func130, Try.ntmps130
  go_wp2_with fail
  refine wp_loop_rounds 3 ?_
  rw [rounds_succ]
  go_wp2_with fail
  rw [rounds_succ]
  go_wp2_with fail
  refine (put_new_bytes HW.out hB [UInt8.ofNat n] _ ?_ 1).mono ?_
  · simp [bv]; omega
  rintro e w2 ⟨rfl, h4⟩
  go_wp2_with fail
  exact body_none rfl rfl ⟨rfl, h4⟩
set_option maxRecDepth 100000 in
set_option maxHeartbeats 1000000 in
theorem number_u32 {w : World} {base p : Nat} {F : Nat → Prop} {st : Option (List UInt8)} (h : WrIs M w base p F st) (hB : base ≤ w.heap.size) (n : Nat) (hn : n < 4294967296) :
    Calls Try.prog 131 #[.pointer (some ⟨p, 0, none⟩), .int .u32 n, .int .i64 4] w (PutsW M w base p F (putW M st (be4 n))) := by
  have HW := Lib.hid h
  clear h
  have hmk : ∀ W, (Instr.makeSlice 74 (.int .i64 4) (.int .i64 4)).run Try.prog W = .ok (.slice (some ⟨W.heap.size, 0, none⟩) 4 4) (W.alloc (.cells #[.int .u8 0, .int .u8 0, .int .u8 0, .int .u8 0] 5)) := fun W => by
    have := make_bytes 4 (by decide) W
    rw [show madeCells #[.int .u8 0] 4 = #[.int .u8 0, .int .u8 0, .int .u8 0, .int .u8 0] from by kernel_rfl] at this
    exact this
  go_enter Try.func131, Try.ntmps131
  go_wp2_with fail
  refine wp_loop_rounds 6 ?_
  rw [rounds_succ]
  go_wp2_with fail
  rw [rounds_succ]
  go_wp2_with fail
  rw [rounds_succ]
  go_wp2_with fail
  rw [rounds_succ]
  go_wp2_with fail
  rw [rounds_succ]
  go_wp2_with fail
  refine (put_new_bytes HW.out hB (be4 n) _ ?_ 4).mono ?_
  · simp [bv, be4, UInt8.toNat_ofNat']; omega
  rintro e w2 ⟨rfl, h4⟩
  go_wp2_with fail
  exact body_none rfl rfl ⟨rfl, h4⟩
set_option maxRecDepth 100000 in
set_option maxHeartbeats 1000000 in
theorem number_u16 {w : World} {base p : Nat} {F : Nat → Prop} {st : Option (List UInt8)} (h : WrIs M w base p F st) (hB : base ≤ w.heap.size) (n : Nat) (hn : n < 65536) :
    Calls Try.prog 132 #[.pointer (some ⟨p, 0, none⟩), .int .u16 n, .int .i64 2] w (PutsW M w base p F (putW M st (be2 n))) := by
  have HW := Lib.hid h
  clear h
  have hmk : ∀ W, (Instr.makeSlice 74 (.int .i64 2) (.int .i64 2)).run Try.prog W = .ok (.slice (some ⟨W.heap.size, 0, none⟩) 2 2) (W.alloc (.cells #[.int .u8 0, .int .u8 0] 5)) := fun W => by
    have := make_bytes 2 (by decide) W
    rw [show madeCells #[.int .u8 0] 2 = #[.int .u8 0, .int .u8 0] from by kernel_rfl] at this
    exact this
  go_enter Try.func132, Try.ntmps132
  go_wp2_with fail
  refine wp_loop_rounds 6 ?_
  rw [rounds_succ]
  go_wp2_with fail
  rw [rounds_succ]
  go_wp2_with fail
  rw [rounds_succ]
  go_wp2_with fail
  refine (put_new_bytes HW.out hB (be2 n) _ ?_ 2).mono ?_
  · simp [bv, be2, UInt8.toNat_ofNat']; omega
  rintro e w2 ⟨rfl, h4⟩
  go_wp2_with fail
  exact body_none rfl rfl ⟨rfl, h4⟩
set_option maxRecDepth 100000 in
theorem writer_u8 {w : World} {base p : Nat} {F : Nat → Prop} {st : Option (List UInt8)} (h : WrIs M w base p F st) (hB : base ≤ w.heap.size) (n : Nat) (hn : n < 256) :
    Calls Try.prog 87 #[.pointer (some ⟨p, 0, none⟩), .int .u8 n] w (PutsW M w base p F (putW M st ([UInt8.ofNat n]))) := by
  have HN := Lib.hid (number_u8 h hB n hn)
  clear h
  go_enter Try.func87, Try.ntmps87
  go_wp2_with fail
  refine HN.out.mono ?_
  rintro e w2 ⟨rfl, h4⟩
  go_wp2_with fail
  exact body_none rfl rfl ⟨rfl, h4⟩
set_option maxRecDepth 100000 in
theorem writer_u32 {w : World} {base p : Nat} {F : Nat → Prop} {st : Option (List UInt8)} (h : WrIs M w base p F st) (hB : base ≤ w.heap.size) (n : Nat) (hn : n < 4294967296) :
    Calls Try.prog 89 #[.pointer (some ⟨p, 0, none⟩), .int .u32 n] w (PutsW M w base p F (putW M st (be4 n))) := by
  have HN := Lib.hid (number_u32 h hB n hn)
  clear h
  go_enter Try.func89, Try.ntmps89
  go_wp2_with fail
  refine HN.out.mono ?_
  rintro e w2 ⟨rfl, h4⟩
  go_wp2_with fail
  exact body_none rfl rfl ⟨rfl, h4⟩
set_option maxRecDepth 100000 in
theorem writer_u16 {w : World} {base p : Nat} {F : Nat → Prop} {st : Option (List UInt8)} (h : WrIs M w base p F st) (hB : base ≤ w.heap.size) (n : Nat) (hn : n < 65536) :
    Calls Try.prog 90 #[.pointer (some ⟨p, 0, none⟩), .int .u16 n] w (PutsW M w base p F (putW M st (be2 n))) := by
  have HN := Lib.hid (number_u16 h hB n hn)
  clear h
  go_enter Try.func90, Try.ntmps90
  go_wp2_with fail
  refine HN.out.mono ?_
  rintro e w2 ⟨rfl, h4⟩
  go_wp2_with fail
  exact body_none rfl rfl ⟨rfl, h4⟩

def lenW (st : Option (List UInt8)) : Nat := (st.map List.length).getD 0
set_option maxRecDepth 100000 in
theorem writer_len {w : World} {base p : Nat} {F : Nat → Prop} {st : Option (List UInt8)} (h : WrIs M w base p F st) :
    Calls Try.prog 84 #[.pointer (some ⟨p, 0, none⟩)] w fun e w' => e = .returned (.int .i64 (lenW st)) ∧ w = w' := by
  obtain ⟨v, l, h1, h2, h3, ⟨h4, hM40⟩, h5, h6⟩ := h.ex
  obtain ⟨A, cap, rfl⟩ := (Reads.of_own h2).form
  have c1 : w.cell? ⟨p, 1, none⟩ = some (.slice A l.length cap) := h1.cell 1 _ rfl
  have c2 : w.cell? ⟨p, 2, none⟩ = some (.bool st.isNone) := h1.cell 2 _ rfl
  have pl := h1.lt
  clear h h1 h2 h4
  rcases h3 with rfl | rfl
  · have c2' : w.cell? ⟨p, 2, none⟩ = some (.bool true) := c2
    clear c2
    go_enter Try.func84, Try.ntmps84
    go_wp2_with fail
    go_ret
    exact ⟨rfl, rfl⟩
  · have c2' : w.cell? ⟨p, 2, none⟩ = some (.bool false) := c2
    clear c2
    go_enter Try.func84, Try.ntmps84
    go_wp2_with fail
    go_ret
    exact ⟨rfl, rfl⟩
def strW (st : Option (List UInt8)) : ByteArray := ⟨(st.getD []).toArray⟩
def errW (st : Option (List UInt8)) : Int := if st.isNone then 3 else 0
set_option maxRecDepth 100000 in
theorem writer_done {w : World} {base p : Nat} {F : Nat → Prop} {st : Option (List UInt8)} (h : WrIs M w base p F st) :
    Calls Try.prog 91 #[.pointer (some ⟨p, 0, none⟩)] w fun e w' => e = .returned (.tuple #[.string (strW st), .int .i64 (errW st)]) ∧ w = w' := by
  obtain ⟨v, l, h1, h2, h3, ⟨h4, hM40⟩, h5, h6⟩ := h.ex
  have hcv := conv_own h2
  obtain ⟨A, cap, rfl⟩ := (Reads.of_own h2).form
  have c1 : w.cell? ⟨p, 1, none⟩ = some (.slice A l.length cap) := h1.cell 1 _ rfl
  have c2 : w.cell? ⟨p, 2, none⟩ = some (.bool st.isNone) := h1.cell 2 _ rfl
  have pl := h1.lt
  clear h h1 h2 h4
  rcases h3 with rfl | rfl
  · have c2' : w.cell? ⟨p, 2, none⟩ = some (.bool true) := c2
    clear c2
    go_enter Try.func91, Try.ntmps91
    go_wp2_with fail
    go_ret2
    exact ⟨rfl, rfl⟩
  · have c2' : w.cell? ⟨p, 2, none⟩ = some (.bool false) := c2
    clear c2
    go_enter Try.func91, Try.ntmps91
    go_wp2_with fail
    go_ret2
    exact ⟨rfl, rfl⟩
set_option maxRecDepth 100000 in
theorem writer_new (hM : M ≤ 1099511627776) (w : World) : Calls Try.prog 83 #[.int .i64 (M : Nat)] w fun e w' => e = .returned (.pointer (some ⟨w.heap.size, 0, none⟩)) ∧ WrIs M w' w.heap.size w.heap.size (fun k => k = w.heap.size) (some []) ∧ Below w.heap.size w w' ∧ w'.heap.size = w.heap.size + 1 := by
  go_enter Try.func83, Try.ntmps83
  go_wp2_with fail
  go_ret
  exact ⟨rfl, ⟨⟨.slice none 0 0, [], Blk.new _ _ _, World.ownsRow_nil _ _ _ _, .inr rfl, ⟨by simp, hM⟩, rfl, fun g hg => by cases hg⟩, fun k hk => by subst hk; simp⟩, (Below.refl _ _).alloc (Nat.le_refl _) _, by simp⟩
end Go.Proofs.Ytbcaiegglbdonaa.WM

/-
  A Writer with room for M bytes: a text put; blocks beside it that stay.
-/
namespace Go.Proofs.Ytbcaiegglbdonaa.WM
open Go Go.RowKit
set_option linter.unusedSimpArgs false
variable {M : Nat}

theorem putW_append (st : Option (List UInt8)) (a b : List UInt8) : putW M (putW M st a) b = putW M st (a ++ b) := by
  cases st with
  | none => rfl
  | some l =>
    simp only [putW, Option.bind_some]
    by_cases h : (M : Int) - l.length < a.length
    · rw [if_pos h, if_pos (by rw [List.length_append]; omega)]; rfl
    · rw [if_neg h]
      simp only [Option.bind_some, List.length_append]
      by_cases h2 : (M : Int) - ((l.length + a.length : Nat) : Int) < b.length
      · rw [if_pos h2, if_pos (by omega)]
      · rw [if_neg h2, if_neg (by omega), List.append_assoc]
theorem putW_nil (l : List UInt8) (h : l.length ≤ M) : putW M (some []) l = some l := by
  unfold putW
  simp only [Option.bind_some]
  rw [if_neg (by simp; omega)]
  simp
theorem putW_over (l : List UInt8) (h : M < l.length) : putW M (some []) l = none := by
  unfold putW
  simp only [Option.bind_some]
  rw [if_pos (by simp; omega)]

/-! ### A Writer and blocks that stay -/
structure WrG (M : Nat) (w0 : World) (p : Nat) (st : Option (List UInt8)) (G : Nat → Prop) (W : World) : Prop where
  ex : ∃ F, WrIs M W w0.heap.size p F st ∧ ∀ k, G k → ¬ F k ∧ k < W.heap.size
  below : Below w0.heap.size w0 W
/-- What a call leaves that puts bytes: the Writer, and G's blocks as they lay. -/
def PutsG (M : Nat) (w0 : World) (p : Nat) (st : Option (List UInt8)) (G : Nat → Prop) (W : World) (e : Ending) (W' : World) : Prop :=
  e = .returned (.tuple #[]) ∧ WrG M w0 p st G W' ∧ (∀ k, G k → W'.heap[k]? = W.heap[k]?) ∧ W.heap.size ≤ W'.heap.size
theorem WrG.puts {w0 W : World} {p f : Nat} {st st' : Option (List UInt8)} {G : Nat → Prop} {args : Array Value} (h : WrG M w0 p st G W) (hc : ∀ F, WrIs M W w0.heap.size p F st → Calls Try.prog f args W (PutsW M W w0.heap.size p F st')) :
    Calls Try.prog f args W (PutsG M w0 p st' G W) := by
  obtain ⟨F, h1, h2⟩ := h.ex
  refine (hc F h1).mono ?_
  rintro e W' ⟨rfl, F', h3, h4, ho⟩
  have hB := h.below.size
  refine ⟨rfl, ⟨⟨F', h3, fun k hk => ⟨fun hF => ?_, Nat.lt_of_lt_of_le (h2 k hk).2 ho.size⟩⟩, h.below.trans (ho.below hB fun k hk => (h1.lt k hk).1)⟩, fun k hk => ho.block k (h2 k hk).2 (h2 k hk).1, ho.size⟩
  rcases h4 k hF with h | h
  · exact (h2 k hk).1 h
  · have := (h2 k hk).2; omega
theorem WrG.kept {w0 W W' : World} {p : Nat} {st : Option (List UInt8)} {G : Nat → Prop} (h : WrG M w0 p st G W) (hb : Below W.heap.size W W') : WrG M w0 p st G W' := by
  obtain ⟨F, h1, h2⟩ := h.ex
  exact ⟨⟨F, h1.kept hb, fun k hk => ⟨(h2 k hk).1, Nat.lt_of_lt_of_le (h2 k hk).2 hb.size⟩⟩, h.below.trans (hb.mono h.below.size)⟩
theorem WrG.less {w0 W : World} {p : Nat} {st : Option (List UInt8)} {G G' : Nat → Prop} (h : WrG M w0 p st G W) (hg : ∀ k, G' k → G k) : WrG M w0 p st G' W := by
  obtain ⟨F, h1, h2⟩ := h.ex
  exact ⟨⟨F, h1, fun k hk => h2 k (hg k hk)⟩, h.below⟩
/-- Blocks made since a world in which the Writer stood. -/
theorem WrG.newer {w0 W W' : World} {p : Nat} {st : Option (List UInt8)} {G G' : Nat → Prop} (h : WrG M w0 p st G W) (ho : Only G W W') (hg : ∀ k, G' k → G k ∨ (W.heap.size ≤ k ∧ k < W'.heap.size)) (hG0 : ∀ k, G k → w0.heap.size ≤ k) : WrG M w0 p st G' W' := by
  obtain ⟨F, h1, h2⟩ := h.ex
  refine ⟨⟨F, h1.only ho fun k hk hG => (h2 k hG).1 hk, fun k hk => ?_⟩, h.below.trans (ho.below h.below.size hG0)⟩
  rcases hg k hk with h | h
  · exact ⟨(h2 k h).1, Nat.lt_of_lt_of_le (h2 k h).2 ho.size⟩
  · exact ⟨fun hF => by have := (h1.lt k hF).2; omega, h.2⟩
theorem WrG.len {w0 W : World} {p : Nat} {st : Option (List UInt8)} {G : Nat → Prop} (h : WrG M w0 p st G W) : Calls Try.prog 84 #[.pointer (some ⟨p, 0, none⟩)] W fun e w' => e = .returned (.int .i64 (lenW st)) ∧ W = w' := by
  obtain ⟨F, h1, _⟩ := h.ex
  exact writer_len h1
theorem WrG.done {w0 W : World} {p : Nat} {st : Option (List UInt8)} {G : Nat → Prop} (h : WrG M w0 p st G W) : Calls Try.prog 91 #[.pointer (some ⟨p, 0, none⟩)] W fun e w' => e = .returned (.tuple #[.string (strW st), .int .i64 (errW st)]) ∧ W = w' := by
  obtain ⟨F, h1, _⟩ := h.ex
  exact writer_done h1
theorem WrG.varint {w0 W : World} {p : Nat} {st : Option (List UInt8)} {G : Nat → Prop} (h : WrG M w0 p st G W) (n : Nat) (hn : n < 18446744073709551616) : Calls Try.prog 86 #[.pointer (some ⟨p, 0, none⟩), .int .u64 n] W (PutsG M w0 p (putW M st (varN n)) G W) :=
  h.puts fun _ hF => writer_varint hF h.below.size n hn
theorem WrG.u8 {w0 W : World} {p : Nat} {st : Option (List UInt8)} {G : Nat → Prop} (h : WrG M w0 p st G W) (n : Nat) (hn : n < 256) : Calls Try.prog 87 #[.pointer (some ⟨p, 0, none⟩), .int .u8 n] W (PutsG M w0 p (putW M st [UInt8.ofNat n]) G W) :=
  h.puts fun _ hF => writer_u8 hF h.below.size n hn
theorem WrG.u16 {w0 W : World} {p : Nat} {st : Option (List UInt8)} {G : Nat → Prop} (h : WrG M w0 p st G W) (n : Nat) (hn : n < 65536) : Calls Try.prog 90 #[.pointer (some ⟨p, 0, none⟩), .int .u16 n] W (PutsG M w0 p (putW M st (be2 n)) G W) :=
  h.puts fun _ hF => writer_u16 hF h.below.size n hn
theorem WrG.u32 {w0 W : World} {p : Nat} {st : Option (List UInt8)} {G : Nat → Prop} (h : WrG M w0 p st G W) (n : Nat) (hn : n < 4294967296) : Calls Try.prog 89 #[.pointer (some ⟨p, 0, none⟩), .int .u32 n] W (PutsG M w0 p (putW M st (be4 n)) G W) :=
  h.puts fun _ hF => writer_u32 hF h.below.size n hn
theorem WrG.raw {w0 W : World} {p : Nat} {st : Option (List UInt8)} {G : Nat → Prop} (h : WrG M w0 p st G W) (s : ByteArray) : Calls Try.prog 88 #[.pointer (some ⟨p, 0, none⟩), .string s] W (PutsG M w0 p (putW M st s.data.toList) G W) :=
  h.puts fun _ hF => writer_raw hF h.below.size s
theorem some_form {w : World} {base e n : Nat} {v : Value} {xs : List Value} (h : w.ownsRow base e 1 v n xs) (hne : ¬ v = .slice none 0 0) : ∃ A c, v = .slice (some A) n c := by
  rcases h.2 with ⟨h1, _⟩ | ⟨g, cap, cur, h1, _⟩
  · exact absurd h1 hne
  · exact ⟨_, _, h1⟩
def textN (s : ByteArray) : List UInt8 := varN s.size ++ s.data.toList
set_option maxRecDepth 100000 in
set_option maxHeartbeats 1000000 in
theorem writer_text {w : World} {base p : Nat} {F : Nat → Prop} {st : Option (List UInt8)} (h : WrIs M w base p F st) (hB : base ≤ w.heap.size) (s : ByteArray) (hs : s.size ≤ 1099511627776) :
    Calls Try.prog 109 #[.pointer (some ⟨p, 0, none⟩), .string s] w (PutsW M w base p F (putW M st (textN s))) := by
  obtain ⟨i0, hi, hz0, hz1, hz2⟩ := info_parts Try.infoByte
  have HW := Lib.hid h
  have hvl := varN_len 9 s.size (by omega)
  have hu : IntKind.u64.wrap (s.size : Int) = (s.size : Int) := by rw [IntKind.wrap_u64]; omega
  have p1 : (varN s.size).length + s.size ≤ maxLen := by unfold maxLen; omega
  have p2 : (varN s.size).length + s.size ≤ 140737488355328 := by omega
  clear h
  go_enter Try.func109, Try.ntmps109
  go_wp2_with fail
  refine (varint_spec s.size (by omega) w).mono ?_
  rintro e w1 ⟨A, c, rfl, hown, hb1⟩
  have HO := Lib.hid hown
  have h1s := hb1.size
  have htl : (textN s).length = (varN s.size).length + s.size := by unfold textN; rw [List.length_append]; rfl
  have HT := Lib.hid htl
  clear hown htl
  go_wp2_with (at_builtin; refine wpList_append_text rfl _ _ 74 9 rfl w.heap.size 5 i0 Try.underlying74 Try.underlying9 hi hz0 hz1 hz2 _ _ _ rfl HO.out s rfl p1 p2 h1s ?_; intro v2 w2 own2 hgr hfr hn; obtain ⟨B, cB, rfl⟩ := some_form own2 (fun e => nomatch (hn.1 e).1); have HO2 := Lib.hid own2; have hb2 := hb1.grown hgr h1s (fun z hz => (HO.out.lt z hz).1); clear own2 hn hfr; rw [← HT.out])
  refine (writer_put (d := textN s) (HW.out.kept hb2) (Nat.le_trans hB hb2.size) (fun j u hj => own_src HO2.out j u (by unfold textN at hj; rw [bv_append] at hj; exact hj))).mono ?_
  rintro e w3 h3
  have h4 := h3.pre hb2
  obtain ⟨rfl, h5⟩ := h4
  clear h3
  go_wp2_with fail
  exact body_none rfl rfl ⟨rfl, h5⟩
end Go.Proofs.Ytbcaiegglbdonaa.WM

/-
  A table's bytes, plain.
-/
namespace Go.Proofs.Ytbcaiegglbdonaa
open Go Go.RowKit
set_option linter.unusedSimpArgs false

def pieceL (l : List Cell) (p : Nat × Nat) : List Cell := (l.take p.2).drop p.1
def partB (l : List Cell) (r : Nat) (ps : List (Nat × Nat)) (j : Nat) : List UInt8 := (ps.take j).flatMap fun p => blockN (pieceL l p) r
def entN (l : List Cell) (r : Nat) (ps : List (Nat × Nat)) (i : Nat) : List UInt8 :=
  ((ps[i]?).map fun p => WM.textN (keyB l p.1) ++ (varN (partB l r ps i).length ++ varN (blockN (pieceL l p) r).length)).getD []
def partI (l : List Cell) (r : Nat) (ps : List (Nat × Nat)) (j : Nat) : List UInt8 := (List.range j).flatMap (entN l r ps)
def fitsP (l : List Cell) (r : Nat) (ps : List (Nat × Nat)) : Prop := ∀ p ∈ ps, (blockN (pieceL l p) r).length ≤ 65536
def m32 (n : Nat) : List UInt8 := be4 (n % 4294967296)
def foot0 (B F I n b r t : Nat) : List UInt8 := m32 B ++ (m32 F ++ (m32 (B + F) ++ (m32 I ++ (m32 n ++ (m32 b ++ (be2 r ++ be2 t))))))
def magicN : List UInt8 := [65, 84, 66, 76]
def wholeN (body fil idx : List UInt8) (n b r t : Nat) : List UInt8 :=
  body ++ (fil ++ (idx ++ (foot0 body.length fil.length idx.length n b r t ++ (be4 (crcN (fil ++ (idx ++ foot0 body.length fil.length idx.length n b r t))) ++ magicN))))
def bodyT (l : List Cell) (b r : Nat) : List UInt8 := partB l r (cutN l b) (cutN l b).length
def indexT (l : List Cell) (b r : Nat) : List UInt8 := partI l r (cutN l b) (cutN l b).length
def bytesT (l : List Cell) (b r t : Nat) : List UInt8 := wholeN (bodyT l b r) (filterN (keysN l) t) (indexT l b r) l.length b r t
open Classical in
noncomputable def tableN (l : List Cell) (b r t : Int) : List UInt8 × Int :=
  if checkT l b r t ≠ 0 then ([], checkT l b r t) else if ¬ fitsP l r.toNat (cutN l b) then ([], 3) else if 1048576 < (bytesT l b.toNat r.toNat t.toNat).length then ([], 3) else (bytesT l b.toNat r.toNat t.toNat, 0)

/-! ### Facts -/
theorem cutS_mem {l : List Cell} {size : Int} {i : Nat} {p : Nat × Nat} (h : p ∈ (cutS l size i).out) : p.1 < p.2 ∧ p.2 ≤ i := by
  induction i with
  | zero => cases h
  | succ i ih =>
    by_cases hc : size ≤ ((cutS l size i).n + szAt l i : Nat) ∨ i + 1 = l.length
    · rw [cutS_yes hc] at h
      rcases List.mem_append.1 h with h | h
      · have := ih h; omega
      · obtain rfl : p = _ := by simpa using h
        have := cutS_start l size i
        exact ⟨Nat.lt_succ_of_le this, Nat.le_refl _⟩
    · rw [cutS_no hc] at h
      have := ih h; omega
theorem pieceL_len {l : List Cell} {p : Nat × Nat} (h : p.2 ≤ l.length) : (pieceL l p).length = p.2 - p.1 := by
  unfold pieceL
  rw [List.length_drop, List.length_take]; omega
theorem pieceL_get {l : List Cell} {p : Nat × Nat} {j : Nat} (hj : p.1 + j < p.2) : (pieceL l p)[j]? = l[p.1 + j]? := by
  unfold pieceL
  rw [List.getElem?_drop, List.getElem?_take_of_lt hj]
theorem pieceL_mem {l : List Cell} {p : Nat × Nat} {c : Cell} (h : c ∈ pieceL l p) : c ∈ l := List.mem_of_mem_take (List.mem_of_mem_drop h)
theorem pieceL_check {l : List Cell} {p : Nat × Nat} (h : checkL l = 0) : checkL (pieceL l p) = 0 := by
  obtain ⟨h1, h2⟩ := checkL_ok h
  unfold checkL
  rw [if_neg, if_pos]
  · refine (adjC_iff _).2 fun j x y hx hy => ?_
    unfold pieceL at hx hy
    rw [List.getElem?_drop] at hx hy
    have e : ∀ (k : Nat) (u : Cell), (l.take p.2)[k]? = some u → l[k]? = some u := by
      intro k u hk
      rw [List.getElem?_take] at hk
      split at hk
      · exact hk
      · cases hk
    exact (adjC_iff l).1 h2 (p.1 + j) x y (e _ _ hx) (e _ _ (by rw [Nat.add_assoc]; exact hy))
  · rintro ⟨c, hc, h3⟩
    have := h1 c (pieceL_mem hc)
    omega
theorem partB_succ {l : List Cell} {r : Nat} {ps : List (Nat × Nat)} {j : Nat} {p : Nat × Nat} (h : ps[j]? = some p) : partB l r ps (j + 1) = partB l r ps j ++ blockN (pieceL l p) r := by
  unfold partB
  rw [take_snoc h, List.flatMap_append]
  simp
theorem partI_succ (l : List Cell) (r : Nat) (ps : List (Nat × Nat)) (j : Nat) : partI l r ps (j + 1) = partI l r ps j ++ entN l r ps j := by
  unfold partI
  rw [List.range_succ, List.flatMap_append]
  simp
theorem entN_eq {l : List Cell} {r : Nat} {ps : List (Nat × Nat)} {j : Nat} {p : Nat × Nat} (h : ps[j]? = some p) : entN l r ps j = WM.textN (keyB l p.1) ++ (varN (partB l r ps j).length ++ varN (blockN (pieceL l p) r).length) := by
  unfold entN
  rw [h]
  rfl
theorem partB_len {l : List Cell} {r : Nat} {ps : List (Nat × Nat)} (hf : fitsP l r ps) (j : Nat) : (partB l r ps j).length ≤ j * 65536 := by
  induction j with
  | zero => exact Nat.zero_le _
  | succ j ih =>
    cases h : ps[j]? with
    | none =>
      have : ps.take (j + 1) = ps.take j := by rw [List.take_add_one, h]; simp
      have e : partB l r ps (j + 1) = partB l r ps j := by unfold partB; rw [this]
      rw [e, Nat.succ_mul]
      exact Nat.le_add_right_of_le ih
    | some p =>
      rw [partB_succ h, List.length_append, Nat.succ_mul]
      exact Nat.add_le_add ih (hf p (List.mem_of_getElem? h))
theorem keysN_mem {l : List Cell} {k : ByteArray} (h : k ∈ keysN l) : ∃ c ∈ l, c.key = k := by
  have : ∀ i, i ≤ l.length → k ∈ keysS l i → ∃ c ∈ l, c.key = k := by
    intro i
    induction i with
    | zero => intro _ h; cases h
    | succ i ih =>
      intro hi h
      by_cases hc : i = 0 ∨ keyB l (i - 1) ≠ keyB l i
      · rw [keysS_yes hc] at h
        rcases List.mem_append.1 h with h | h
        · exact ih (by omega) h
        · obtain rfl : k = _ := by simpa using h
          obtain ⟨x, hx⟩ : ∃ x, l[i]? = some x := ⟨_, List.getElem?_eq_getElem (by omega)⟩
          exact ⟨x, List.mem_of_getElem? hx, (keyB_eq hx).symm⟩
      · rw [keysS_no hc] at h
        exact ih (by omega) h
  exact this _ (Nat.le_refl _) h
theorem textN_len {s : ByteArray} (h : s.size ≤ 128) : (WM.textN s).length ≤ 138 := by
  unfold WM.textN
  have := varN_len 9 s.size (by omega)
  rw [List.length_append]
  show _ + s.size ≤ _
  omega
theorem be4_len' (n : Nat) : (be4 n).length = 4 := rfl
theorem foot0_len (B F I n b r t : Nat) : (foot0 B F I n b r t).length = 28 := rfl
/-- A piece's slice reads as the piece. -/
theorem piece_reads {w : World} {b o n cap : Nat} {l : List Cell} (h : Reads w (.slice (some ⟨b, o, none⟩) n cap) n 4 (cellVals l)) (hn : l.length = n) {p : Nat × Nat} (hp : p.1 < p.2) (hp2 : p.2 ≤ n) (hc : n ≤ cap) :
    pieceV (some ⟨b, o, none⟩) cap p = .slice (some ⟨b, o + p.1 * 4, none⟩) (pieceL l p).length (cap - p.1) ∧ Reads w (.slice (some ⟨b, o + p.1 * 4, none⟩) (pieceL l p).length (cap - p.1)) (pieceL l p).length 4 (cellVals (pieceL l p)) := by
  have hlen := pieceL_len (l := l) (p := p) (by omega)
  refine ⟨?_, ?_⟩
  · unfold pieceV cutOf2 sliced
    rw [if_neg (by omega), hlen, Option.map_some, add_at rfl]
  · obtain ⟨h1, h2, A, cap', e, h3⟩ := h
    injection e with e1 e2 e3
    subst e1 e3
    obtain ⟨b', o', e4, hb, hcell⟩ := h3.resolve_left (by omega)
    injection e4 with e4
    cases e4
    refine ⟨by rw [cellVals_length], by omega, _, _, rfl, .inr ⟨b, o + p.1 * 4, rfl, hb, fun j u hj => ?_⟩⟩
    obtain ⟨x, hx, hu⟩ := flatMap_get (f := fun c : Cell => [Value.string c.key, .int .u64 c.seq, .string c.val, .bool c.gone]) (k := 4) (by decide) (fun _ => rfl) (pieceL l p) j u hj
    have hjl := (List.getElem?_eq_some_iff.1 hx).1
    rw [pieceL_get (by omega)] at hx
    have := flatMap_at (f := fun c : Cell => [Value.string c.key, .int .u64 c.seq, .string c.val, .bool c.gone]) (k := 4) (fun _ => rfl) l (p.1 + j / 4) x hx (j % 4) (Nat.mod_lt _ (by decide))
    rw [hu] at this
    have h4 := hcell _ _ this
    have e5 : o + ((p.1 + j / 4) * 4 + j % 4) = o + p.1 * 4 + j := by omega
    rw [e5] at h4
    exact h4
end Go.Proofs.Ytbcaiegglbdonaa

/-
  A table built: the program's table.Build.
-/
namespace Go.Proofs.Ytbcaiegglbdonaa
open Go Go.RowKit
set_option linter.unusedSimpArgs false

theorem WM.WrG.text {M : Nat} {w0 W : World} {p : Nat} {st : Option (List UInt8)} {G : Nat → Prop} (h : WM.WrG M w0 p st G W) (s : ByteArray) (hs : s.size ≤ 1099511627776) : Calls Try.prog 109 #[.pointer (some ⟨p, 0, none⟩), .string s] W (WM.PutsG M w0 p (WM.putW M st (WM.textN s)) G W) :=
  h.puts fun _ hF => WM.writer_text hF h.below.size s hs
theorem Reads.val_at {w : World} {A : Option Addr} {n cap : Nat} {xs : List Value} (h : Reads w (.slice A n cap) n 1 xs) {k : Nat} {v : Value} (hk : xs[k]? = some v) :
    ∃ b o, A = some ⟨b, o, none⟩ ∧ b < w.heap.size ∧ w.cell? ⟨b, o + k, none⟩ = some v := by
  obtain ⟨h1, _, A', cap', e, h3⟩ := h
  injection e with e1 e2 e3
  subst e1 e3
  have hlt := (List.getElem?_eq_some_iff.1 hk).1
  obtain ⟨b, o, rfl, hb, hc⟩ := h3.resolve_left (by omega)
  exact ⟨b, o, rfl, hb, hc k _ hk⟩
def Apart (v u : Value) : Prop := ∀ g, v.ownBlock = some g → u.ownBlock ≠ some g
def BtRel (w1 : World) (l : List Cell) (r : Nat) (ps : List (Nat × Nat)) (body idx i : Value) (W : World) : Prop :=
  ∃ k : Nat, k ≤ ps.length ∧ i = .int .i64 k ∧ Below w1.heap.size w1 W ∧ W.ownsRow w1.heap.size 5 1 body (partB l r ps k).length (bv (partB l r ps k)) ∧ W.ownsRow w1.heap.size 5 1 idx (partI l r ps k).length (bv (partI l r ps k)) ∧ Apart body idx ∧
    (∀ p ∈ ps.take k, (blockN (pieceL l p) r).length ≤ 65536) ∧ (partB l r ps k).length ≤ k * 65536 ∧ (partI l r ps k).length ≤ k * 158
theorem checkT_ok {l : List Cell} {b r t : Int} (h : checkT l b r t = 0) : (64 ≤ b ∧ b ≤ 32768 ∧ 1 ≤ r ∧ r ≤ 64 ∧ 1 ≤ t ∧ t ≤ 32) ∧ l.length ≤ 65536 ∧ l.length ≠ 0 ∧ checkL l = 0 := by
  unfold checkT at h
  split at h
  · rename_i h1; exact absurd h h1
  · rename_i h1
    split at h
    · cases h
    · split at h
      · cases h
      · split at h
        · cases h
        · refine ⟨?_, by omega, by assumption, h⟩
          unfold checkS at h1
          split at h1
          · omega
          · omega
open Classical in
theorem tableN_ok {l : List Cell} {b r t : Nat} (hc : checkT l b r t = 0) : tableN l b r t = if ¬ fitsP l r (cutN l b) then ([], 3) else if 1048576 < (bytesT l b r t).length then ([], 3) else (bytesT l b r t, 0) := by
  unfold tableN
  rw [if_neg (by rw [hc]; simp)]
  simp only [Int.toNat_natCast]
def TBuildPost (w : World) (d : List UInt8 × Int) (e : Ending) (w' : World) : Prop := ∃ v, e = .returned (.tuple #[v, .int .i64 d.2]) ∧ w'.ownsRow w.heap.size 5 1 v d.1.length (bv d.1) ∧ Below w.heap.size w w'
theorem filterN_len (ks : List ByteArray) (r : Nat) : (filterN ks r).length = fM ks.length r / 8 + 1 := by unfold filterN; rw [fillK_len, startF_len]
theorem rows_two {w : World} {v1 v2 : Value} {l1 l2 : List UInt8} (h1 : SrcIs w v1 l1.length (bv l1)) (h2 : SrcIs w v2 l2.length (bv l2)) (t : TypeId) : RowsIs (w.alloc (.cells #[v1, v2] t)) ⟨w.heap.size, 0, none⟩ [v1, v2] [l1, l2] := by
  have hb : Below w.heap.size w (w.alloc (.cells #[v1, v2] t)) := (Below.refl _ _).alloc (Nat.le_refl _) _
  have hB := Blk.new w #[v1, v2] t
  refine ⟨rfl, fun i v hi => ?_, fun i v d hi hd => ?_⟩
  · rw [add_at rfl, Nat.zero_add]
    exact hB.cell i v (by simpa using hi)
  · match i, hi, hd with
    | 0, hi, hd => cases hi; cases hd; exact h1.kept hb
    | 1, hi, hd => cases hi; cases hd; exact h2.kept hb
theorem rows_three {w : World} {v1 v2 v3 : Value} {l1 l2 l3 : List UInt8} (h1 : SrcIs w v1 l1.length (bv l1)) (h2 : SrcIs w v2 l2.length (bv l2)) (h3 : SrcIs w v3 l3.length (bv l3)) (t : TypeId) : RowsIs (w.alloc (.cells #[v1, v2, v3] t)) ⟨w.heap.size, 0, none⟩ [v1, v2, v3] [l1, l2, l3] := by
  have hb : Below w.heap.size w (w.alloc (.cells #[v1, v2, v3] t)) := (Below.refl _ _).alloc (Nat.le_refl _) _
  have hB := Blk.new w #[v1, v2, v3] t
  refine ⟨rfl, fun i v hi => ?_, fun i v d hi hd => ?_⟩
  · rw [add_at rfl, Nat.zero_add]
    exact hB.cell i v (by simpa using hi)
  · match i, hi, hd with
    | 0, hi, hd => cases hi; cases hd; exact h1.kept hb
    | 1, hi, hd => cases hi; cases hd; exact h2.kept hb
    | 2, hi, hd => cases hi; cases hd; exact h3.kept hb
def FtRel (w6 : World) (p gi : Nat) (ns : List Nat) (arr : Array Value) (i : Value) (W : World) : Prop :=
  ∃ k : Nat, k ≤ ns.length ∧ i = .int .i64 k ∧ WM.WrG 36 w6 p (WM.putW 36 (some []) ((ns.take k).flatMap m32)) (fun b => b = gi) W ∧ Blk W gi arr 3
set_option maxRecDepth 100000 in
set_option maxHeartbeats 4000000 in
theorem tbuild_main {w : World} {A : Option Addr} {cap : Nat} {l : List Cell} (h : Reads w (.slice A l.length cap) l.length 4 (cellVals l)) (hcap : l.length ≤ cap) (hs : ∀ c ∈ l, 0 ≤ c.seq) (b r t : Nat) (hc : checkT l b r t = 0) :
    Calls Try.prog 54 #[.slice A l.length cap, .agg #[.int .i64 (b : Nat), .int .i64 (r : Nat), .int .i64 (t : Nat)]] w (TBuildPost w (tableN l b r t)) := by
  obtain ⟨i0, hi, hz0, hz1, hz2⟩ := info_parts Try.infoByte
  obtain ⟨⟨s1, s2, s3, s4, s5, s6⟩, hl, hl0, hcl⟩ := checkT_ok hc
  obtain ⟨hcn, hadj⟩ := checkL_ok hcl
  have hsz : ∀ c ∈ l, c.key.size ≤ 128 ∧ c.val.size ≤ 1024 := fun c hc => check_sizes (hcn c hc)
  have bA := (Below.refl w.heap.size w).alloc (Nat.le_refl _) (.cells #[.int .i64 (b : Nat), .int .i64 (r : Nat), .int .i64 (t : Nat)] 89)
  have HT := Lib.hid (table_check (h.kept bA) (by omega) b r t)
  have HP := Lib.hid (fun (W : World) (hb : Below w.heap.size w W) => pieces_spec (h.kept hb) hl hcap hsz b)
  have H := Lib.hid h
  have HS := Lib.hid hs
  have HSZ := Lib.hid hsz
  have HCL := Lib.hid hcl
  have HCN := Lib.hid hcn
  have hbx := Blk.new w #[.int .i64 (b : Nat), .int .i64 (r : Nat), .int .i64 (t : Nat)] 89
  have HTN := Lib.hid (tableN_ok hc)
  obtain ⟨N, hN⟩ : ∃ N, tableN l b r t = N := ⟨_, rfl⟩
  rw [hN] at HTN ⊢
  rw [hc] at HT
  clear h hs hsz hcl hcn hadj hc hN
  go_enter Try.func54, Try.ntmps54
  go_wp2_with (first
    | (go_at_call 107; refine HT.out.mono ?_; rintro e w1 ⟨rfl, hb1⟩; have c1 := bA.trans (hb1.mono bA.size); have hbx1 := hbx.kept hb1; have q1 := hbx1.cell 0 _ rfl; have q2 := hbx1.lt)
    | (go_at_call 108; refine (HP.out _ c1).mono ?_; rintro e w2 ⟨v2, rfl, hb2, own2⟩; obtain ⟨Ap, cp, rfl⟩ := (Reads.of_own own2).form))
  obtain ⟨ps, hps⟩ : ∃ ps, cutN l b = ps := ⟨_, rfl⟩
  rw [hps] at own2 HTN ⊢
  have HPS := Lib.hid hps
  have c2 := c1.trans (hb2.mono c1.size)
  have hbx2 := hbx1.kept hb2
  have hpl : ps.length ≤ l.length := by rw [← hps]; exact cutS_len _ _ _
  have HO2 := Lib.hid own2
  clear own2 q1 q2 hbx1 hb1 hb2 hbx hps
  go_loopw [7, 8, 36] (BtRel w2 l r ps) (fun _ _ i _ => ps.length - (intOf i).toNat)
  case atStart => exact ⟨0, by omega, rfl, Below.refl _ _, World.ownsRow_nil _ _ _ _, World.ownsRow_nil _ _ _ _, (fun g hg => by cases hg), (fun p hp => by simp at hp), Nat.le_refl _, Nat.le_refl _⟩
  case round =>
    obtain ⟨k, hk, rfl, hb, ownB, ownI, hap, hfit, hBl, hIl⟩ := hrel
    have cb := c2.trans (hb.mono c2.size)
    have hbx3 := hbx2.kept hb
    by_cases hlt : k < ps.length
    · obtain ⟨p, hp⟩ : ∃ p, ps[k]? = some p := ⟨_, List.getElem?_eq_getElem hlt⟩
      have hpm := cutS_mem (l := l) (size := b) (i := l.length) (p := p) (by have := List.mem_of_getElem? hp; rw [← HPS.out] at this; exact this)
      obtain ⟨x, hx⟩ : ∃ x, l[p.1]? = some x := ⟨_, List.getElem?_eq_getElem (by omega)⟩
      obtain ⟨b0, o, rfl, hbl, _⟩ := H.out.cell_at hx
      obtain ⟨hpv, hpr⟩ := piece_reads H.out rfl hpm.1 hpm.2 hcap
      obtain ⟨b2, o2, rfl, hbl2, hcv⟩ := (Reads.of_own (own_kept HO2.out hb)).val_at (k := k) (v := .slice (some ⟨b0, o + p.1 * 4, none⟩) (pieceL l p).length (cap - p.1)) (by rw [List.getElem?_map, hp, Option.map_some, hpv])
      obtain ⟨PL, hPL⟩ : ∃ PL, pieceL l p = PL := ⟨_, rfl⟩
      have hPLl : 1 ≤ PL.length ∧ PL.length ≤ 65536 := by rw [← hPL, pieceL_len hpm.2]; omega
      have hx0 : PL[0]? = some x := by rw [← hPL, pieceL_get (by omega)]; exact hx
      have HBD := Lib.hid (fun (W : World) (hb : Below w.heap.size w W) => build_spec (hpr.kept hb) (by rw [hPL]; omega) (fun c hc => HS.out c (pieceL_mem hc)) (r : Int))
      have hcx := (hpr.kept cb).cell_at (k := 0) (by rw [hPL]; exact hx0)
      have hpc := pieceL_check (p := p) HCL.out
      have hent := entN_eq (l := l) (r := r) hp
      rw [keyB_eq hx] at hent
      have hps1 := partB_succ (l := l) (r := r) hp
      rw [hPL] at hpr hcv HBD hpc hent hps1
      obtain ⟨b', o', e', _, d0, _, _, _⟩ := hcx
      cases e'
      rw [Nat.zero_mul, Nat.add_zero] at d0
      obtain ⟨oo, hoo⟩ : ∃ oo, o + p.1 * 4 = oo := ⟨_, rfl⟩
      obtain ⟨pc, hpc2⟩ : ∃ pc, cap - p.1 = pc := ⟨_, rfl⟩
      have q3 : wr.cell? ⟨w.heap.size, 1, none⟩ = some (.int .i64 (r : Nat)) := hbx3.cell 1 _ rfl
      have q4 := hbx3.lt
      have HBw := Lib.hid (HBD.out wr cb)
      rw [hoo, hpc2] at hpr hcv HBw
      rw [hoo] at d0
      have hBN : buildN PL (r : Int) = if (blockN PL r).length ≤ 65536 then (blockN PL r, 0) else ([], 3) := by
        unfold buildN
        rw [if_neg (by omega), if_neg (by rw [hpc]; simp), Int.toNat_natCast]
      have j0 : (0 : Int) ≤ (k : Int) := by omega
      have j1 : (k : Int) < (ps.length : Int) := by omega
      have j2 : (0 : Int) < (PL.length : Int) := by omega
      have hkx : x.key.size ≤ 128 := (HSZ.out x (List.mem_of_getElem? hx)).1
      have HX := Lib.hid hp
      have HPL := Lib.hid hPL
      clear hPL hoo hpc2 hpc hx0 hx HBD hpr hpv HP HT
      by_cases hfp : (blockN PL r).length ≤ 65536
      · rw [hBN, if_pos hfp] at HBw
        obtain ⟨E, hE⟩ : ∃ E, blockN PL r = E := ⟨_, rfl⟩
        obtain ⟨Bk, hBk⟩ : ∃ Bk, partB l r ps k = Bk := ⟨_, rfl⟩
        obtain ⟨Ik, hIk⟩ : ∃ Ik, partI l r ps k = Ik := ⟨_, rfl⟩
        rw [hE] at HBw hfp hps1 hent
        rw [hBk] at ownB hBl hps1 hent
        rw [hIk] at ownI hIl
        obtain ⟨A7, c7, rfl⟩ := (Reads.of_own ownB).form
        obtain ⟨A8, c8, rfl⟩ := (Reads.of_own ownI).form
        have hst : WM.putW 1048576 (WM.putW 1048576 (WM.putW 1048576 (some []) (WM.textN x.key)) (varN Bk.length)) (varN E.length) = some (entN l r ps k) := by
          rw [WM.putW_append, WM.putW_append, ← hent]
          refine WM.putW_nil _ ?_
          have e1 := textN_len hkx
          have e2 := varN_len 9 Bk.length (by omega)
          have e3 := varN_len 9 E.length (by omega)
          rw [hent]; simp only [List.length_append]; omega
        have hel : (entN l r ps k).length ≤ 158 := by
          have e1 := textN_len hkx
          have e2 := varN_len 9 Bk.length (by omega)
          have e3 := varN_len 9 E.length (by omega)
          rw [hent]; simp only [List.length_append]; omega
        obtain ⟨ent, hentn⟩ : ∃ ent, entN l r ps k = ent := ⟨_, rfl⟩
        rw [hentn] at hst hel
        have u1 : IntKind.u64.wrap (Bk.length : Int) = (Bk.length : Int) := by rw [IntKind.wrap_u64]; omega
        have u2 : IntKind.u64.wrap (E.length : Int) = (E.length : Int) := by rw [IntKind.wrap_u64]; omega
        have HST := Lib.hid hst
        have HEN := Lib.hid hentn
        have HPB := Lib.hid hps1
        have HBK := Lib.hid hBk
        have HIK := Lib.hid hIk
        have HE := Lib.hid hE
        have HOB := Lib.hid ownB
        have HOI := Lib.hid ownI
        clear hent hst hentn hps1 hBk hIk hE hBN ownB ownI
        go_wp2_with (first
          | (go_at_call 37; refine HBw.out.mono ?_; rintro e w3 ⟨rfl, hb3⟩)
          | (go_at_call 83; refine (WM.writer_new (M := 1048576) (by decide) _).mono ?_; rintro e w4 ⟨rfl, hw4, hb4, hs4⟩; have d4 := cell_keep hb4 (cell_keep hb3 d0); have dl := Nat.lt_of_lt_of_le hbl (Nat.le_trans cb.size (Nat.le_trans hb3.size hb4.size))))
        obtain ⟨pw, hpw⟩ : ∃ pw, w3.heap.size = pw := ⟨_, rfl⟩
        have G4 : WM.WrG 1048576 w3 pw (some []) (fun _ => False) w4 := ⟨⟨_, by rw [← hpw]; exact hw4, fun k hk => hk.elim⟩, hb4⟩
        rw [hpw]
        clear hw4 hs4 hpw hb4
        refine (G4.text x.key (by omega)).mono ?_
        rintro e w5 ⟨rfl, G5, _, s5⟩
        clear G4 d4 dl
        go_wp2_with fail
        refine (G5.varint Bk.length (by omega)).mono ?_
        rintro e w6 ⟨rfl, G6, _, s6⟩
        clear G5
        go_wp2_with fail
        refine (G6.varint E.length (by omega)).mono ?_
        rintro e w7 ⟨rfl, G7, _, s7⟩
        clear G6
        rw [HST.out] at G7
        go_wp2_with fail
        refine G7.done.mono ?_
        rintro e w8 ⟨rfl, rfl⟩
        have hb7 := hb3.trans (G7.below.mono hb3.size)
        have r7 := own_kept HOB.out hb7
        have r8 := own_kept HOI.out hb7
        have p1 : Ik.length + ent.length ≤ maxLen := by unfold maxLen; omega
        have p2 : Ik.length + ent.length ≤ 140737488355328 := by omega
        have p3 : w2.heap.size ≤ w7.heap.size := Nat.le_trans hb.size hb7.size
        have p4 : Bk.length + E.length ≤ maxLen := by unfold maxLen; omega
        have p5 : Bk.length + E.length ≤ 140737488355328 := by omega
        clear G7
        go_upto_region 17 with (at_builtin; refine wpList_append_text rfl _ _ 74 9 rfl w2.heap.size 5 i0 Try.underlying74 Try.underlying9 hi hz0 hz1 hz2 _ Ik.length (bv Ik) rfl r8 ⟨ent.toArray⟩ rfl p1 p2 p3 ?_; intro v8 wi own8 hg8 hf8 _)
        replace hg8 : w7.grownBy wi (Value.slice A8 Ik.length c8).ownBlock := hg8
        replace hf8 : ∀ g, v8.ownBlock = some g → (Value.slice A8 Ik.length c8).ownBlock = some g ∨ w7.heap.size ≤ g := hf8
        replace own8 : wi.ownsRow w2.heap.size 5 1 v8 (Ik ++ ent).length (bv (Ik ++ ent)) := by
          rw [List.length_append, bv_append]; exact own8
        have r7i : wi.ownsRow w2.heap.size 5 1 (Value.slice A7 Bk.length c7) Bk.length (bv Bk) := r7.kept hg8 (by
          cases hv : (Value.slice A7 Bk.length c7).ownBlock with
          | none => exact .inl rfl
          | some g => exact .inr (fun e => hap g hv e.symm))
        have hap8 : Apart (Value.slice A7 Bk.length c7) v8 := fun g hg e => by
          rcases hf8 g e with h | h
          · exact hap g hg h
          · have := (r7.lt g hg).2; omega
        have p6 : w2.heap.size ≤ wi.heap.size := Nat.le_trans p3 hg8.size
        have hbi := (hb.trans (hb7.mono hb.size)).grown hg8 p3 (fun z hz => (r8.lt z hz).1)
        have HO8 := Lib.hid own8
        clear own8 r8 r7 hf8
        go_wp2_with (at_builtin; refine wpList_append_text rfl _ _ 74 9 rfl w2.heap.size 5 i0 Try.underlying74 Try.underlying9 hi hz0 hz1 hz2 _ Bk.length (bv Bk) rfl r7i ⟨E.toArray⟩ rfl p4 p5 p6 ?_; intro v9 wj own9 hg9 hf9 _)
        replace hg9 : wi.grownBy wj (Value.slice A7 Bk.length c7).ownBlock := hg9
        replace hf9 : ∀ g, v9.ownBlock = some g → (Value.slice A7 Bk.length c7).ownBlock = some g ∨ wi.heap.size ≤ g := hf9
        replace own9 : wj.ownsRow w2.heap.size 5 1 v9 (Bk ++ E).length (bv (Bk ++ E)) := by
          rw [List.length_append, bv_append]; exact own9
        have r8j := HO8.out.kept hg9 (by
          cases hv : v8.ownBlock with
          | none => exact .inl rfl
          | some g => exact .inr (fun e => hap8 g e.symm hv))
        have hap9 : Apart v9 v8 := fun g hg e => by
          rcases hf9 g hg with h | h
          · exact hap8 g h e
          · have := (HO8.out.lt g e).2; omega
        have hbj := hbi.grown hg9 p6 (fun z hz => (r7i.lt z hz).1)
        go_roundw
        case rel =>
          refine ⟨k + 1, by omega, by go_num, hbj, by rw [HPB.out]; exact own9, by rw [partI_succ, HIK.out, HEN.out]; exact r8j, hap9, ?_, ?_, ?_⟩
          · intro p' hp'
            rw [take_snoc HX.out] at hp'
            rcases List.mem_append.1 hp' with h | h
            · exact hfit p' h
            · obtain rfl : p' = p := by simpa using h
              rw [HPL.out, HE.out]; exact hfp
          · rw [HPB.out, List.length_append, Nat.succ_mul]; omega
          · rw [partI_succ, HIK.out, HEN.out, List.length_append, Nat.succ_mul]; omega
        case measure => simp [intOf]; omega
      · rw [hBN, if_neg hfp] at HBw
        have HN := Lib.hid (show N = ([], 3) by
          rw [HTN.out, if_pos]
          intro hf
          exact hfp (by have := hf p (List.mem_of_getElem? HX.out); rw [HPL.out] at this; exact this))
        clear hent hps1 hBN ownB ownI
        go_wp2_with (go_at_call 37; refine HBw.out.mono ?_; rintro e w3 ⟨rfl, hb3⟩)
        go_ret2
        exact ⟨_, by rw [HN.out]; rfl, by rw [HN.out]; exact World.ownsRow_nil _ _ _ _, cb.trans (hb3.mono cb.size)⟩
    · obtain rfl : k = ps.length := by omega
      rw [List.take_length] at hfit
      have hN2 : N = if 1048576 < (bytesT l b r t).length then ([], 3) else (bytesT l b r t, 0) := by
        rw [HTN.out, if_neg (fun h => h hfit)]
      have hB : bodyT l b r = partB l r ps ps.length := by unfold bodyT; rw [HPS.out]
      have hI : indexT l b r = partI l r ps ps.length := by unfold indexT; rw [HPS.out]
      rw [← hB] at ownB hBl
      rw [← hI] at ownI hIl
      obtain ⟨BB, hBB⟩ : ∃ BB, bodyT l b r = BB := ⟨_, rfl⟩
      obtain ⟨II, hII⟩ : ∃ II, indexT l b r = II := ⟨_, rfl⟩
      have hbt : bytesT l b r t = wholeN BB (filterN (keysN l) t) II l.length b r t := by unfold bytesT; rw [hBB, hII]
      rw [hBB] at ownB hBl
      rw [hII] at ownI hIl
      rw [hbt] at hN2
      have hBl2 : BB.length ≤ 4294967296 := Nat.le_trans hBl (by omega)
      have hIl2 : II.length ≤ 10354688 := Nat.le_trans hIl (by omega)
      have HN := Lib.hid hN2
      have HOB := Lib.hid ownB
      have HOI := Lib.hid ownI
      clear hB hI hBB hII hbt hN2 hfit HTN hBl hIl ownB ownI hk hlt HP HT HO2
      have q5 : wr.cell? ⟨w.heap.size, 2, none⟩ = some (.int .i64 (t : Nat)) := hbx3.cell 2 _ rfl
      have q6 := hbx3.lt
      have hkN : (keysN l).length ≤ 65536 := Nat.le_trans (keysS_len l l.length) hl
      have hkS : ∀ s ∈ keysN l, s.size ≤ 128 := fun s hs => by
        obtain ⟨c, hc, rfl⟩ := keysN_mem hs
        exact (HSZ.out c hc).1
      obtain ⟨KS, hKS⟩ : ∃ KS, keysN l = KS := ⟨_, rfl⟩
      have HK := Lib.hid (fun (W : World) (hb : Below w.heap.size w W) => keys_spec (H.out.kept hb) hl)
      rw [hKS] at hkN hkS HN
      simp only [hKS] at HK
      clear hKS
      go_wp2_with fail
      refine region_plan (S := fun w' => w'.cell? ⟨w.heap.size, 2, none⟩ = some (.int .i64 (t : Nat))) ((0, true) :: (2, true) :: (3, true) :: (1, false) :: (4, false) :: (5, true) :: (6, true) :: (7, true) :: (8, true) :: (9, true) :: [])
        (by kernel_rfl) (by kernel_rfl) (by kernel_rfl) (by kernel_rfl) (fun _ _ _ dst _ h => by cases dst <;> exact h) q5 (fun hH => ?_)
      (repeat (first | (refine plan_take (v := ?_) (by (simp only [List.getElem?_toArray, List.getElem?_cons_succ, List.getElem?_cons_zero]; exact rfl)) (by rfl) ?_ ?_; rotate_left; (focus (intro wS hS; (try dsimp only at hS); go_split_ands; go_simp; (try with_reducible rfl))); simp only [Act.put, List.setIfInBounds_toArray, List.set_cons_zero, List.set_cons_succ]) | (refine plan_skip (by (simp only [List.getElem?_toArray, List.getElem?_cons_succ, List.getElem?_cons_zero]; exact rfl)) (by rfl) ?_; simp only [Act.put, List.setIfInBounds_toArray, List.set_cons_zero, List.set_cons_succ])))
      (refine plan_solo (by (simp only [List.getElem?_toArray, List.getElem?_cons_succ, List.getElem?_cons_zero]; exact rfl)) (by rfl) ?_; intro K hK; go_simp)
      have cd := cb.drew
      refine (HK.out _ cd).mono ?_
      rintro e w4 ⟨v4, rfl, hb4, own4⟩
      obtain ⟨A4, c4, rfl⟩ := (Reads.of_own own4).form
      refine hK.out _ _ (cell_keep hb4 q5) (fun hH => ?_)
      clear hK K
      try simp only [Act.put, List.setIfInBounds_toArray, List.set_cons_zero, List.set_cons_succ]
      (repeat (first | (refine plan_take (v := ?_) (by (simp only [List.getElem?_toArray, List.getElem?_cons_succ, List.getElem?_cons_zero]; exact rfl)) (by rfl) ?_ ?_; rotate_left; (focus (intro wS hS; (try dsimp only at hS); go_split_ands; go_simp; (try with_reducible rfl))); simp only [Act.put, List.setIfInBounds_toArray, List.set_cons_zero, List.set_cons_succ]) | (refine plan_skip (by (simp only [List.getElem?_toArray, List.getElem?_cons_succ, List.getElem?_cons_zero]; exact rfl)) (by rfl) ?_; simp only [Act.put, List.setIfInBounds_toArray, List.set_cons_zero, List.set_cons_succ])))
      (refine plan_solo (by (simp only [List.getElem?_toArray, List.getElem?_cons_succ, List.getElem?_cons_zero]; exact rfl)) (by rfl) ?_; intro K hK; go_simp)
      refine (filter_main (Reads.of_own own4) hkN hkS t (by omega) (by omega)).mono ?_
      rintro e w5 ⟨v5, rfl, own5, hb5⟩
      refine hK.out _ _ (cell_keep hb5 (cell_keep hb4 q5)) (fun hH => ?_)
      clear hK K
      try simp only [Act.put, List.setIfInBounds_toArray, List.set_cons_zero, List.set_cons_succ]
      (repeat (first | (refine plan_take (v := ?_) (by (simp only [List.getElem?_toArray, List.getElem?_cons_succ, List.getElem?_cons_zero]; exact rfl)) (by rfl) ?_ ?_; rotate_left; (focus (intro wS hS; (try dsimp only at hS); go_split_ands; go_simp; (try with_reducible rfl))); simp only [Act.put, List.setIfInBounds_toArray, List.set_cons_zero, List.set_cons_succ]) | (refine plan_skip (by (simp only [List.getElem?_toArray, List.getElem?_cons_succ, List.getElem?_cons_zero]; exact rfl)) (by rfl) ?_; simp only [Act.put, List.setIfInBounds_toArray, List.set_cons_zero, List.set_cons_succ])))
      refine plan_nil ?_
      have c4' := cd.trans (hb4.mono cd.size)
      have c5' := c4'.trans (hb5.mono c4'.size)
      have hb5' := (Below.refl wr.heap.size wr).drew.trans (hb4.trans (hb5.mono hb4.size))
      have OB := own_kept HOB.out hb5'
      have OI := own_kept HOI.out hb5'
      obtain ⟨FF, hFF⟩ : ∃ FF, filterN KS t = FF := ⟨_, rfl⟩
      have hFl : FF.length ≤ 300000 := by
        rw [← hFF, filterN_len]
        have h1 := (fM_facts KS.length t).choose_spec.2.2
        have h2 : KS.length * t ≤ 65536 * 32 := Nat.mul_le_mul hkN (by omega)
        omega
      rw [hFF] at own5 HN
      obtain ⟨A7, c7, rfl⟩ := (Reads.of_own OB).form
      obtain ⟨A8, c8, rfl⟩ := (Reads.of_own OI).form
      obtain ⟨A9, c9, rfl⟩ := (Reads.of_own own5).form
      have qb := cell_keep hb5' (hbx3.cell 0 _ rfl : wr.cell? ⟨w.heap.size, 0, none⟩ = some (.int .i64 (b : Nat)))
      have qr := cell_keep hb5' (hbx3.cell 1 _ rfl : wr.cell? ⟨w.heap.size, 1, none⟩ = some (.int .i64 (r : Nat)))
      have qt := cell_keep hb5' (hbx3.cell 2 _ rfl : wr.cell? ⟨w.heap.size, 2, none⟩ = some (.int .i64 (t : Nat)))
      have ql := Nat.lt_of_lt_of_le hbx3.lt hb5'.size
      have HCC := Lib.hid (concat_spec (cap := 2) (rows_two (SrcIs.of_own own5) (SrcIs.of_own OI) 74) (by simp; omega) (by simp))
      have hfl2 : [FF, II].flatten = FF ++ II := by simp
      rw [hfl2] at HCC
      obtain ⟨TT, hTT⟩ : ∃ TT, FF ++ II = TT := ⟨_, rfl⟩
      have hTl : TT.length ≤ 10700000 := by rw [← hTT, List.length_append]; omega
      rw [hTT] at HCC
      have hba := (Below.refl w5.heap.size w5).alloc (Nat.le_refl _) (.cells #[.slice A9 FF.length c9, .slice A8 II.length c8] 74)
      have HTT := Lib.hid hTT
      have HOB5 := Lib.hid OB
      clear hTT hfl2 hFF own4 own5 OB OI HOB HOI hb4 hb5 cd hkS hkN hH HK
      go_wp2_with (first
        | (go_at_call 112; refine HCC.out.mono ?_; rintro e w6 ⟨v6, rfl, own6, hb6⟩; have hb6' := hba.trans (hb6.mono hba.size); have qb6 := cell_keep hb6' qb; have qr6 := cell_keep hb6' qr; have qt6 := cell_keep hb6' qt; have ql6 := Nat.lt_of_lt_of_le ql hb6'.size)
        | (go_at_call 83; refine (WM.writer_new (M := 36) (by decide) _).mono ?_; rintro e w7 ⟨rfl, hw7, hb7, hs7⟩; have qb7 := cell_keep hb7 qb6; have ql7 := Nat.lt_of_lt_of_le ql6 hb7.size))
      obtain ⟨pw, hpw⟩ : ∃ pw, w6.heap.size = pw := ⟨_, rfl⟩
      rw [hpw] at hw7 hs7 ⊢
      obtain ⟨gi, hgi0⟩ : ∃ gi, pw + 1 = gi := ⟨_, rfl⟩
      rw [hgi0]
      have hgi : w7.heap.size = gi := hs7.trans hgi0
      obtain ⟨ns, hns⟩ : ∃ ns, [BB.length, FF.length, BB.length + FF.length, II.length, l.length, b] = ns := ⟨_, rfl⟩
      obtain ⟨arr, harr⟩ : ∃ arr, (ns.map fun n => Value.int .i64 ((n : Nat) : Int)).toArray = arr := ⟨_, rfl⟩
      have harr2 : arr = #[.int .i64 (BB.length : Nat), .int .i64 (FF.length : Nat), .int .i64 ((BB.length : Nat) + (FF.length : Nat)), .int .i64 (II.length : Nat), .int .i64 (l.length : Nat), .int .i64 (b : Nat)] := by
        rw [← harr, ← hns]; rfl
      have hnl : ns.length = 6 := by rw [← hns]; rfl
      have hW7 : WM.WrG 36 w6 pw (some []) (fun z => z = gi) (w7.alloc (.cells arr 3)) := by
        have hba7 := (Below.refl w7.heap.size w7).alloc (Nat.le_refl _) (.cells arr 3)
        refine ⟨⟨_, by rw [hpw]; exact hw7.kept hba7, fun k hk => ⟨fun h => ?_, ?_⟩⟩, hb7.trans (hba7.mono hb7.size)⟩
        · have h : k = pw := h
          have hk : k = gi := hk
          omega
        · have hk : k = gi := hk
          rw [hk, World.size_alloc]; omega
      have hB7 : Blk (w7.alloc (.cells arr 3)) gi arr 3 := by rw [← hgi]; exact Blk.new _ _ _
      rw [harr2] at hW7 hB7
      have HNS := Lib.hid hns
      have HAR := Lib.hid harr
      have HAR2 := Lib.hid harr2
      clear hw7 hs7 hgi hgi0 hns harr
      go_loopw [112] (FtRel w6 pw gi ns arr) (fun i _ => 6 - (intOf i).toNat)
      case atStart => exact ⟨0, Nat.zero_le _, rfl, hW7, by rw [HAR2.out]; exact hB7⟩
      case round =>
        obtain ⟨k, hk, rfl, hG, hBk⟩ := hrel
        by_cases hlt : k < 6
        · obtain ⟨q, hq⟩ : ∃ q, ns[k]? = some q := ⟨_, List.getElem?_eq_getElem (by omega)⟩
          have g0 : wr.cell? ⟨gi, k, none⟩ = some (.int .i64 (q : Nat)) := hBk.cell k _ (by rw [← HAR.out]; simp [hq])
          have g1 := hBk.lt
          have k0 : (0 : Int) ≤ (k : Int) := by omega
          have k1 : (k : Int) < 6 := by omega
          have HQ := Lib.hid hq
          clear hq
          go_wp2_with fail
          refine (hG.u32 (q % 4294967296) (Nat.mod_lt _ (by decide))).mono ?_
          rintro e w8 ⟨rfl, U8, G8, s8⟩
          have HU := Lib.hid U8
          have hB8 := blk_same hBk (G8 gi rfl)
          clear U8 hG
          go_wp2_with fail
          go_roundw
          case rel =>
            refine ⟨k + 1, by omega, by go_num, ?_, hB8⟩
            have h := HU.out
            rw [WM.putW_append] at h
            rw [List.take_add_one, HQ.out, List.flatMap_append]
            simpa [m32] using h
          case measure => simp [intOf]; omega
        · obtain rfl : k = 6 := by omega
          rw [List.take_of_length_le (by omega)] at hG
          obtain ⟨A6, c6', rfl⟩ := (Reads.of_own own6).form
          have e6 := hG.below
          have qr8 := cell_keep e6 qr6
          have ql8 := Nat.lt_of_lt_of_le ql6 e6.size
          have u1 : IntKind.u16.wrap (r : Int) = (r : Int) := by rw [IntKind.wrap_u16]; omega
          have u2 : IntKind.u16.wrap (t : Int) = (t : Int) := by rw [IntKind.wrap_u16]; omega
          obtain ⟨F0, hF0⟩ : ∃ F0, foot0 BB.length FF.length II.length l.length b r t = F0 := ⟨_, rfl⟩
          have hF0l : F0.length = 28 := by rw [← hF0]; rfl
          have hst : WM.putW 36 (WM.putW 36 (WM.putW 36 (some []) (ns.flatMap m32)) (be2 r)) (be2 t) = some F0 := by
            rw [WM.putW_append, WM.putW_append]
            have e : ns.flatMap m32 ++ (be2 r ++ be2 t) = F0 := by rw [← HNS.out, ← hF0]; rfl
            rw [e]
            exact WM.putW_nil _ (by omega)
          have HST := Lib.hid hst
          have HF0 := Lib.hid hF0
          clear hst hF0 hW7 hB7 harr2 hBk
          go_wp2_with fail
          refine (hG.u16 r (by omega)).mono ?_
          rintro e w8 ⟨rfl, U8, _, s8⟩
          have qt8 := cell_keep U8.below qt6
          have ql9 := Nat.lt_of_lt_of_le ql6 U8.below.size
          clear hG
          go_wp2_with fail
          refine (U8.u16 t (by omega)).mono ?_
          rintro e w9 ⟨rfl, U9, _, s9⟩
          clear U8
          rw [HST.out] at U9
          go_wp2_with fail
          refine U9.done.mono ?_
          rintro e w10 ⟨rfl, rfl⟩
          have r6 := own_kept own6 U9.below
          have hcv := conv_own r6
          have hadd : ∀ W, (Op.stringOp .add ⟨TT.toArray⟩ (WM.strW (some F0))).run Try.prog W = .ok (.string ⟨(TT ++ F0).toArray⟩) W := fun W => by
            have h1 := run_string_add_sum (P := Try.prog) W ⟨TT.toArray⟩ ⟨F0.toArray⟩ (by show TT.toArray.size + F0.toArray.size ≤ _; simp; omega)
            rw [ByteArray.mk_append_mk] at h1
            exact h1
          have hTF : (TT ++ F0).length ≤ 9223372036854775807 := by rw [List.length_append]; omega
          obtain ⟨CC, hCC⟩ : ∃ CC, crcN (TT ++ F0) = CC := ⟨_, rfl⟩
          have hCl : CC < 4294967296 := by rw [← hCC]; exact crcN_lt _
          have HCC2 := Lib.hid hCC
          go_wp2_with fail
          refine (crc_spec ⟨(TT ++ F0).toArray⟩ _ (by show (TT ++ F0).toArray.size ≤ _; simpa using hTF)).mono ?_
          rintro e w10 ⟨rfl, rfl⟩
          rw [show (⟨(TT ++ F0).toArray⟩ : ByteArray).data.toList = TT ++ F0 from rfl, hCC]
          clear hCC hadd hcv
          go_wp2_with fail
          refine (U9.u32 CC hCl).mono ?_
          rintro e w10 ⟨rfl, U10, _, s10⟩
          clear r6 U9
          go_wp2_with fail
          refine (U10.raw ⟨#[65, 84, 66, 76]⟩).mono ?_
          rintro e w11 ⟨rfl, U11, _, s11⟩
          clear U10
          obtain ⟨F1, hF1⟩ : ∃ F1, F0 ++ (be4 CC ++ magicN) = F1 := ⟨_, rfl⟩
          have hF1l : F1.length = 36 := by rw [← hF1, List.length_append, hF0l]; rfl
          have hst2 : WM.putW 36 (WM.putW 36 (some F0) (be4 CC)) (⟨#[65, 84, 66, 76]⟩ : ByteArray).data.toList = some F1 := by
            rw [WM.putW_append]
            show (if ((36 : Nat) : Int) - F0.length < (be4 CC ++ [65, 84, 66, 76]).length then none else some (F0 ++ (be4 CC ++ [65, 84, 66, 76]))) = _
            rw [if_neg (by rw [hF0l]; simp [be4_len]), ← hF1]
            rfl
          rw [hst2] at U11
          have HF1 := Lib.hid hF1
          clear hst2 hF1
          go_wp2_with fail
          refine U11.done.mono ?_
          rintro e w12 ⟨rfl, rfl⟩
          have hb11 := U11.below
          have OT := own_kept own6 hb11
          have OB := own_kept HOB5.out (hb6'.trans (hb11.mono hb6'.size))
          have cE := c5'.trans ((hb6'.trans (hb11.mono hb6'.size)).mono c5'.size)
          have hcv : ∀ W, (convert 9 74 (.string (WM.strW (some F1)))).run Try.prog W = .ok (.slice (some ⟨W.heap.size, 0, none⟩) F1.length (grownCap W F1.length 0 5)) (Lib.bytesWorld W 5 ⟨F1.toArray⟩) := fun W => Lib.run_convert_string_bytes W 9 74 5 ⟨F1.toArray⟩ Try.underlying9 Try.underlying74 Try.underlying5
          have hbb := bytes_below w11 ⟨F1.toArray⟩
          have hs3 : SrcIs (Lib.bytesWorld w11 5 ⟨F1.toArray⟩) (.slice (some ⟨w11.heap.size, 0, none⟩) F1.length (grownCap w11 F1.length 0 5)) F1.length (bv F1) := by
            refine .inr ⟨_, _, rfl, fun j u hj => ?_⟩
            have hjl := (List.getElem?_eq_some_iff.1 hj).1
            rw [bv_len] at hjl
            rw [add_at rfl]
            show World.cell? _ ⟨w11.heap.size, 0 + j, none⟩ = _
            rw [Nat.zero_add, Lib.bytesWorld_cell w11 5 ⟨F1.toArray⟩ j (by show j < F1.toArray.size; simpa using hjl)]
            unfold bv at hj
            rw [List.getElem?_map, List.getElem?_eq_getElem hjl] at hj
            simp at hj
            subst hj
            simp [List.getD, List.getElem?_eq_getElem hjl]
          have HC3 := concat_spec (cap := 3) (rows_three ((SrcIs.of_own OB).kept hbb) ((SrcIs.of_own OT).kept hbb) hs3 74) (by simp only [List.flatten_cons, List.flatten_nil, List.length_append, List.length_nil]; omega) (by simp)
          have hw3 : [BB, TT, F1].flatten = wholeN BB FF II l.length b r t := by
            have e : wholeN BB FF II l.length b r t = BB ++ (FF ++ (II ++ (F0 ++ (be4 (crcN (FF ++ (II ++ F0))) ++ magicN)))) := by unfold wholeN; rw [HF0.out]
            have e2 : FF ++ (II ++ F0) = TT ++ F0 := by rw [← HTT.out, List.append_assoc]
            rw [e, e2, HCC2.out, HF1.out, ← HTT.out]
            simp [List.append_assoc]
          rw [hw3] at HC3
          obtain ⟨WW, hWW⟩ : ∃ WW, wholeN BB FF II l.length b r t = WW := ⟨_, rfl⟩
          rw [hWW] at HC3 HN
          have hcE := cE.trans (hbb.mono cE.size)
          have hbc := (Below.refl (Lib.bytesWorld w11 5 ⟨F1.toArray⟩).heap.size (Lib.bytesWorld w11 5 ⟨F1.toArray⟩)).alloc (Nat.le_refl _) (.cells #[.slice A7 BB.length c7, .slice A6 TT.length c6', .slice (some ⟨w11.heap.size, 0, none⟩) F1.length (grownCap w11 F1.length 0 5)] 74)
          have hcF := hcE.trans (hbc.mono hcE.size)
          have HC := Lib.hid HC3
          clear HC3 hw3 hWW hs3 OT OB own6 U11 hF1l hb6 hb7 qb7 ql7 ql8 ql9 qr8 qt8 e6 hb11 cE hbb
          by_cases hbig : 1048576 < WW.length
          · have hN := HN.out
            rw [if_pos hbig] at hN
            have hbi : (1048576 : Int) < (WW.length : Int) := by omega
            have HNN := Lib.hid hN
            clear hN
            go_wp2_with (go_at_call 112; refine HC.out.mono ?_; rintro e w12 ⟨v12, rfl, own12, hb12⟩; obtain ⟨A12, c12, rfl⟩ := (Reads.of_own own12).form)
            go_ret2
            exact ⟨_, by rw [HNN.out]; rfl, by rw [HNN.out]; exact World.ownsRow_nil _ _ _ _, hcF.trans (hb12.mono hcF.size)⟩
          · have hN := HN.out
            rw [if_neg hbig] at hN
            have hbi : (WW.length : Int) ≤ 1048576 := by omega
            have HNN := Lib.hid hN
            clear hN
            go_wp2_with (go_at_call 112; refine HC.out.mono ?_; rintro e w12 ⟨v12, rfl, own12, hb12⟩; obtain ⟨A12, c12, rfl⟩ := (Reads.of_own own12).form)
            go_ret2
            exact ⟨_, by rw [HNN.out]; rfl, by rw [HNN.out]; exact own12.mono hcF.size, hcF.trans (hb12.mono hcF.size)⟩
set_option maxRecDepth 100000 in
set_option maxHeartbeats 1000000 in
theorem tbuild_spec {w : World} {A : Option Addr} {cap : Nat} {l : List Cell} (h : Reads w (.slice A l.length cap) l.length 4 (cellVals l)) (hcap : l.length ≤ cap) (hl : l.length ≤ 2932031007402) (hs : ∀ c ∈ l, 0 ≤ c.seq) (b r t : Int) :
    Calls Try.prog 54 #[.slice A l.length cap, .agg #[.int .i64 b, .int .i64 r, .int .i64 t]] w (TBuildPost w (tableN l b r t)) := by
  by_cases hc : checkT l b r t = 0
  · obtain ⟨s1, _⟩ := checkT_ok hc
    obtain ⟨b', rfl⟩ : ∃ b' : Nat, b = b' := ⟨b.toNat, by omega⟩
    obtain ⟨r', rfl⟩ : ∃ r' : Nat, r = r' := ⟨r.toNat, by omega⟩
    obtain ⟨t', rfl⟩ : ∃ t' : Nat, t = t' := ⟨t.toNat, by omega⟩
    exact tbuild_main h hcap hs b' r' t' hc
  · have bA := (Below.refl w.heap.size w).alloc (Nat.le_refl _) (.cells #[.int .i64 b, .int .i64 r, .int .i64 t] 89)
    have HT := Lib.hid (table_check (h.kept bA) hl b r t)
    have HN := Lib.hid (show tableN l b r t = ([], checkT l b r t) by unfold tableN; rw [if_pos hc])
    obtain ⟨z, hz⟩ : ∃ z, checkT l b r t = z := ⟨_, rfl⟩
    rw [hz] at HT HN hc
    have hne : (z == 0) = false := by simpa using hc
    have hq := (Blk.new w #[.int .i64 b, .int .i64 r, .int .i64 t] 89)
    clear h hz
    go_enter Try.func54, Try.ntmps54
    go_wp2_with (go_at_call 107; refine HT.out.mono ?_; rintro e w1 ⟨rfl, hb1⟩)
    go_ret2
    exact ⟨_, by rw [HN.out]; rfl, by rw [HN.out]; exact World.ownsRow_nil _ _ _ _, bA.trans (hb1.mono bA.size)⟩
end Go.Proofs.Ytbcaiegglbdonaa
