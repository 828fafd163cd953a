/-
  The law MemSnapshots is proved: called with any two slices of cells and any cell, it returns true and leaves its arguments as they were (a reader at a moment is not disturbed by whatever is written later). Conditions: none of its own.
-/
import Derived.Test.YtbcaiegglbdonaaCellEq
namespace Go.Proofs.Ytbcaiegglbdonaa
open Go.RowKit

/-! ### Plain: what is written later does not disturb -/
theorem behind_insert_ahead {key : ByteArray} {seq : Int} (A B : MM) (x : Cell × Nat) (hs : SortedM (A ++ x :: B)) (hx : PLt x.1.key x.1.seq key seq) : behindM (A ++ x :: B) key seq = behindM (A ++ B) key seq := by
  have hA : ∀ y ∈ A, ahd key seq y = true := fun y hy => decide_eq_true (((List.pairwise_append.1 hs).2.2 y hy x (by simp)).trans hx)
  unfold behindM
  rw [List.dropWhile_append_of_pos hA, List.dropWhile_append_of_pos hA, List.dropWhile_cons, if_pos (show ahd key seq x = true from decide_eq_true hx)]
theorem getM_put {M : MM} (hs : SortedM M) (c : Cell) (h : Int) (key : ByteArray) (seq : Int) (hc : seq < c.seq) : getM (putRes M c h).2 key seq = getM M key seq := by
  unfold putRes
  split
  · rfl
  · split
    · rfl
    · split
      · rfl
      · rename_i h1 h2 hh
        have hS : SortedM (aheadM M c.key c.seq ++ (c, h.toNat) :: behindM M c.key c.seq) := by
          have := sorted_put hs c h
          unfold putRes at this
          rwa [if_neg h1, if_neg h2, if_neg hh] at this
        show getM (aheadM M c.key c.seq ++ (c, h.toNat) :: behindM M c.key c.seq) key seq = getM M key seq
        have hab := ahead_behind M c.key c.seq
        by_cases hx : PLt c.key c.seq key seq
        · unfold getM
          rw [behind_insert_ahead _ _ _ hS hx, hab]
        · -- its key is greater
          have hk : SLt key c.key := by
            rcases SLt.total key c.key with h | h | h
            · exact h
            · exact absurd (.inr ⟨h.symm, hc⟩) hx
            · exact absurd (.inl h) hx
          have hne : ¬ c.key = key := fun e => by rw [e] at hk; exact SLt.irrefl _ hk
          have hx' : ahd key seq (c, h.toNat) = false := decide_eq_false hx
          -- whatever stands ahead of the place stands ahead of the cell
          have hsub : ∀ y ∈ behindM M c.key c.seq, ahd key seq y = false := fun y hy => by
            refine decide_eq_false fun hp => mem_behind hs hy (hp.trans (.inl hk))
          have hB : behindM M key seq = (aheadM M c.key c.seq).dropWhile (ahd key seq) ++ behindM M c.key c.seq := by
            have : behindM M key seq = behindM (aheadM M c.key c.seq ++ behindM M c.key c.seq) key seq := by rw [hab]
            rw [this]
            unfold behindM
            rw [List.dropWhile_append]
            split
            · rename_i he
              have he' : (aheadM M c.key c.seq).dropWhile (ahd key seq) = [] := by simpa using he
              rw [he', List.nil_append]
              cases hBB : List.dropWhile (ahd c.key c.seq) M with
              | nil => rfl
              | cons y B => rw [List.dropWhile_cons, if_neg]; rw [hsub y (by unfold behindM; rw [hBB]; simp)]; simp
            · rfl
          have hB' : behindM (aheadM M c.key c.seq ++ (c, h.toNat) :: behindM M c.key c.seq) key seq = (aheadM M c.key c.seq).dropWhile (ahd key seq) ++ (c, h.toNat) :: behindM M c.key c.seq := by
            show List.dropWhile _ _ = _
            rw [List.dropWhile_append]
            split
            · rename_i he
              have he' : (aheadM M c.key c.seq).dropWhile (ahd key seq) = [] := by simpa using he
              rw [he', List.nil_append, List.dropWhile_cons, if_neg (by rw [hx']; simp)]
            · rfl
          unfold getM
          rw [hB, hB']
          cases (aheadM M c.key c.seq).dropWhile (ahd key seq) with
          | cons y A => rfl
          | nil =>
            simp only [List.nil_append, if_neg hne]
            cases hBB : behindM M c.key c.seq with
            | nil => rfl
            | cons y B =>
              have hy := mem_behind hs (x := y) (by rw [hBB]; simp)
              have : ¬ y.1.key = key := fun e => hy (.inl (by rw [e]; exact hk))
              simp only [if_neg this]

def putAll (M : MM) (cs : List Cell) (h : Int) : MM := cs.foldl (fun M c => (putRes M c h).2) M
def putLater (seq : Int) (M : MM) (cs : List Cell) : MM := cs.foldl (fun M c => if seq < c.seq then (putRes M c 1).2 else M) M
theorem sorted_all (cs : List Cell) (h : Int) : ∀ {M : MM}, SortedM M → SortedM (putAll M cs h) := by
  induction cs with
  | nil => intro M hM; exact hM
  | cons c cs ih => intro M hM; exact ih (sorted_put hM c h)
theorem getM_later (key : ByteArray) (seq : Int) (cs : List Cell) : ∀ {M : MM}, SortedM M → getM (putLater seq M cs) key seq = getM M key seq := by
  induction cs with
  | nil => intro M _; rfl
  | cons c cs ih =>
    intro M hM
    show getM (putLater seq (if seq < c.seq then (putRes M c 1).2 else M) cs) key seq = _
    by_cases h : seq < c.seq
    · rw [if_pos h, ih (sorted_put hM c 1), getM_put hM c 1 key seq h]
    · rw [if_neg h, ih hM]
theorem putRes_len (M : MM) (c : Cell) (h : Int) : (putRes M c h).2.length ≤ M.length + 1 := by
  unfold putRes
  split
  · simp
  · split
    · simp
    · split
      · simp
      · have := congrArg List.length (ahead_behind M c.key c.seq)
        simp only [List.length_append] at this
        simp only [List.length_append, List.length_cons]
        omega
theorem putAll_len (cs : List Cell) (h : Int) : ∀ (M : MM), (putAll M cs h).length ≤ M.length + cs.length := by
  induction cs with
  | nil => intro M; simp [putAll]
  | cons c cs ih =>
    intro M
    have h1 := ih (putRes M c h).2
    have h2 := putRes_len M c h
    show (putAll (putRes M c h).2 cs h).length ≤ _
    simp only [List.length_cons]
    omega
theorem putLater_len (seq : Int) (cs : List Cell) : ∀ (M : MM), (putLater seq M cs).length ≤ M.length + cs.length := by
  induction cs with
  | nil => intro M; simp [putLater]
  | cons c cs ih =>
    intro M
    show (putLater seq (if seq < c.seq then (putRes M c 1).2 else M) cs).length ≤ _
    simp only [List.length_cons]
    split
    · have h1 := ih (putRes M c 1).2
      have h2 := putRes_len M c 1
      omega
    · have h1 := ih M
      omega
theorem putAll_snoc (M : MM) (cs : List Cell) (c : Cell) (h : Int) : putAll M (cs ++ [c]) h = (putRes (putAll M cs h) c h).2 := by simp [putAll, List.foldl_append]
theorem putLater_snoc (seq : Int) (M : MM) (cs : List Cell) (c : Cell) : putLater seq M (cs ++ [c]) = if seq < c.seq then (putRes (putLater seq M cs) c 1).2 else putLater seq M cs := by simp [putLater, List.foldl_append]

/-! ### The walk -/
/-- A table of the call's own, and what else is the call's own and stays. -/
structure Own (w0 : World) (a : Nat) (M : MM) (G : Nat → Prop) (w : World) : Prop where
  mem : ∃ F, MemIs w a F M ∧ (∀ k, F k → w0.heap.size ≤ k) ∧ ∀ k, G k → ¬ F k ∧ k < w.heap.size
  below : Below w0.heap.size w0 w
theorem Own.only {w0 w w' : World} {a : Nat} {M : MM} {G : Nat → Prop} (h : Own w0 a M G w) (hb : Below w.heap.size w w') : Own w0 a M G w' := by
  obtain ⟨F, h1, h2, h3⟩ := h.mem
  exact ⟨⟨F, h1.kept hb, h2, fun k hk => ⟨(h3 k hk).1, Nat.lt_of_lt_of_le (h3 k hk).2 hb.size⟩⟩, h.below.trans (hb.mono h.below.size)⟩
theorem Own.alloc {w0 w : World} {a : Nat} {M : MM} {G : Nat → Prop} (h : Own w0 a M G w) (o : Obj) : Own w0 a M G (w.alloc o) := h.only ((Below.refl _ _).alloc (Nat.le_refl _) o)
/-- One block more that stays. -/
theorem Own.more {w0 w : World} {a : Nat} {M : MM} {G : Nat → Prop} (h : Own w0 a M G w) (o : Obj) {b : Nat} (hb : b = w.heap.size) : Own w0 a M (fun k => G k ∨ k = b) (w.alloc o) := by
  subst hb
  obtain ⟨F, h1, h2, h3⟩ := (h.alloc o).mem
  obtain ⟨F0, g1, g2, g3⟩ := h.mem
  refine ⟨⟨F0, g1.kept ((Below.refl _ _).alloc (Nat.le_refl _) o), g2, ?_⟩, (h.alloc o).below⟩
  rintro k (hk | rfl)
  · exact ⟨(g3 k hk).1, by have := (g3 k hk).2; simp; omega⟩
  · exact ⟨fun hF => by have := g1.lt _ hF; omega, by simp⟩
theorem Own.put {w0 w : World} {a : Nat} {M : MM} {G : Nat → Prop} (h : Own w0 a M G w) (c : Cell) (hgt : Int) (hl : M.length ≤ 1099511627776000) :
    Calls Try.prog 22 #[.pointer (some ⟨a, 0, none⟩), .agg #[.string c.key, .int .u64 c.seq, .string c.val, .bool c.gone], .int .i64 hgt] w fun e w' => e = .returned (.int .i64 (putRes M c hgt).1) ∧ Own w0 a (putRes M c hgt).2 G w' ∧ ∀ b arr t, G b → Blk w b arr t → Blk w' b arr t := by
  obtain ⟨F, h1, h2, h3⟩ := h.mem
  refine (put_model h1 c hgt hl).mono ?_
  rintro e w' ⟨F', he, hm, hF', ho⟩
  refine ⟨he, ⟨⟨F', hm, fun k hk => (hF' k hk).elim (h2 k) (fun hk => Nat.le_trans h.below.size hk), fun k hk => ⟨fun hFk => ?_, Nat.lt_of_lt_of_le (h3 k hk).2 ho.size⟩⟩, h.below.trans (ho.below h.below.size h2)⟩, fun b arr t hb hB => hB.only ho (h3 b hb).1⟩
  rcases hF' k hFk with h | h
  · exact (h3 k hk).1 h
  · have := (h3 k hk).2; omega
theorem Own.get {w0 w : World} {a : Nat} {M : MM} {G : Nat → Prop} (h : Own w0 a M G w) (key : ByteArray) (seq : Int) :
    Calls Try.prog 23 #[.pointer (some ⟨a, 0, none⟩), .string key, .int .u64 seq] w fun e w' => e = .returned (.tuple #[.agg #[.string (getM M key seq).1.key, .int .u64 (getM M key seq).1.seq, .string (getM M key seq).1.val, .bool (getM M key seq).1.gone], .bool (getM M key seq).2]) ∧ Own w0 a M G w' ∧ Below w.heap.size w w' := by
  obtain ⟨F, h1, h2, h3⟩ := h.mem
  refine (get_model h1 key seq).mono ?_
  rintro e w' ⟨he, hb⟩
  exact ⟨he, h.only hb, hb⟩
theorem Own.new {w0 w : World} {e : Ending} {w' : World} (hb : Below w0.heap.size w0 w) (h : NewPost w e w') : e = .returned (.pointer (some ⟨w.heap.size + 1, 0, none⟩)) ∧ Own w0 (w.heap.size + 1) [] (fun _ => False) w' := by
  obtain ⟨h1, h2, h3, h4⟩ := h.mem
  exact ⟨h1, ⟨_, h2, by rintro k (rfl | rfl) <;> (have := hb.size; omega), fun k hk => hk.elim⟩, hb.trans (h3.mono hb.size)⟩

def SnapRel1 (w0 : World) (a : Nat) (cs : List Cell) (i : Value) (wr : World) : Prop := ∃ k : Nat, k ≤ cs.length ∧ i = .int .i64 k ∧ Own w0 a (putAll [] (cs.take k) 2) (fun _ => False) wr
def SnapRel2 (w0 : World) (a : Nat) (seq : Int) (M : MM) (ls : List Cell) (b : Nat) (arr : Array Value) (i : Value) (wr : World) : Prop :=
  ∃ k : Nat, k ≤ ls.length ∧ i = .int .i64 k ∧ Own w0 a (putLater seq M (ls.take k)) (fun k => False ∨ k = b) wr ∧ Blk wr b arr 25
theorem take_snoc {α : Type} {l : List α} {k : Nat} {x : α} (h : l[k]? = some x) : l.take (k + 1) = l.take k ++ [x] := by rw [List.take_add_one, h]; rfl

set_option maxRecDepth 100000 in
set_option maxHeartbeats 2000000 in
theorem snapshots_walk {w : World} {v1 v2 : Value} {cs ls : List Cell} (h1 : Reads w v1 cs.length 4 (cellVals cs)) (h2 : Reads w v2 ls.length 4 (cellVals ls)) (c : Cell) (hl1 : cs.length ≤ 549755813888000) (hl2 : ls.length ≤ 549755813888000) :
    Calls Try.prog 3 #[v1, v2, .agg #[.string c.key, .int .u64 c.seq, .string c.val, .bool c.gone]] w fun e w' => e = .returned (.bool true) ∧ Below w.heap.size w w' := by
  obtain ⟨A1, k1, rfl⟩ := h1.form
  obtain ⟨A2, k2, rfl⟩ := h2.form
  have H1 := Lib.hid h1
  have H2 := Lib.hid h2
  clear h1 h2
  go_enter Try.func3, Try.ntmps3
  go_wp2_with fail
  go_quiet (fail)
  go_wp2_with fail
  refine (new_spec _).mono ?_
  rintro e w1 hn
  obtain ⟨rfl, ho⟩ := Own.new (w0 := w) (below_drewN ((Below.refl _ _).alloc (Nat.le_refl _) _) nq) hn
  clear hn
  obtain ⟨a, ha⟩ : ∃ a, a = ((w.alloc (.cells #[.string c.key, .int .u64 c.seq, .string c.val, .bool c.gone] 25)).drewN nq).heap.size + 1 := ⟨_, rfl⟩
  rw [← ha] at ho ⊢
  have HA := Lib.hid ha
  clear ha
  go_wp2_with fail
  refine (awake_spec _).mono ?_
  rintro e w2 ⟨rfl, hb2⟩
  have ho2 := ho.only hb2
  clear ho hb2
  go_wp2_with fail
  go_loopw [31] (SnapRel1 w a cs) (fun i _ => cs.length - (intOf i).toNat)
  case atStart => exact ⟨0, by omega, rfl, ho2⟩
  case round =>
    obtain ⟨k, hk, rfl, ho⟩ := hrel
    by_cases hlt : k < cs.length
    · obtain ⟨d, hd⟩ : ∃ d, cs[k]? = some d := ⟨_, List.getElem?_eq_getElem hlt⟩
      obtain ⟨b, o, rfl, hbl, c0, c1, c2, c3⟩ := (H1.out.kept ho.below).cell_at hd
      have i0 : (0 : Int) ≤ (k : Int) := by omega
      have i1 : (k : Int) < (cs.length : Int) := by omega
      have hlen := putAll_len (cs.take k) 2 []
      have hln : (putAll [] (cs.take k) 2).length ≤ 1099511627776000 := by simp at hlen; omega
      clear hlen
      have HD := Lib.hid hd
      clear hd
      go_wp2_with fail
      refine ((ho.alloc _).put d 2 hln).mono ?_
      rintro e w3 ⟨rfl, ho3, _⟩
      go_wp2_with fail
      go_roundw
      case rel => exact ⟨k + 1, by omega, by go_num, by rw [take_snoc HD.out, putAll_snoc]; exact ho3⟩
      case measure => simp [intOf]; omega
    · obtain rfl : k = cs.length := by omega
      rw [List.take_length] at ho
      go_wp2_with fail
      refine (ho.get c.key c.seq).mono ?_
      rintro e w4 ⟨rfl, ho4, _⟩
      have hlen := putAll_len cs 2 []
      have hsort : SortedM (putAll [] cs 2) := sorted_all cs 2 List.Pairwise.nil
      obtain ⟨M, hM⟩ : ∃ M, M = putAll [] cs 2 := ⟨_, rfl⟩
      rw [← hM] at ho4 hlen hsort ⊢
      clear hM ho
      obtain ⟨r, hr⟩ : ∃ r, getM M c.key c.seq = r := ⟨_, rfl⟩
      rw [hr]
      have HR := Lib.hid hr
      clear hr
      have ho5 := ho4.more (.cells (cellArr r.1) 25) rfl
      have HL := Lib.hid hlen
      clear hlen
      go_wp2_with fail
      go_loopw [48] (SnapRel2 w a c.seq M ls w4.heap.size (cellArr r.1)) (fun i _ => ls.length - (intOf i).toNat)
      case atStart => exact ⟨0, by omega, rfl, ho5, Blk.new _ _ _⟩
      case round =>
        obtain ⟨k, hk, rfl, ho, hblk⟩ := hrel
        by_cases hlt : k < ls.length
        · obtain ⟨d, hd⟩ : ∃ d, ls[k]? = some d := ⟨_, List.getElem?_eq_getElem hlt⟩
          obtain ⟨b, o, rfl, hbl, c0, c1, c2, c3⟩ := (H2.out.kept ho.below).cell_at hd
          have i0 : (0 : Int) ≤ (k : Int) := by omega
          have i1 : (k : Int) < (ls.length : Int) := by omega
          have hlen2 := putLater_len c.seq (ls.take k) M
          have hln : (putLater c.seq M (ls.take k)).length ≤ 1099511627776000 := by have := HL.out; simp at hlen2 this; omega
          clear hlen2
          have HD := Lib.hid hd
          clear hd
          by_cases hsq : c.seq < d.seq
          · go_wp2_with fail
            refine ((ho.alloc _).put d 1 hln).mono ?_
            rintro e w6 ⟨rfl, ho6, hk6⟩
            have hblk6 := hk6 _ _ _ (.inr rfl) (hblk.alloc _)
            go_wp2_with fail
            go_roundw
            case rel => exact ⟨k + 1, by omega, by go_num, by rw [take_snoc HD.out, putLater_snoc, if_pos hsq]; exact ho6, hblk6⟩
            case measure => simp [intOf]; omega
          · go_wp2_with fail
            go_roundw
            case rel => exact ⟨k + 1, by omega, by go_num, by rw [take_snoc HD.out, putLater_snoc, if_neg hsq]; exact ho.alloc _, hblk.alloc _⟩
            case measure => simp [intOf]; omega
        · obtain rfl : k = ls.length := by omega
          rw [List.take_length] at ho
          go_wp2_with fail
          refine (ho.get c.key c.seq).mono ?_
          rintro e w7 ⟨rfl, ho7, hb7⟩
          rw [getM_later c.key c.seq ls hsort, HR.out]
          obtain ⟨x0, x1, x2, x3⟩ := cell4 (hblk.kept hb7)
          have hlt7 := (hblk.kept hb7).lt
          have heq := cell_eql r.1 r.1
          rw [decide_eq_true rfl] at heq
          have hbeq : (r.2 == r.2) = true := by simp
          go_wp2_with fail
          go_ret
          exact ⟨rfl, (ho7.below.alloc ho7.below.size _)⟩

/-! ### The row -/
section
open Go.ChangeShapes Go.WideShapes Go.ChangeAt Go.Deep
theorem cells_len {H : Type} {ts : List TypeId} {ds : List (DataW H)} {cs : List Cell} {d : DataW H} (hsz : (DataW.weightsEach Try.prog ts ds).all (· ≤ reachBytes) = true) {j : Nat} (ht : ts[j]? = some 22) (hd : ds[j]? = some d) (hc : CellsD d cs) : cs.length ≤ 2932031007402 := by
  rcases hc with ⟨rfl, rfl⟩ | ⟨sp, rfl⟩
  · simp
  · have := sized_slice hsz ht hd Try.underlying22
    rw [show Try.prog.bytesOf 25 = 48 by kernel_rfl, List.length_map] at this
    unfold reachBytes at this
    omega

set_option maxRecDepth 100000 in
theorem memSnapshots_lifted (os : Os) (started : os.Started) (H : Type) (enc : TypeId × Value → H) :
    ReturnsInHanded {} Try.checked os 3 .any (Rows.memSnapshotsSpec.pre6 enc Try.prog Try.f3 Rows.memSnapshotsRow.domain false) (Rows.memSnapshotsSpec.post enc Try.prog Try.f3 false true false false) := by
  refine returnsInHanded_of_change_sized (C := Try.checked) Try.own started (by kernel_rfl) Try.func3
    (ChangeSpec.witness6 (enc := enc) (C := Try.checked) false ⟨#[], #[.slice none 0 0, .slice none 0 0, .agg #[.string .empty, .int .u64 0, .string .empty, .bool false]], []⟩ 8 (by kernel_rfl) (by kernel_rfl) (by kernel_rfl) (by kernel_rfl)) ?_
  intro W base args ds gs before hval0 hW _ hsz _
  have hval : ∀ (j : Nat) t v, Try.f3.params[j]? = some t → args[j]? = some v → Value.okWide Try.prog W .any base t v := hval0
  have hW' : DataW.Whole enc Try.prog Try.f3.params.toList Rows.memSnapshotsSpec.vars false W args.toList ds gs before := hW
  obtain ⟨p, q, hA0, hV, rfl, hfz, hnd⟩ := hW
  have hA : DataW.TrodAll enc Try.prog W 0 (fun _ => true) true Try.f3.params.toList args.toList ds p := hA0
  rw [Try.params3] at hA hval hsz
  obtain ⟨v0, v1, v2, d0, d1, d2, p0, p1, p2, rfl, rfl, rfl, h0, h1, h2⟩ := trodAll_three hA
  obtain ⟨rfl, rfl⟩ := trodVars_none hV
  obtain ⟨cs, hcs, _, hd0⟩ := open_cells (hval 0 22 v0 rfl rfl) h0
  obtain ⟨ls, hls, _, hd1⟩ := open_cells (hval 1 22 v1 rfl rfl) h1
  obtain ⟨c, rfl, _, rfl⟩ := open_cell (hval 2 25 v2 rfl rfl) h2
  have hl0 := cells_len hsz (j := 0) rfl rfl hd0
  have hl1 := cells_len hsz (j := 1) rfl rfl hd1
  refine (snapshots_walk hcs hls c (by omega) (by omega)).mono fun e W' ⟨he, hb⟩ => ?_
  subst he
  exact ⟨_, rfl, law_post rfl hW' rfl rfl rfl rfl (by rw [Try.params3]; intro t ht; simp at ht; rcases ht with rfl | rfl <;> exact ⟨by kernel_rfl, of_decide_eq_true (by kernel_rfl)⟩) hb⟩

theorem memSnapshots_holds : Rows.MemSnapshotsSaid :=
  OpenClaim.holds_of_wide 3 Try.f3 rfl rfl rfl rfl rfl rfl rfl ⟨rfl, rfl, rfl, rfl, rfl⟩ rfl rfl rfl rfl rfl (by kernel_rfl) Try.func3 (by kernel_rfl)
    (of_decide_eq_true (by kernel_rfl)) (by unfold Func.isWrapper; rw [if_neg (of_decide_eq_false (by kernel_rfl))]; exact ⟨rfl, rfl⟩)
    (fun os started H enc _ => memSnapshots_lifted os started H enc)
end

end Go.Proofs.Ytbcaiegglbdonaa
