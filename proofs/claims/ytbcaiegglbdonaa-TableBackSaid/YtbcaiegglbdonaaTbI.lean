/-
  Texts of this seat, part 9: TabOpen, May, TabGet, TabBack, TabLaw, TabLives.
-/
import Derived.Test.YtbcaiegglbdonaaTbH
/-
  A table opened: the program's table.Open.
-/
namespace Go.Proofs.Ytbcaiegglbdonaa
open Go Go.RowKit
set_option linter.unusedSimpArgs false

/-! ### Plain -/
def allC (es : List Ent) : List Cell := es.flatMap (·.cells)
theorem allC_succ {es : List Ent} {k : Nat} {e : Ent} (h : es[k]? = some e) : allC (es.take (k + 1)) = allC (es.take k) ++ e.cells := by
  unfold allC
  rw [take_snoc h, List.flatMap_append]
  simp
structure EntOk (b : ByteArray) (e : Ent) : Prop where
  opn : openN e.str = some (e.cells, e.r)
  ne : e.cells ≠ []
theorem idxN_ok {b : ByteArray} {fa : Nat} : ∀ (n : Nat) (s : ByteArray) (es : List Ent), idxN b fa n s = some es → es.length ≤ n ∧ ∀ e ∈ es, EntOk b e := by
  intro n
  induction n with
  | zero =>
    intro s es h
    rw [idxN] at h
    split at h
    · injection h with h; subst h; exact ⟨Nat.le_refl _, by simp⟩
    · cases h
  | succ n ih =>
    intro s es h
    rw [idxN] at h
    split at h
    · injection h with h; subst h; exact ⟨Nat.zero_le _, by simp⟩
    · cases he : entR s with
      | none => rw [he] at h; cases h
      | some x =>
        obtain ⟨k, p, z, rest⟩ := x
        rw [he] at h
        dsimp only at h
        split at h
        · cases h
        · cases ho : openN (b.extract p (p + z)) with
          | none => rw [ho] at h; cases h
          | some y =>
            obtain ⟨l, r⟩ := y
            rw [ho] at h
            dsimp only at h
            split at h
            · cases h
            · rename_i hl
              cases hi : idxN b fa n rest with
              | none => rw [hi] at h; cases h
              | some es' =>
                rw [hi] at h
                injection h with h
                subst h
                obtain ⟨h1, h2⟩ := ih rest es' hi
                refine ⟨by simpa using h1, fun e he => ?_⟩
                rcases List.mem_cons.1 he with rfl | he
                · exact ⟨ho, hl⟩
                · exact h2 e he
theorem openN_seq {s : ByteArray} {l : List Cell} {r : Int} (h : openN s = some (l, r)) : l.length ≤ 65536 ∧ ∀ c ∈ l, 0 ≤ c.seq := by
  unfold openN at h
  split at h
  · cases h
  · rename_i h10
    dsimp only at h
    split at h
    · cases h
    · split at h
      · cases h
      · rename_i l' hr
        split at h
        · injection h with h
          injection h with h1 _
          subst h1
          obtain ⟨h1, h2⟩ := readN_seq hr
          exact ⟨Nat.le_trans h1 (Nat.le_trans (ex_size_le _ _ _) (by omega)), h2⟩
        · cases h
open Classical in
noncomputable def tOpenN (b : ByteArray) : Option (List Ent) :=
  if footOk b = true then match idxN b (footOf b).fa (footOf b).isz (b.extract (footOf b).ia ((footOf b).ia + (footOf b).isz)) with
    | none => none
    | some es => if es = [] then none else if tableN (allC es) (footOf b).b (footOf b).r (footOf b).t = (b.data.toList, 0) then some es else none
  else none
/-! ### A table -/
structure TabIs (w : World) (tp : Nat) (b : ByteArray) (x : FootN) (es : List Ent) : Prop where
  ex : ∃ vb vB vF vl ps B last fs, Blk w tp (tabArr vb x vB vF vl ((allC es).length : Nat) last) 152 ∧ w.ownsRow B 5 1 vb b.size (bv b.data.toList) ∧ w.ownsRow B 68 1 vB es.length (ptrs ps) ∧
    w.ownsRow B 9 1 vF es.length (es.map fun e => .string e.key) ∧ BlksIs w es ps ∧ Reads w vl fs 1 (bv (b.extract x.fa x.ia).data.toList) ∧ (∀ c, (allC es).getLast? = some c → last = c.key)
theorem TabIs.kept {w w' : World} {tp : Nat} {b : ByteArray} {x : FootN} {es : List Ent} (h : TabIs w tp b x es) (hb : Below w.heap.size w w') : TabIs w' tp b x es := by
  obtain ⟨vb, vB, vF, vl, ps, B, last, fs, h1, h2, h3, h4, h5, h6, h7⟩ := h.ex
  exact ⟨vb, vB, vF, vl, ps, B, last, fs, h1.kept hb, own_kept h2 hb, own_kept h3 hb, own_kept h4 hb, h5.stay (T := fun _ => True) (.of_below hb) trivial trivial, h6.kept hb, h7⟩
def TOpenPost (w : World) (b : ByteArray) (o : Option (List Ent)) (e : Ending) (w' : World) : Prop :=
  Below w.heap.size w w' ∧ match o with
    | none => e = .returned (.tuple #[.pointer none, .int .i64 90])
    | some es => ∃ tp, e = .returned (.tuple #[.pointer (some ⟨tp, 0, none⟩), .int .i64 0]) ∧ TabIs w' tp b (footOf b) es ∧ w.heap.size ≤ tp
theorem topen_none {w w' : World} {b : ByteArray} {o : Option (List Ent)} (h : o = none) (hb : Below w.heap.size w w') : TOpenPost w b o (.returned (.tuple #[.pointer none, .int .i64 90])) w' := by
  subst h
  exact ⟨hb, rfl⟩
/-- A slice expression with three places. -/
theorem cut_three {w : World} {A : Option Addr} {n cap : Nat} {s : ByteArray} (h : Reads w (.slice A n cap) n 1 (bv s.data.toList)) {lo hi : Nat} (h1 : lo ≤ hi) (h2 : hi ≤ n) (hc : n ≤ cap) :
    ∃ a c, (∀ W, (Instr.sliceAt 74 (.slice A n cap) (some (.int .i64 (lo : Nat))) (some (.int .i64 (hi : Nat))) (some (.int .i64 (hi : Nat)))).run Try.prog W = .ok (.slice a (hi - lo) c) W) ∧ Reads w (.slice a (hi - lo) c) (hi - lo) 1 (bv (s.extract lo hi).data.toList) := by
  have hsz : s.size = n := by have := h.1; rw [bv_len] at this; have hsl : s.data.toList.length = s.size := rfl; omega
  refine ⟨if hi = lo then A else A.map (·.add (lo * 1)), hi - lo, fun W => ?_, ?_, by have := h.2.1; omega, _, _, rfl, ?_⟩
  · rw [run_sliceAt_slice (P := Try.prog) W 74 _ _ _ _ (by kernel_rfl), run_slice_lhm W 74 A n cap (by kernel_rfl) .i64 .i64 .i64 lo hi hi (by omega) (by omega) (by omega) (by omega)]
    have : (sizeOf (Try.prog.elem 74)).run Try.prog W = .ok 1 W := by go_simp
    rw [this]
    rfl
  · rw [bv_len]
    show (s.extract lo hi).size = _
    rw [ByteArray.size_extract]; omega
  · by_cases h0 : hi - lo = 0
    · exact .inl h0
    · right
      obtain ⟨b, o, rfl, hbl, hcell⟩ := h.some_at (by omega)
      rw [if_neg (by omega)]
      refine ⟨b, o + lo * 1, by rw [Option.map_some, add_at rfl], hbl, fun j u hj => ?_⟩
      unfold bv at hj
      rw [List.getElem?_map] at hj
      cases hx : (s.extract lo hi).data.toList[j]? with
      | none => rw [hx] at hj; cases hj
      | some v =>
        rw [hx] at hj
        cases hj
        have := hcell (lo + j) _ (by unfold bv; rw [List.getElem?_map, bytes_at hx]; rfl)
        rw [Nat.mul_one, Nat.add_assoc]
        exact this
theorem cut_back {W : World} {A a : Option Addr} {B n cap m c : Nat} {s : ByteArray} (h : W.ownsRow B 5 1 (.slice A n cap) n (bv s.data.toList)) {lo hi : Nat} (h1 : lo ≤ hi) (h2 : hi ≤ n) (hc : n ≤ cap) (hm : hi - lo = m)
    (hcut : ∀ W, (Instr.sliceAt 74 (.slice A n cap) (some (.int .i64 (lo : Nat))) (some (.int .i64 (hi : Nat))) (some (.int .i64 (hi : Nat)))).run Try.prog W = .ok (.slice a m c) W) : Reads W (.slice a m c) m 1 (bv (s.extract lo hi).data.toList) := by
  obtain ⟨a3, c3, hcut3, hvl3⟩ := cut_three (Reads.of_own h) h1 h2 hc
  rw [hm] at hcut3 hvl3
  have e := (hcut W).symm.trans (hcut3 W)
  injection e with e
  rw [← e] at hvl3
  exact hvl3
def AllRel (w3 : World) (es : List Ent) (all i : Value) (W : World) : Prop :=
  ∃ k : Nat, k ≤ es.length ∧ i = .int .i64 k ∧ Below w3.heap.size w3 W ∧ W.ownsRow w3.heap.size 25 4 all (allC (es.take k)).length (cellVals (allC (es.take k)))
theorem allC_le {es : List Ent} (h : ∀ e ∈ es, e.cells.length ≤ 65536) : (allC es).length ≤ es.length * 65536 := by
  induction es with
  | nil => exact Nat.zero_le _
  | cons e es ih =>
    have h1 := h e (by simp)
    have h2 := ih (fun x hx => h x (by simp [hx]))
    unfold allC at h2 ⊢
    rw [List.flatMap_cons, List.length_append, List.length_cons, Nat.succ_mul]
    omega
set_option maxRecDepth 100000 in
set_option maxHeartbeats 4000000 in
theorem topen_spec {w : World} {A : Option Addr} {cap : Nat} {b : ByteArray} (h : Reads w (.slice A b.size cap) b.size 1 (bv b.data.toList)) (hs : b.size ≤ 1048576) (hcap : b.size ≤ cap) :
    Calls Try.prog 61 #[.slice A b.size cap] w (TOpenPost w b (tOpenN b)) := by
  have HF := Lib.hid (foot_spec h (by omega) hcap)
  have H := Lib.hid h
  obtain ⟨x, hx⟩ : ∃ x, footOf b = x := ⟨_, rfl⟩
  obtain ⟨ok, hok⟩ : ∃ ok, footOk b = ok := ⟨_, rfl⟩
  unfold FootPost at HF
  rw [hx, hok] at HF
  have hN : tOpenN b = if footOk b = true then (match idxN b (footOf b).fa (footOf b).isz (b.extract (footOf b).ia ((footOf b).ia + (footOf b).isz)) with
    | none => none
    | some es => if es = [] then none else if tableN (allC es) (footOf b).b (footOf b).r (footOf b).t = (b.data.toList, 0) then some es else none) else none := by unfold tOpenN; rfl
  rw [hx, hok] at hN
  have HX := Lib.hid hx
  cases ok with
  | false =>
    have HN := Lib.hid (show tOpenN b = none by rw [hN]; rfl)
    clear hN hx hok h
    obtain ⟨fa, fs, ia, isz, n, xb, xr, xt⟩ := x
    unfold FootN.val at HF
    dsimp only at HF
    go_enter Try.func61, Try.ntmps61
    go_wp2_with (go_at_call 117; refine HF.out.mono ?_; rintro e w1 ⟨rfl, hb1⟩)
    go_ret2
    exact topen_none HN.out (hb1.alloc hb1.size _)
  | true =>
    rw [if_pos rfl] at hN
    obtain ⟨hb36, hfe1, hfe2⟩ : 36 ≤ b.size ∧ x.fa + x.fs = x.ia ∧ x.ia + x.isz = b.size - 36 := by
      unfold footOk at hok
      rw [hx] at hok
      simpa using hok
    have HCL := Lib.hid (fun (W : World) (hW : Below w.heap.size w W) => clone_bytes (w := W) (A := A) (cap := cap) (l := b.data.toList) (h.kept hW) (by show b.size ≤ _; omega) (by show b.size ≠ 0; omega))
    clear h hok hx
    obtain ⟨fa, fs, ia, isz, n, xb, xr, xt⟩ := x
    unfold FootN.val at HF
    dsimp only at HF hN hfe1 hfe2
    have hbl : b.data.toList.length = b.size := rfl
    rw [hbl] at HCL
    go_enter Try.func61, Try.ntmps61
    go_wp2_with (go_at_call 117; refine HF.out.mono ?_; rintro e w1 ⟨rfl, hb1⟩)
    have bA := hb1.alloc hb1.size (.cells #[.int .i64 (fa : Nat), .int .i64 (fs : Nat), .int .i64 (ia : Nat), .int .i64 (isz : Nat), .int .i64 (n : Nat), .int .i64 (xb : Nat), .int .i64 (xr : Nat), .int .i64 (xt : Nat)] 147)
    have hxb := Blk.new w1 #[.int .i64 (fa : Nat), .int .i64 (fs : Nat), .int .i64 (ia : Nat), .int .i64 (isz : Nat), .int .i64 (n : Nat), .int .i64 (xb : Nat), .int .i64 (xr : Nat), .int .i64 (xt : Nat)] 147
    obtain ⟨W1, hW1⟩ : ∃ W1, w1.alloc (.cells #[.int .i64 (fa : Nat), .int .i64 (fs : Nat), .int .i64 (ia : Nat), .int .i64 (isz : Nat), .int .i64 (n : Nat), .int .i64 (xb : Nat), .int .i64 (xr : Nat), .int .i64 (xt : Nat)] 147) = W1 := ⟨_, rfl⟩
    obtain ⟨bx, hbx⟩ : ∃ bx, w1.heap.size = bx := ⟨_, rfl⟩
    rw [hW1] at bA hxb ⊢
    rw [hbx] at hxb ⊢
    have bxn : w.heap.size ≤ bx := by rw [← hbx]; exact hb1.size
    clear hW1 hbx hb1 HF
    obtain ⟨y0, y1, y2, y3, y4, y5, y6, y7⟩ := cell8 hxb.drew
    have yl := hxb.drew.lt
    refine region_plan (S := fun w' => w'.cell? ⟨bx, 5, none⟩ = some (.int .i64 (xb : Nat)) ∧ w'.cell? ⟨bx, 6, none⟩ = some (.int .i64 (xr : Nat)) ∧ w'.cell? ⟨bx, 7, none⟩ = some (.int .i64 (xt : Nat)) ∧ bx < w'.heap.size)
      ((0, true) :: (2, true) :: (3, true) :: (1, false) :: (4, true) :: (5, false) :: (6, true) :: [])
      (by kernel_rfl) (by kernel_rfl) (by kernel_rfl) (by kernel_rfl) (fun _ _ _ dst _ h => by cases dst <;> exact h) ⟨y5, y6, y7, yl⟩ (fun hH => ?_)
    (repeat (first | (refine plan_take (v := ?_) (by (simp only [List.getElem?_toArray, List.getElem?_cons_succ, List.getElem?_cons_zero]; exact rfl)) (by rfl) ?_ ?_; rotate_left; (focus (intro wS hS; (try dsimp only at hS); go_split_ands; go_simp; (try with_reducible rfl))); simp only [Act.put, List.setIfInBounds_toArray, List.set_cons_zero, List.set_cons_succ]) | (refine plan_skip (by (simp only [List.getElem?_toArray, List.getElem?_cons_succ, List.getElem?_cons_zero]; exact rfl)) (by rfl) ?_; simp only [Act.put, List.setIfInBounds_toArray, List.set_cons_zero, List.set_cons_succ])))
    (refine plan_solo (by (simp only [List.getElem?_toArray, List.getElem?_cons_succ, List.getElem?_cons_zero]; exact rfl)) (by rfl) ?_; intro K hK; go_simp)
    refine (HCL.out _ bA.drew).mono ?_
    rintro e w2 ⟨g, c, rfl, own2, hb2⟩
    refine hK.out _ _ ⟨cell_keep hb2 y5, cell_keep hb2 y6, cell_keep hb2 y7, Nat.lt_of_lt_of_le yl hb2.size⟩ (fun hH => ?_)
    clear hK K hH
    (try simp only [Act.put, List.setIfInBounds_toArray, List.set_cons_zero, List.set_cons_succ])
    (repeat (first | (refine plan_take (v := ?_) (by (simp only [List.getElem?_toArray, List.getElem?_cons_succ, List.getElem?_cons_zero]; exact rfl)) (by rfl) ?_ ?_; rotate_left; (focus (intro wS hS; (try dsimp only at hS); go_split_ands; go_simp; (try with_reducible rfl))); simp only [Act.put, List.setIfInBounds_toArray, List.set_cons_zero, List.set_cons_succ]) | (refine plan_skip (by (simp only [List.getElem?_toArray, List.getElem?_cons_succ, List.getElem?_cons_zero]; exact rfl)) (by rfl) ?_; simp only [Act.put, List.setIfInBounds_toArray, List.set_cons_zero, List.set_cons_succ])))
    (refine plan_solo (by (simp only [List.getElem?_toArray, List.getElem?_cons_succ, List.getElem?_cons_zero]; exact rfl)) (by rfl) ?_; intro K hK; go_simp)
    obtain ⟨tp, htp⟩ : ∃ tp, w2.heap.size = tp := ⟨_, rfl⟩
    have bB := bA.drew.trans (hb2.mono bA.drew.size)
    have tpn : w.heap.size ≤ tp := by rw [← htp]; exact bB.size
    have hgc : b.size ≤ c := by
      rcases own2.2 with ⟨h, _⟩ | ⟨_, _, _, h, _, _, hc, _⟩
      · cases h
      · cases h; exact hc
    have own2 := own2.mono bA.drew.size
    have htab := Blk.new w2 (tabArr (.slice (some ⟨g, 0, none⟩) b.size c) ⟨fa, fs, ia, isz, n, xb, xr, xt⟩ (.slice none 0 0) (.slice none 0 0) (.slice none 0 0) 0 ⟨#[]⟩) 152
    have bC := bB.alloc bB.size (.cells (tabArr (.slice (some ⟨g, 0, none⟩) b.size c) ⟨fa, fs, ia, isz, n, xb, xr, xt⟩ (.slice none 0 0) (.slice none 0 0) (.slice none 0 0) 0 ⟨#[]⟩) 152)
    have own3 := own2.alloc (.cells (tabArr (.slice (some ⟨g, 0, none⟩) b.size c) ⟨fa, fs, ia, isz, n, xb, xr, xt⟩ (.slice none 0 0) (.slice none 0 0) (.slice none 0 0) 0 ⟨#[]⟩) 152)
    have hx3 := (hxb.drew.kept hb2).alloc (.cells (tabArr (.slice (some ⟨g, 0, none⟩) b.size c) ⟨fa, fs, ia, isz, n, xb, xr, xt⟩ (.slice none 0 0) (.slice none 0 0) (.slice none 0 0) 0 ⟨#[]⟩) 152)
    unfold tabArr at htab bC own3 hx3
    dsimp only at htab bC own3 hx3
    obtain ⟨W3, hW3⟩ : ∃ W3, w2.alloc (.cells #[.slice (some ⟨g, 0, none⟩) b.size c, .int .i64 (xb : Nat), .int .i64 (xr : Nat), .int .i64 (xt : Nat), .slice none 0 0, .slice none 0 0, .slice none 0 0, .int .i64 0, .string ⟨#[]⟩] 152) = W3 := ⟨_, rfl⟩
    rw [hW3] at htab bC own3 hx3
    rw [hW3, htp]
    rw [htp] at htab
    obtain ⟨z0, z1, z2, z3, z4, z5, z6, z7⟩ := cell8 hx3
    have zl := hx3.lt
    refine hK.out _ _ ⟨z5, z6, z7, zl⟩ (fun hH => ?_)
    clear hK K hH hW3 htp hb2 own2 bB bA y0 y1 y2 y3 y4 y5 y6 y7 yl hxb HCL
    (try simp only [Act.put, List.setIfInBounds_toArray, List.set_cons_zero, List.set_cons_succ])
    (repeat (first | (refine plan_take (v := ?_) (by (simp only [List.getElem?_toArray, List.getElem?_cons_succ, List.getElem?_cons_zero]; exact rfl)) (by rfl) ?_ ?_; rotate_left; (focus (intro wS hS; (try dsimp only at hS); go_split_ands; go_simp; (try with_reducible rfl))); simp only [Act.put, List.setIfInBounds_toArray, List.set_cons_zero, List.set_cons_succ]) | (refine plan_skip (by (simp only [List.getElem?_toArray, List.getElem?_cons_succ, List.getElem?_cons_zero]; exact rfl)) (by rfl) ?_; simp only [Act.put, List.setIfInBounds_toArray, List.set_cons_zero, List.set_cons_succ])))
    refine plan_nil ?_
    go_wp2_with fail
    have bD := bC
    have htD := htab
    have ownD := own3
    have hxD := hx3
    clear bC htab own3 hx3
    obtain ⟨a2, c2, hcut, hvl⟩ := cut_three (Reads.of_own ownD) (lo := fa) (hi := ia) (by omega) (by omega) hgc
    rw [show ia - fa = fs by omega] at hcut hvl
    have q0 : W3.drew.cell? ⟨tp, 0, none⟩ = some (.slice (some ⟨g, 0, none⟩) b.size c) := htD.cell 0 _ rfl
    have q6 : W3.drew.cell? ⟨tp, 6, none⟩ = some (.slice none 0 0) := htD.cell 6 _ rfl
    have qf : W3.drew.frozen? ⟨tp, 6, none⟩ = false := htD.frozen 6
    have ql : tp < W3.drew.heap.size := htD.lt
    have hne : tp ≠ bx := fun h => by
      subst h
      have := htD.symm.trans hxD
      injection this with this
      injection this with _ h3 _
      cases h3
    refine region_plan (S := fun w' => w'.cell? ⟨tp, 0, none⟩ = some (.slice (some ⟨g, 0, none⟩) b.size c) ∧ w'.cell? ⟨bx, 0, none⟩ = some (.int .i64 (fa : Nat)) ∧ w'.cell? ⟨bx, 2, none⟩ = some (.int .i64 (ia : Nat)) ∧ tp < w'.heap.size ∧ bx < w'.heap.size)
      ((0, true) :: (1, true) :: (2, true) :: (3, true) :: (4, true) :: (5, true) :: (6, true) :: (7, true) :: (8, true) :: (9, true) :: (10, true) :: (11, true) :: (12, true) :: (13, true) :: (14, false) :: [])
      (by kernel_rfl) (by kernel_rfl) (by kernel_rfl) (by kernel_rfl) (fun _ _ _ dst _ h => by cases dst <;> exact h) ⟨q0, z0, z2, ql, zl⟩ (fun hH => ?_)
    (repeat (first | (refine plan_take (v := ?_) (by (simp only [List.getElem?_toArray, List.getElem?_cons_succ, List.getElem?_cons_zero]; exact rfl)) (by rfl) ?_ ?_; rotate_left; (focus (intro wS hS; (try dsimp only at hS); go_split_ands; go_simp; (try with_reducible rfl))); simp only [Act.put, List.setIfInBounds_toArray, List.set_cons_zero, List.set_cons_succ]) | (refine plan_skip (by (simp only [List.getElem?_toArray, List.getElem?_cons_succ, List.getElem?_cons_zero]; exact rfl)) (by rfl) ?_; simp only [Act.put, List.setIfInBounds_toArray, List.set_cons_zero, List.set_cons_succ])))
    (refine plan_solo (by (simp only [List.getElem?_toArray, List.getElem?_cons_succ, List.getElem?_cons_zero]; exact rfl)) (by rfl) ?_; intro K hK; go_simp)
    have htE := (htD.setCell 6 (.slice a2 fs c2)).drew
    have hxE := (hxD.setCell_ne (Ne.symm hne) 6 (.slice a2 fs c2)).drew
    have styE : Stay (fun t => t ≠ 152) W3 ((W3.setCell ⟨tp, 6, none⟩ (.slice a2 fs c2)).drew) := (Stay.setCell (W := W3) htD (by simp) 6 (.slice a2 fs c2)).trans (.of_below (Below.refl _ _).drew)
    have ownE := own_stay ownD styE (by decide)
    have bE : Below w.heap.size w ((W3.setCell ⟨tp, 6, none⟩ (.slice a2 fs c2)).drew) := (bD.setCell (p := ⟨tp, 6, none⟩) tpn _).drew
    refine hK.out _ _ ⟨htE.cell 0 _ rfl, hxE.cell 0 _ rfl, hxE.cell 2 _ rfl, htE.lt, hxE.lt⟩ (fun hH => ?_)
    clear hK K hH
    (try simp only [Act.put, List.setIfInBounds_toArray, List.set_cons_zero, List.set_cons_succ])
    refine plan_nil ?_
    obtain ⟨W4, hW4⟩ : ∃ W4, (W3.setCell ⟨tp, 6, none⟩ (.slice a2 fs c2)).drew = W4 := ⟨_, rfl⟩
    rw [hW4] at htE hxE ownE bE ⊢
    simp only [List.setIfInBounds_toArray, List.set_cons_zero, List.set_cons_succ] at htE
    have HCUT := Lib.hid hcut
    clear hW4 styE ownD hxD htD hvl hcut q0 q6 qf ql z0 z1 z2 z3 z4 z5 z6 z7 zl bD
    have HIX := Lib.hid (tidx_spec (w := W4) (tp := tp) (A := some ⟨g, 0, none⟩) (cap := c) (B := w.heap.size) (vl := .slice a2 fs c2) (x := ⟨fa, fs, ia, isz, n, xb, xr, xt⟩) (b := b) htE ownE hs hgc (by dsimp only; omega) (by dsimp only; omega))
    unfold FootN.val at HIX
    dsimp only at HIX
    obtain ⟨z0, z1, z2, z3, z4, z5, z6, z7⟩ := cell8 hxE
    have zl := hxE.lt
    obtain ⟨OE, hOE⟩ : ∃ OE, idxN b fa isz (b.extract ia (ia + isz)) = OE := ⟨_, rfl⟩
    rw [hOE] at HIX hN
    have HOE := Lib.hid hOE
    clear hOE
    have onlyB : ∀ W', Only (fun k => k = tp) W4 W' → Below w.heap.size w W' := fun W' ho => bE.trans (ho.below bE.size (fun j hj => by obtain rfl : j = tp := hj; exact tpn))
    cases OE with
    | none =>
      have HN := Lib.hid hN
      clear hN
      go_wp2_with fail
      refine HIX.out.mono ?_
      rintro e w5 ⟨ho5, _, rfl⟩
      go_wp2_with fail
      go_ret2
      exact topen_none HN.out (onlyB _ ho5)
    | some es =>
      dsimp only at hN
      by_cases hes : es = []
      · rw [if_pos hes] at hN
        have HN := Lib.hid hN
        have HES := Lib.hid hes
        clear hN hes
        go_wp2_with fail
        refine HIX.out.mono ?_
        rintro e w5 ⟨ho5, _, hm⟩
        dsimp only at hm
        rw [if_pos HES.out] at hm
        subst hm
        go_wp2_with fail
        go_ret2
        exact topen_none HN.out (onlyB _ ho5)
      · rw [if_neg hes] at hN
        have HN := Lib.hid hN
        have HES := Lib.hid hes
        clear hN hes
        go_wp2_with fail
        refine HIX.out.mono ?_
        rintro e w5 ⟨ho5, _, hm⟩
        dsimp only at hm
        rw [if_neg HES.out] at hm
        obtain ⟨rfl, ps, vB, vF, htab5, rowB5, rowF5, blks5⟩ := hm
        obtain ⟨vBA, vBc, rfl⟩ := (Reads.of_own rowB5).form
        have t4 : w5.cell? ⟨tp, 4, none⟩ = some (.slice vBA es.length vBc) := htab5.cell 4 _ rfl
        have tl5 := htab5.lt
        go_wp2_with fail
        obtain ⟨i0, hi, hy0, hy1, hy2⟩ := info_parts Try.infoCell
        have sty5 : Stay (fun t => t ≠ 152) W4 w5 := .only ho5 (fun j hj => by obtain rfl : j = tp := hj; exact ⟨_, _, htE, by simp⟩)
        have hx5 := sty5.2 _ _ _ (by decide) hxE
        have own5 := own_stay ownE sty5 (by decide)
        have b5 := onlyB _ ho5
        have hlen5 := (idxN_ok _ _ _ HOE.out).1
        have hok5 := (idxN_ok _ _ _ HOE.out).2
        have hall : ∀ e ∈ es, e.cells.length ≤ 65536 ∧ ∀ c ∈ e.cells, 0 ≤ c.seq := fun e he => openN_seq (hok5 e he).opn
        have hacl : ∀ k, (allC (es.take k)).length ≤ 1048576 * 65536 := fun k => Nat.le_trans (allC_le (fun e he => (hall e (List.mem_of_mem_take he)).1)) (Nat.mul_le_mul_right _ (by rw [List.length_take]; omega))
        have HALL := Lib.hid hall
        have HACL := Lib.hid hacl
        have HOK5 := Lib.hid hok5
        have HT5 := Lib.hid htab5
        have HB5 := Lib.hid rowB5
        have HF5 := Lib.hid rowF5
        have HBK := Lib.hid blks5
        have hw5n := b5.size
        clear htab5 rowB5 rowF5 blks5 HIX sty5 hxE ownE htE z0 z1 z2 z3 z4 z5 z6 z7 zl hall hacl hok5 t4 tl5
        go_loopw [7, 48] (AllRel w5 es) (fun _ i _ => es.length - (intOf i).toNat)
        case atStart => exact ⟨0, Nat.zero_le _, rfl, Below.refl _ _, World.ownsRow_nil _ _ _ _⟩
        case round =>
          obtain ⟨k, hk, rfl, hbr, ownr⟩ := hrel
          by_cases hlt : k < es.length
          · obtain ⟨e, he⟩ : ∃ e, es[k]? = some e := ⟨_, List.getElem?_eq_getElem hlt⟩
            obtain ⟨p, hp⟩ : ∃ p, ps[k]? = some p := ⟨_, List.getElem?_eq_getElem (by rw [HBK.out.1]; exact hlt)⟩
            obtain ⟨b4, o4, rfl, hb4l, hc4⟩ := (Reads.of_own (own_kept HB5.out hbr)).val_at (k := k) (v := .pointer (some ⟨p, 0, none⟩)) (by unfold ptrs; rw [List.getElem?_map, hp]; rfl)
            have hblk := (HBK.out.2 k e p he hp).stay (T := fun _ => True) (.of_below hbr) trivial trivial
            have k0 : (0 : Int) ≤ (k : Int) := by omega
            have k1 : (k : Int) < (es.length : Int) := by omega
            have hmem := List.mem_of_getElem? he
            have hel := (HALL.out e hmem).1
            have hal := HACL.out k
            have HE := Lib.hid (allC_succ he)
            obtain ⟨Ar, cr, hvr⟩ := (Reads.of_own ownr).form
            subst hvr
            obtain ⟨L, hL⟩ : ∃ L, allC (es.take k) = L := ⟨_, rfl⟩
            rw [hL] at HE hal ownr ⊢
            have HR := Lib.hid ownr
            have HLq := Lib.hid hL
            clear he hp hL ownr
            go_wp2_with fail
            refine (blk_cells hblk).mono ?_
            rintro e6 w6 ⟨v6, rfl, own6, hb6⟩
            obtain ⟨A6, c6, rfl⟩ := (Reads.of_own own6).form
            have HR6 := Lib.hid (own_kept HR.out hb6)
            have HO6 := Lib.hid own6
            have p1 : L.length + e.cells.length ≤ maxLen := by unfold maxLen; omega
            have p2 : (L.length + e.cells.length) * 48 ≤ 140737488355328 := by omega
            have p3 : w5.heap.size ≤ w6.heap.size := Nat.le_trans hbr.size hb6.size
            have b6 := hbr.trans (hb6.mono hbr.size)
            clear own6 hblk
            go_wp2_with (at_builtin; refine wpList_append_src rfl _ _ 22 rfl w5.heap.size 25 i0 cellZ 4 48 Try.underlying22 hi hy0 hy1 hy2 rfl (by decide) _ L.length (cellVals L) rfl HR6.out e.cells.length (cellVals e.cells) (src_all HO6.out) (cellVals_length _) (cellVals_one _) p1 p2 p3 ?_; intro v7 w7 own7 hg7 hf7)
            go_roundw
            case rel =>
              refine ⟨k + 1, by omega, by go_num, ?_, ?_⟩
              · exact b6.grown hg7 (Nat.le_trans hbr.size hb6.size) (fun z hz => (HR6.out.lt z hz).1)
              · rw [HE.out, List.length_append, cellVals_append]
                exact own7
            case measure => simp [intOf]; omega
          · obtain rfl : k = es.length := by omega
            rw [List.take_length] at ownr
            have hal := HACL.out es.length
            rw [List.take_length] at hal
            have hseq : ∀ c ∈ allC es, 0 ≤ c.seq := fun c hc => by
              obtain ⟨e, he, hc⟩ := List.mem_flatMap.1 hc
              exact (HALL.out e he).2 c hc
            have hnz : (allC es).length ≠ 0 := fun h0 => by
              have h0 := List.eq_nil_of_length_eq_zero h0
              cases es with
              | nil => exact HES.out rfl
              | cons e es =>
                have : e.cells = [] := by
                  unfold allC at h0
                  rw [List.flatMap_cons] at h0
                  exact (List.append_eq_nil_iff.1 h0).1
                exact (HOK5.out e (by simp)).ne this
            obtain ⟨L, hL⟩ : ∃ L, allC es = L := ⟨_, rfl⟩
            rw [hL] at ownr hal hseq hnz
            obtain ⟨Ar, cr, rfl⟩ := (Reads.of_own ownr).form
            have hcr : L.length ≤ cr := by
              rcases ownr.2 with ⟨h, _⟩ | ⟨_, _, _, h, _, _, hc, _⟩
              · injection h with _ h _; omega
              · cases h; exact hc
            have hN := HN.out
            rw [hL] at hN
            obtain ⟨d, hd⟩ : ∃ d, tableN L xb xr xt = d := ⟨_, rfl⟩
            rw [hd] at hN
            have hBU := tbuild_spec (Reads.of_own ownr) hcr (by omega) hseq xb xr xt
            rw [hd] at hBU
            obtain ⟨dl, de⟩ := d
            unfold TBuildPost at hBU
            dsimp only at hBU
            have HBU := Lib.hid hBU
            have hxr := hx5.kept hbr
            obtain ⟨z0, z1, z2, z3, z4, z5, z6, z7⟩ := cell8 hxr
            have zl := hxr.lt
            have br := b5.trans (hbr.mono hw5n)
            have ownb := own_kept own5 hbr
            have HOL := Lib.hid ownr
            have HLq := Lib.hid hL
            clear hBU hseq ownr hL hd hx5 own5 hxr
            by_cases hde : de = 0
            · subst hde
              have hEQ := fun (W : World) (v : Value) (h1 : Reads W v dl.length 1 (bv dl)) (h2 : Reads W (.slice A b.size cap) b.size 1 (bv b.data.toList)) => equal_bytes h1 h2
              by_cases heq : dl = b.data.toList
              · subst heq
                rw [if_pos rfl] at hN
                have HNN := Lib.hid hN
                clear hN
                have hlast : ∃ cz, L[L.length - 1]? = some cz := ⟨_, List.getElem?_eq_getElem (by omega)⟩
                obtain ⟨cz, hcz⟩ := hlast
                have hEQ2 := fun (W : World) (v : Value) (h1 : Reads W v b.data.toList.length 1 (bv b.data.toList)) (h2 : Reads W (.slice A b.size cap) b.size 1 (bv b.data.toList)) => equal_bytes h1 h2
                simp only [decide_true] at hEQ2
                have HEQ := Lib.hid hEQ2
                have w1 : IntKind.i64.wrap ((L.length : Int) - 1) = (L.length : Int) - 1 := IntWalk.i64_in _ (by omega)
                have l0 : (0 : Int) ≤ (L.length : Int) - 1 := by omega
                have l1 : (L.length : Int) - 1 < (L.length : Int) := by omega
                have l2 : ((L.length : Int) - 1).toNat = L.length - 1 := by omega
                clear hEQ hEQ2
                go_wp2_with fail
                refine HBU.out.mono ?_
                rintro e6 w6 ⟨v6, rfl, own6, hb6⟩
                obtain ⟨A6, c6, rfl⟩ := (Reads.of_own own6).form
                have b6 := br.trans (hb6.mono br.size)
                go_wp2_with fail
                refine (HEQ.out _ _ (Reads.of_own own6) (H.out.kept b6)).mono ?_
                rintro e7 w7 ⟨rfl, hb7⟩
                have b7 := b6.trans (hb7.mono b6.size)
                have s7 : Below w5.heap.size w5 w7 := hbr.trans ((hb6.trans (hb7.mono hb6.size)).mono hbr.size)
                have ht7 := HT5.out.kept s7
                have rb7 := own_kept HB5.out s7
                have rf7 := own_kept HF5.out s7
                have bk7 := HBK.out.stay (T := fun _ => True) (.of_below s7) trivial trivial
                have ob7 := own_kept ownb (hb6.trans (hb7.mono hb6.size))
                have ol7 := own_kept HOL.out (hb6.trans (hb7.mono hb6.size))
                obtain ⟨bl, ol, rfl, hbl7, d0, d1, d2, d3⟩ := (Reads.of_own ol7).cell_at hcz
                have t7 : w7.cell? ⟨tp, 7, none⟩ = some (.int .i64 0) := ht7.cell 7 _ rfl
                have t8 : w7.cell? ⟨tp, 8, none⟩ = some (.string ⟨#[]⟩) := ht7.cell 8 _ rfl
                have tf := ht7.frozen
                have tl := ht7.lt
                go_wp2_with fail
                have sy1 : Stay (fun t => t ≠ 152) w7 (w7.setCell ⟨tp, 7, none⟩ (.int .i64 (L.length : Nat))) := .setCell ht7 (by simp) 7 _
                have ht8 := ht7.setCell 7 (.int .i64 (L.length : Nat))
                have sy2 := sy1.trans (.setCell ht8 (by simp) 8 (.string cz.key))
                have ht9 := ht8.setCell 8 (.string cz.key)
                have bf := (b7.setCell (p := ⟨tp, 7, none⟩) tpn (.int .i64 (L.length : Nat))).setCell (p := ⟨tp, 8, none⟩) tpn (.string cz.key)
                have obf := own_stay ob7 sy2 (by decide)
                go_ret2
                refine ⟨bf, ?_⟩
                rw [HNN.out]
                refine ⟨tp, rfl, ⟨.slice (some ⟨g, 0, none⟩) b.size c, .slice vBA es.length vBc, vF, .slice a2 fs c2, ps, w.heap.size, cz.key, fs, ?_, obf, (own_stay rb7 sy2 (by decide)).mono bE.size, (own_stay rf7 sy2 (by decide)).mono bE.size, bk7.stay sy2 (by decide) (by decide), ?_, ?_⟩, tpn⟩
                · rw [HLq.out, HX.out]
                  exact ht9
                · rw [HX.out]
                  exact cut_back obf (by dsimp only; omega) (by dsimp only; omega) hgc (by dsimp only; omega) HCUT.out
                · intro c' hc'
                  rw [HLq.out, List.getLast?_eq_getElem?, hcz] at hc'
                  cases hc'
                  rfl
              · rw [if_neg (fun h => heq (congrArg Prod.fst h))] at hN
                have HNN := Lib.hid hN
                have hdq : decide (dl = b.data.toList) = false := decide_eq_false heq
                simp only [hdq] at hEQ
                have HEQ := Lib.hid hEQ
                clear hN hEQ heq hdq
                go_wp2_with fail
                refine HBU.out.mono ?_
                rintro e6 w6 ⟨v6, rfl, own6, hb6⟩
                obtain ⟨A6, c6, rfl⟩ := (Reads.of_own own6).form
                have b6 := br.trans (hb6.mono br.size)
                go_wp2_with fail
                refine (HEQ.out _ _ (Reads.of_own own6) (H.out.kept b6)).mono ?_
                rintro e7 w7 ⟨rfl, hb7⟩
                go_wp2_with fail
                go_ret2
                exact topen_none HNN.out (b6.trans (hb7.mono b6.size))
            · have hdq : (de == 0) = false := by simpa using hde
              rw [if_neg (fun h => hde (congrArg Prod.snd h))] at hN
              have HNN := Lib.hid hN
              clear hN
              go_wp2_with fail
              refine HBU.out.mono ?_
              rintro e6 w6 ⟨v6, rfl, own6, hb6⟩
              obtain ⟨A6, c6, rfl⟩ := (Reads.of_own own6).form
              go_wp2_with fail
              go_ret2
              exact topen_none HNN.out (br.trans (hb6.mono br.size))
end Go.Proofs.Ytbcaiegglbdonaa

/-
  Whether a filter may have a key: the program's filter.Check and filter.May.
-/
namespace Go.Proofs.Ytbcaiegglbdonaa
open Go Go.RowKit Go.Shelf
attribute [local go_sem] Oper.semAt_some
set_option linter.unusedSimpArgs false

def lastF (b : List UInt8) : Nat := (b.getD (b.length - 1) 0).toNat
def checkF (b : List UInt8) : Int := if b.length < 9 ∨ lastF b < 1 ∨ 30 < lastF b then 70 else 0
def bitOf (b : List UInt8) (p : Nat) : Bool := decide ((b.getD (p / 8) 0).toNat / 2 ^ (p % 8) % 2 = 1)
def mayN (b : List UInt8) (key : ByteArray) : Bool := if checkF b ≠ 0 then true else (placesN (hashN key) (stepN key) ((b.length - 1) * 8) (lastF b)).all (bitOf b)
theorem Reads.last_byte {w : World} {A : Option Addr} {cap : Nat} {l : List UInt8} (h : Reads w (.slice A l.length cap) l.length 1 (bv l)) (hn : l.length ≠ 0) :
    ∃ b o, A = some ⟨b, o, none⟩ ∧ b < w.heap.size ∧ w.cell? ⟨b, o + (l.length - 1), none⟩ = some (.int .u8 (lastF l : Nat)) := by
  have hx : l[l.length - 1]? = some (l[l.length - 1]'(by omega)) := List.getElem?_eq_getElem (by omega)
  obtain ⟨b, o, h1, h2, h3⟩ := h.byte_at hx
  refine ⟨b, o, h1, h2, ?_⟩
  have e : lastF l = (l[l.length - 1]'(by omega)).toNat := by unfold lastF; rw [List.getD_eq_getElem?_getD, hx]; rfl
  rw [e]; exact h3
set_option maxRecDepth 100000 in
set_option maxHeartbeats 1000000 in
theorem fcheck_spec {w : World} {A : Option Addr} {cap : Nat} {l : List UInt8} (h : Reads w (.slice A l.length cap) l.length 1 (bv l)) :
    Calls Try.prog 145 #[.slice A l.length cap] w fun e w' => e = .returned (.int .i64 (checkF l)) ∧ w' = w := by
  have hm := h.2.1
  by_cases h9 : l.length < 9
  · have HC := Lib.hid (show checkF l = 70 by unfold checkF; rw [if_pos (.inl h9)])
    have j1 : (l.length : Int) < 9 := by omega
    clear h h9
    go_enter Try.func145, Try.ntmps145
    go_wp2_with fail
    go_ret
    exact ⟨by rw [HC.out]; rfl, rfl⟩
  obtain ⟨b, o, rfl, hb, hc⟩ := h.last_byte (by omega)
  have j1 : ¬ ((l.length : Int) < 9) := by omega
  have w1 : IntKind.i64.wrap ((l.length : Int) - 1) = (l.length : Int) - 1 := IntWalk.i64_in _ (by omega)
  have l0 : (0 : Int) ≤ (l.length : Int) - 1 := by omega
  have l1 : (l.length : Int) - 1 < (l.length : Int) := by omega
  have l2 : ((l.length : Int) - 1).toNat = l.length - 1 := by omega
  have hdef : checkF l = if lastF l < 1 ∨ 30 < lastF l then 70 else 0 := by
    unfold checkF
    by_cases hx : lastF l < 1 ∨ 30 < lastF l
    · rw [if_pos (.inr hx), if_pos hx]
    · rw [if_neg (fun h => hx (h.resolve_left h9)), if_neg hx]
  obtain ⟨c, hcq⟩ : ∃ c, lastF l = c := ⟨_, rfl⟩
  rw [hcq] at hdef hc
  clear h hcq
  by_cases h1 : c < 1
  · have HC := Lib.hid (hdef.trans (if_pos (.inl h1)))
    have i1 : (c : Int) < 1 := by omega
    clear hdef
    go_enter Try.func145, Try.ntmps145
    go_wp2_with fail
    go_ret
    exact ⟨by rw [HC.out]; rfl, rfl⟩
  have i1 : ¬ ((c : Int) < 1) := by omega
  by_cases h2 : 30 < c
  · have HC := Lib.hid (hdef.trans (if_pos (.inr h2)))
    have i2 : (30 : Int) < (c : Int) := by omega
    clear hdef
    go_enter Try.func145, Try.ntmps145
    go_wp2_with fail
    go_ret
    exact ⟨by rw [HC.out]; rfl, rfl⟩
  have HC := Lib.hid (hdef.trans (if_neg (by omega)))
  have i2 : ¬ ((30 : Int) < (c : Int)) := by omega
  clear hdef
  go_enter Try.func145, Try.ntmps145
  go_wp2_with fail
  go_ret
  exact ⟨by rw [HC.out]; rfl, rfl⟩
theorem may_result {tmps : Array Value} {b : Nat} {v : Bool} {W : World} (hp : tmps.getD 4 undef = .pointer (some ⟨b, 0, none⟩)) (hc : Blk W b #[.bool v] 4) : (results Try.f122 tmps).run Try.prog W = .ok (.bool v) W := by
  have c0 : W.cell? ⟨b, 0, none⟩ = some (.bool v) := hc.cell 0 _ rfl
  have hr : Try.f122.results = #[.cell 4 4] := rfl
  have hp' : tmps[4]?.getD undef = .pointer (some ⟨b, 0, none⟩) := by simpa using hp
  simp only [results, hr]
  simp [hp', asAddr, loadVar, Sem.run_bind, Result.andThen]
  go_simp
theorem bit_test (c : UInt8) (r : Nat) : bits .and .u8 ((c.toNat : Int) / ((2 ^ r : Nat) : Int)) 1 = ((c.toNat / 2 ^ r % 2 : Nat) : Int) := by
  have e : ((c.toNat : Int) / ((2 ^ r : Nat) : Int)) = ((c.toNat / 2 ^ r : Nat) : Int) := (Int.natCast_ediv c.toNat (2 ^ r)).symm
  have hc := c.toNat_lt
  have hlt : c.toNat / 2 ^ r < 256 := Nat.lt_of_le_of_lt (Nat.div_le_self _ _) hc
  rw [e]
  have h := u8_and_nat (c.toNat / 2 ^ r) 1 hlt (by decide)
  rw [show ((1 : Nat) : Int) = 1 from rfl] at h
  rw [h, Nat.and_one_is_mod]
set_option maxRecDepth 100000 in
set_option maxHeartbeats 4000000 in
theorem may_spec {w : World} {A : Option Addr} {cap : Nat} {l : List UInt8} (h : Reads w (.slice A l.length cap) l.length 1 (bv l)) (hl : l.length ≤ 1099511627776) (key : ByteArray) (hk : key.size ≤ 2147483648) :
    Calls Try.prog 122 #[.slice A l.length cap, .string key] w fun e w' => e = .returned (.bool (mayN l key)) ∧ Below w.heap.size w w' := by
  have bA : Below w.heap.size w ((w.alloc (.cells #[.slice A l.length cap] 74)).alloc (.cells #[.bool false] 4)) := ((Below.refl _ _).alloc (Nat.le_refl _) _).alloc (by simp) _
  have B0 : Blk ((w.alloc (.cells #[.slice A l.length cap] 74)).alloc (.cells #[.bool false] 4)) w.heap.size #[.slice A l.length cap] 74 := (Blk.new _ _ _).alloc _
  have B1 : Blk ((w.alloc (.cells #[.slice A l.length cap] 74)).alloc (.cells #[.bool false] 4)) (w.heap.size + 1) #[.bool false] 4 := Blk.new' _ _ _ (by simp)
  have HCK := Lib.hid (fcheck_spec (h.kept bA))
  obtain ⟨ck, hck⟩ : ∃ ck, checkF l = ck := ⟨_, rfl⟩
  rw [hck] at HCK
  have H := Lib.hid h
  obtain ⟨W0, hW0⟩ : ∃ W0, (w.alloc (.cells #[.slice A l.length cap] 74)).alloc (.cells #[.bool false] 4) = W0 := ⟨_, rfl⟩
  rw [hW0] at bA B0 B1 HCK
  refine (callsIn_wide (n := 6)).1 ?_
  refine callsIn_of_wp_marks Try.func122 rfl trivial ?_ rfl
  simp only [Try.ntmps122, List.size_toArray, List.length_cons, List.length_nil, Nat.reduceAdd, Nat.reduceSub, Array.replicate_succ, Array.replicate_zero, List.push_toArray, List.append_toArray, List.nil_append, List.cons_append]
  by_cases hc0 : ck = 0
  · subst hc0
    have h9 : ¬ l.length < 9 ∧ 1 ≤ lastF l ∧ lastF l ≤ 30 := by
      unfold checkF at hck
      split at hck
      · cases hck
      · omega
    obtain ⟨bb, oo, rfl, hbb, hlast⟩ := h.last_byte (by omega)
    obtain ⟨n, hn⟩ : ∃ n, l.length - 1 = n := ⟨_, rfl⟩
    obtain ⟨k, hkk⟩ : ∃ k, lastF l = k := ⟨_, rfl⟩
    have hmay : mayN l key = (placesN (hashN key) (stepN key) (n * 8) k).all (bitOf l) := by
      unfold mayN
      rw [hck, if_neg (by simp), hn, hkk]
    obtain ⟨m, hm⟩ : ∃ m, n * 8 = m := ⟨_, rfl⟩
    rw [hn, hkk] at hlast
    rw [hm] at hmay
    have w1 : IntKind.i64.wrap ((l.length : Int) - 1) = (n : Int) := by rw [IntWalk.i64_in _ (by omega)]; omega
    have w2 : IntKind.u64.wrap (n : Int) = (n : Int) := by rw [IntKind.wrap_u64]; omega
    have w3 : IntKind.u64.wrap ((n : Int) * 8) = (m : Int) := by rw [IntKind.wrap_u64]; omega
    have w4 : IntKind.i64.wrap (k : Int) = (k : Int) := IntWalk.i64_in _ (by omega)
    have last0 := cell_keep bA hlast
    have n0 : (0 : Int) ≤ (n : Int) := by omega
    have n1 : (n : Int) < (l.length : Int) := by omega
    have hk30 : 1 ≤ k ∧ k ≤ 30 := by omega
    have hmp : 0 < m := by omega
    have hm2 : m < 18446744073709551616 := by omega
    have hnl : n + 1 = l.length := by omega
    have HNL := Lib.hid hnl
    have HM := Lib.hid hmay
    have b0l := B0.lt
    have c0 := B0.cell 0 _ rfl
    have HN := Lib.hid hn
    clear hmay h hck hkk hn hnl
    gi_wp2_with fail
    refine ⟨trivial, ?_⟩
    refine (callsIn_wide.2 HCK.out).mono ?_
    rintro e w1 ⟨rfl, hu⟩
    obtain rfl := hu.symm
    clear hW0
    gi_wp2_with fail
    refine ⟨trivial, ?_⟩
    refine (callsIn_wide.2 (places_spec key hk m k W0)).mono ?_
    rintro e w2 ⟨rfl, hP, hb2⟩
    unfold plFn
    gi_wp2_with fail
    have hnl := HNL.out
    have hk2 : Keep w [(w.heap.size + 1, #[.bool false], 4), (w.heap.size, #[.slice (some ⟨bb, oo, none⟩) l.length cap], 74)] [] w2 := by
      refine ⟨fun x hx => ?_, bA.trans (hb2.mono bA.size), fun D hD => by cases hD⟩
      simp only [List.mem_cons, List.not_mem_nil, or_false] at hx
      rcases hx with rfl | rfl
      · exact B1.kept hb2
      · exact B0.kept hb2
    have hseq := places_stops 5 (by omega) (w := w2) (N := w2.heap.size) (g := w.heap.size) hmp hm2 (by omega) hP hP.d.lt (Nat.le_refl _) (.inl (by have := B0.lt; exact this))
    have hw2 : w.heap.size + 1 < w2.heap.size := by have := (hk2.blk (w.heap.size + 1, #[.bool false], 4) (by simp)).lt; omega
    have hown : OwnFrom w2.heap.size (fun (_ : List (Fin m)) W => Keep w [(w.heap.size + 1, #[.bool false], 4), (w.heap.size, #[.slice (some ⟨bb, oo, none⟩) l.length cap], 74)] [] W ∧ w2.heap.size ≤ W.heap.size) :=
      OwnFrom.and (keep_own (fun _ : List (Fin m) => [(w.heap.size + 1, #[.bool false], 4), (w.heap.size, #[.slice (some ⟨bb, oo, none⟩) l.length cap], 74)]) hk2.below.size (fun D hD => by cases hD)) (fun _ _ _ _ h hg _ => Nat.le_trans h hg.size)
    clear hP b0l last0 c0 B0 B1
    refine range_places (p := 23) (q := 6) (by omega) rfl hseq (Nat.le_refl _) (fun pre W => (Keep w [(w.heap.size + 1, #[.bool false], 4), (w.heap.size, #[.slice (some ⟨bb, oo, none⟩) l.length cap], 74)] [] W ∧ w2.heap.size ≤ W.heap.size) ∧ ∀ p ∈ pre, bitOf l p.val = true)
      (fun c pre W => (Keep w [(w.heap.size + 1, #[.bool false], 4), (w.heap.size, #[.slice (some ⟨bb, oo, none⟩) l.length cap], 74)] [] W ∧ w2.heap.size ≤ W.heap.size) ∧ c = .ret ∧ ∃ p ∈ pre, bitOf l p.val = false)
      (fun s A B row h hg hr => ⟨hown s A B row h.1 hg hr, h.2⟩) (fun c s A B row h hg hr => ⟨hown s A B row h.1 hg hr, h.2⟩) ⟨⟨hk2, Nat.le_refl _⟩, by simp⟩ ?assign ?body ?done ?stop
    case assign =>
      intro lb x W K hK
      simp only [List.setIfInBounds_toArray, List.set_cons_succ, List.set_cons_zero] at hK ⊢
      gi_wp2
      exact hK
    case body =>
      rintro lb pre x W ⟨⟨hk, hsz⟩, hpre⟩ hlen
      simp only [List.setIfInBounds_toArray, List.set_cons_succ, List.set_cons_zero]
      obtain ⟨p, hp⟩ := x
      obtain ⟨pq, hpq2⟩ : ∃ pq, p / 8 = pq := ⟨_, rfl⟩
      obtain ⟨pr, hpr2⟩ : ∃ pr, p % 8 = pr := ⟨_, rfl⟩
      have f1 : (p : Int) / 8 = (pq : Int) := by omega
      have f2 : (p : Int) % 8 = (pr : Int) := by omega
      have f3 : IntKind.u64.wrap (pq : Int) = (pq : Int) := by rw [IntKind.wrap_u64]; omega
      have f4 : IntKind.u64.wrap (pr : Int) = (pr : Int) := by rw [IntKind.wrap_u64]; omega
      have hpl : pq < l.length := by omega
      obtain ⟨c, hc⟩ : ∃ c, l[pq]? = some c := ⟨_, List.getElem?_eq_getElem hpl⟩
      obtain ⟨b', o', e', _, hcell⟩ := (H.out.kept hk.below).byte_at hc
      cases e'
      have G0 := hk.blk (w.heap.size, #[.slice (some ⟨bb, oo, none⟩) l.length cap], 74) (by simp)
      have G1 := hk.blk (w.heap.size + 1, #[.bool false], 4) (by simp)
      have g0 : W.cell? ⟨w.heap.size, 0, none⟩ = some (.slice (some ⟨bb, oo, none⟩) l.length cap) := G0.cell 0 _ rfl
      have g1 := G0.lt
      have g2 : W.cell? ⟨w.heap.size + 1, 0, none⟩ = some (.bool false) := G1.cell 0 _ rfl
      have g3 := G1.lt
      have g4 := G1.frozen 0
      simp only at g1 g3
      have n0 : (0 : Int) ≤ (pq : Int) := by omega
      have n1 : (pq : Int) < (l.length : Int) := by omega
      have hbit : bitOf l p = decide (c.toNat / 2 ^ pr % 2 = 1) := by
        unfold bitOf
        rw [hpq2, hpr2, List.getD_eq_getElem?_getD, hc]
        rfl
      have hbt : bits .and .u8 ((c.toNat : Int) / (2 : Int) ^ pr) 1 = ((c.toNat / 2 ^ pr % 2 : Nat) : Int) := by
        have := bit_test c pr
        rw [show (((2 ^ pr : Nat) : Int)) = (2 : Int) ^ pr by simp] at this
        exact this
      have g4 : W.frozen? ⟨w.heap.size + 1, 0, none⟩ = false := g4
      have HX := Lib.hid hbit
      have HG1 := Lib.hid (show Blk W (w.heap.size + 1) #[.bool false] 4 from G1)
      clear hbit G0 G1 hc hseq hpq2 hpr2
      obtain ⟨z, hz⟩ : ∃ z, c.toNat / 2 ^ pr % 2 = z := ⟨_, rfl⟩
      rw [hz] at hbt HX
      have HZ := Lib.hid hz
      clear hz
      by_cases hb1 : z = 1
      · subst hb1
        gi_wp2_with fail
        refine ⟨KeepsFrom.refl _ _, ⟨Nat.le_refl _, fun _ _ _ => rfl⟩, ⟨hk, hsz⟩, fun q hq => ?_⟩
        rcases List.mem_append.1 hq with hq | hq
        · exact hpre q hq
        · obtain rfl : q = ⟨p, hp⟩ := by simpa using hq
          rw [HX.out]; rfl
      · obtain rfl : z = 0 := by have := HZ.out; omega
        gi_wp2_with fail
        refine ⟨keeps_setCell HG1.out _, ⟨hk.setRow (fun x hx => by simp at hx; subst hx; simp) (by simp) 0 (.bool false), by simpa using hsz⟩, rfl, ⟨p, hp⟩, by simp, by rw [HX.out]; rfl⟩
    case done =>
      rintro D W hDn ⟨⟨hk3, hsz⟩, hall⟩ hmk
      have G1 := hk3.blk (w.heap.size + 1, #[.bool false], 4) (by simp)
      have g2 : W.cell? ⟨w.heap.size + 1, 0, none⟩ = some (.bool false) := G1.cell 0 _ rfl
      have g3 : w.heap.size + 1 < W.heap.size := G1.lt
      have g4 : W.frozen? ⟨w.heap.size + 1, 0, none⟩ = false := G1.frozen 0
      have hkm := hk3.mark hmk
      have hks := hkm.setRow (fun x hx => by simp at hx; subst hx; simp) (by simp) 0 (.bool true)
      have HKS := Lib.hid hks
      have HT := Lib.hid (show mayN l key = true by
        rw [HM.out, ← placesF_val _ _ hmp, List.all_map, List.all_eq_true]
        exact fun q hq => hall q hq)
      clear hseq hk3 hkm hks G1 hown
      dsimp only
      gi_wp2_with fail
      have hDw := (Array.getElem?_eq_some_iff.1 hmk).1
      have B1 := HKS.out.blk (w.heap.size + 1, #[.bool true], 4) (by simp)
      refine leaves_marks (B := w.heap.size + 2) [D] _ (by simp) (fun D' hD' => ?_) (by simp; omega) (fun W' hb => ⟨_, may_result (b := w.heap.size + 1) (v := true) rfl (B1.below hb (by show w.heap.size + 1 < _; omega)), by rw [HT.out], HKS.out.below.trans (hb.mono (by omega))⟩)
      obtain rfl : D' = D := by simpa using hD'
      exact ⟨HKS.out.marks D' (by simp), by omega⟩
    case stop =>
      rintro D c pre W hDn hpre ⟨⟨hk3, hsz⟩, rfl, q, hq, hbit⟩ hmk
      have hkm := hk3.mark hmk
      have HKS := Lib.hid hkm
      have HT := Lib.hid (show mayN l key = false by
        rw [HM.out, ← placesF_val _ _ hmp, List.all_map, List.all_eq_false]
        exact ⟨q, hpre.subset hq, by show ¬ bitOf l q.val = true; rw [hbit]; simp⟩)
      clear hseq hk3 hkm hown
      dsimp only
      gi_wp2_with fail
      have B1 := HKS.out.blk (w.heap.size + 1, #[.bool false], 4) (by simp)
      refine leaves_marks (B := w.heap.size + 2) [D] _ (by simp) (fun D' hD' => ?_) (by omega) (fun W' hb => ⟨_, may_result (b := w.heap.size + 1) (v := false) rfl (B1.below hb (by show w.heap.size + 1 < _; omega)), by rw [HT.out], HKS.out.below.trans (hb.mono (by omega))⟩)
      obtain rfl : D' = D := by simpa using hD'
      exact ⟨HKS.out.marks D' (by simp), by omega⟩
  · have hcq : (ck == 0) = false := by simpa using hc0
    have HT := Lib.hid (show mayN l key = true by unfold mayN; rw [hck, if_pos hc0])
    have b0l := B0.lt
    have b1l := B1.lt
    have c0 := B0.cell 0 _ rfl
    have c1 := B1.cell 0 _ rfl
    have cf := B1.frozen 0
    clear h hck
    gi_wp2_with fail
    refine ⟨trivial, ?_⟩
    refine (callsIn_wide.2 HCK.out).mono ?_
    rintro e w1 ⟨rfl, hu⟩
    obtain rfl := hu.symm
    clear hW0
    gi_wp2_with fail
    have B2 := B1.setCell 0 (.bool true)
    have bB := bA.setCell (p := ⟨w.heap.size + 1, 0, none⟩) (by simp) (.bool true)
    refine leaves_marks (B := w.heap.size + 2) [] _ (by simp) (fun D' hD' => by cases hD') (by simp; omega) (fun W' hb => ⟨_, may_result (b := w.heap.size + 1) (v := true) rfl (B2.below hb (by omega)), by rw [HT.out], bB.trans (hb.mono (by omega))⟩)
end Go.Proofs.Ytbcaiegglbdonaa

/-
  What a table tells: made, Count, from, Get.
-/
namespace Go.Proofs.Ytbcaiegglbdonaa
open Go Go.RowKit
set_option linter.unusedSimpArgs false

/-! ### Where a key would begin -/
def lbN (ks : List ByteArray) (x : ByteArray) : Nat := (ks.takeWhile fun k => decide (SLt k x)).length
theorem lbN_le (ks : List ByteArray) (x : ByteArray) : lbN ks x ≤ ks.length := (List.takeWhile_sublist _).length_le
def Rising (ks : List ByteArray) : Prop := ks.Pairwise fun a b => ¬ SLt b a
theorem lbN_spec : ∀ {ks : List ByteArray} {x : ByteArray}, Rising ks → ∀ (i : Nat) (k : ByteArray), ks[i]? = some k → (SLt k x ↔ i < lbN ks x)
  | [], _, _, i, k, h => by cases h
  | a :: ks, x, hr, i, k, h => by
    obtain ⟨h1, h2⟩ := List.pairwise_cons.1 hr
    unfold lbN
    rw [List.takeWhile_cons]
    by_cases ha : SLt a x
    · rw [if_pos (by simpa using ha), List.length_cons]
      cases i with
      | zero => cases h; exact ⟨fun _ => Nat.succ_pos _, fun _ => ha⟩
      | succ i =>
        have := lbN_spec (x := x) h2 i k (by simpa using h)
        unfold lbN at this
        rw [this]
        omega
    · rw [if_neg (by simpa using ha)]
      have hk : ¬ SLt k x := by
        cases i with
        | zero => cases h; exact ha
        | succ i =>
          intro hkx
          have h3 := h1 k (List.mem_of_getElem? (by simpa using h))
          rcases SLt.total k a with h4 | h4 | h4
          · exact h3 h4
          · exact ha (h4 ▸ hkx)
          · exact ha (h4.trans hkx)
      simp [hk]
set_option maxRecDepth 100000 in
set_option maxHeartbeats 1000000 in
theorem probe_spec {w : World} {A : Option Addr} {cap p1 p2 : Nat} {ks : List ByteArray} {x : ByteArray} (h : Reads w (.slice A ks.length cap) ks.length 1 (ks.map Value.string)) (hr : Rising ks)
    (b1 : Blk w p1 #[.slice A ks.length cap] 142) (b2 : Blk w p2 #[.string x] 9) {i : Nat} (hi : i < ks.length) :
    Calls Try.prog 155 #[.int .i64 (i : Nat), .pointer (some ⟨p1, 0, none⟩), .pointer (some ⟨p2, 0, none⟩)] w fun e w' => e = .returned (.bool (decide (lbN ks x ≤ i))) ∧ Below w.heap.size w w' := by
  obtain ⟨k, hk⟩ : ∃ k, ks[i]? = some k := ⟨_, List.getElem?_eq_getElem hi⟩
  obtain ⟨b, o, rfl, hb, hc⟩ := h.str_at hk
  have hs := lbN_spec (x := x) hr i k hk
  have c1 : w.cell? ⟨p1, 0, none⟩ = some (.slice (some ⟨b, o, none⟩) ks.length cap) := b1.cell 0 _ rfl
  have c2 : w.cell? ⟨p2, 0, none⟩ = some (.string x) := b2.cell 0 _ rfl
  have l1 := b1.lt
  have l2 := b2.lt
  have i0 : (0 : Int) ≤ (i : Int) := by omega
  have i1 : (i : Int) < (ks.length : Int) := by omega
  clear h hk
  by_cases hl : SLt k x
  · have HR := Lib.hid (show decide (lbN ks x ≤ i) = false by simp; exact hs.1 hl)
    have hl2 : Op.bytesLess k.toList x.toList = true := (lt_str k x).2 hl
    have hl3 : Op.bytesLess x.toList k.toList = false := by
      cases h : Op.bytesLess x.toList k.toList with
      | false => rfl
      | true => exact (SLt.asymm' hl ((lt_str x k).1 h)).elim
    have hl4 : ¬ x = k := fun h => by subst h; exact SLt.irrefl _ hl
    clear hs
    go_enter Try.func155, Try.ntmps155
    go_wp2
    go_quiet (fail)
    go_wp2
    go_ret
    exact ⟨by rw [HR.out]; rfl, below_drewN (Below.refl _ _) nq⟩
  · have HR := Lib.hid (show decide (lbN ks x ≤ i) = true by simp; exact Nat.le_of_not_lt fun h => hl (hs.2 h))
    rcases SLt.total k x with h4 | h4 | h4
    · exact absurd h4 hl
    · subst h4
      have hl2 : Op.bytesLess k.toList k.toList = false := by rw [Lib.toList_data]; exact less_irrefl _
      clear hs hl
      go_enter Try.func155, Try.ntmps155
      go_wp2
      go_quiet (fail)
      go_wp2
      go_ret
      exact ⟨by rw [HR.out]; rfl, below_drewN (Below.refl _ _) nq⟩
    · have hl2 : Op.bytesLess x.toList k.toList = true := (lt_str x k).2 h4
      have hl3 : Op.bytesLess k.toList x.toList = false := by
        cases h : Op.bytesLess k.toList x.toList with
        | false => rfl
        | true => exact (hl ((lt_str k x).1 h)).elim
      have hl4 : ¬ x = k := fun h => by subst h; exact SLt.irrefl _ h4
      clear hs hl
      go_enter Try.func155, Try.ntmps155
      go_wp2
      go_quiet (fail)
      go_wp2
      go_ret
      exact ⟨by rw [HR.out]; rfl, below_drewN (Below.refl _ _) nq⟩
def ScRel (w : World) (n L : Nat) (i j : Value) (W : World) : Prop := ∃ a b : Nat, a ≤ L ∧ L ≤ b ∧ b ≤ n ∧ i = .int .i64 a ∧ j = .int .i64 b ∧ Below w.heap.size w W
set_option maxRecDepth 100000 in
set_option maxHeartbeats 1000000 in
theorem sort_search {w : World} {n L p1 p2 : Nat} (hn : n ≤ 4611686018427387904) (hL : L ≤ n) (hp : ∀ (i : Nat) W, i < n → Below w.heap.size w W → Calls Try.prog 155 #[.int .i64 (i : Nat), .pointer (some ⟨p1, 0, none⟩), .pointer (some ⟨p2, 0, none⟩)] W fun e W' => e = .returned (.bool (decide (L ≤ i))) ∧ Below W.heap.size W W') :
    Calls Try.prog 154 #[.int .i64 (n : Nat), .func (.func 155) #[] #[.pointer (some ⟨p1, 0, none⟩), .pointer (some ⟨p2, 0, none⟩)]] w fun e w' => e = .returned (.int .i64 (L : Nat)) ∧ Below w.heap.size w w' := by
  have HP := Lib.hid hp
  clear hp
  go_enter Try.func154, Try.ntmps154
  go_wp2_with fail
  go_loopw [5, 6] (ScRel w n L) (fun i j _ => (intOf j).toNat - (intOf i).toNat)
  case atStart => exact ⟨0, n, Nat.zero_le _, hL, Nat.le_refl _, rfl, rfl, Below.refl _ _⟩
  case round =>
    obtain ⟨a, b, ha, hb, hbn, rfl, rfl, hbel⟩ := hrel
    by_cases hlt : a < b
    · have j1 : (a : Int) < (b : Int) := by omega
      obtain ⟨h, hh⟩ : ∃ h, (a + b) / 2 = h := ⟨_, rfl⟩
      have w1 : IntKind.i64.wrap ((a : Int) + (b : Int)) = (a : Int) + (b : Int) := IntWalk.i64_in _ (by omega)
      have w2 : IntKind.u64.wrap ((a : Int) + (b : Int)) = (a : Int) + (b : Int) := by rw [IntKind.wrap_u64]; omega
      have w3 : ((a : Int) + (b : Int)) / 2 = (h : Int) := by omega
      have w4 : IntKind.i64.wrap (h : Int) = (h : Int) := IntWalk.i64_in _ (by omega)
      have w5 : IntKind.i64.wrap ((h : Int) + 1) = (h : Int) + 1 := IntWalk.i64_in _ (by omega)
      have hhn : h < n := by omega
      have HH := Lib.hid hh
      clear hh
      by_cases hlh : L ≤ h
      · have hd : decide (L ≤ h) = true := by simpa using hlh
        have hcall := HP.out h wr hhn hbel
        rw [hd] at hcall
        have HC := Lib.hid hcall
        clear hd hcall
        go_wp2_with fail
        refine HC.out.mono ?_
        rintro e w1 ⟨rfl, hb1⟩
        go_wp2_with fail
        go_roundw
        case rel => exact ⟨a, h, ha, hlh, by omega, rfl, rfl, hbel.trans (hb1.mono hbel.size)⟩
        case measure => have := HH.out; simp [intOf]; omega
      · have hd : decide (L ≤ h) = false := by simpa using hlh
        have hcall := HP.out h wr hhn hbel
        rw [hd] at hcall
        have HC := Lib.hid hcall
        clear hd hcall
        go_wp2_with fail
        refine HC.out.mono ?_
        rintro e w1 ⟨rfl, hb1⟩
        go_wp2_with fail
        go_roundw
        case rel => exact ⟨h + 1, b, by omega, hb, hbn, by go_num, rfl, hbel.trans (hb1.mono hbel.size)⟩
        case measure => have := HH.out; simp [intOf]; omega
    · obtain rfl : a = L := by omega
      have j1 : ¬ ((a : Int) < (b : Int)) := by omega
      go_wp2_with fail
      go_ret
      exact ⟨rfl, hbel⟩
set_option maxRecDepth 100000 in
theorem search_strings {w : World} {A : Option Addr} {cap : Nat} {ks : List ByteArray} (h : Reads w (.slice A ks.length cap) ks.length 1 (ks.map Value.string)) (hl : ks.length ≤ 4611686018427387904) (hr : Rising ks) (x : ByteArray) :
    Calls Try.prog 146 #[.slice A ks.length cap, .string x] w fun e w' => e = .returned (.int .i64 (lbN ks x : Nat)) ∧ Below w.heap.size w w' := by
  have bA : Below w.heap.size w ((w.alloc (.cells #[.slice A ks.length cap] 142)).alloc (.cells #[.string x] 9)) := ((Below.refl _ _).alloc (Nat.le_refl _) _).alloc (by simp) _
  have B0 : Blk ((w.alloc (.cells #[.slice A ks.length cap] 142)).alloc (.cells #[.string x] 9)) w.heap.size #[.slice A ks.length cap] 142 := (Blk.new _ _ _).alloc _
  have B1 : Blk ((w.alloc (.cells #[.slice A ks.length cap] 142)).alloc (.cells #[.string x] 9)) (w.heap.size + 1) #[.string x] 9 := Blk.new' _ _ _ (by simp)
  have hS := sort_search (w := (w.alloc (.cells #[.slice A ks.length cap] 142)).alloc (.cells #[.string x] 9)) (p1 := w.heap.size) (p2 := w.heap.size + 1) hl (lbN_le ks x) (fun i W hi hb => probe_spec (h.kept (bA.trans (hb.mono bA.size))) hr (B0.kept hb) (B1.kept hb) hi)
  have HS := Lib.hid hS
  have c0 := B0.cell 0 _ rfl
  have l0 := B0.lt
  clear h hS B0 B1
  go_enter Try.func146, Try.ntmps146
  go_wp2_with fail
  refine HS.out.mono ?_
  rintro e w1 ⟨rfl, hb1⟩
  go_wp2_with fail
  go_ret
  exact ⟨rfl, bA.trans (hb1.mono bA.size)⟩
/-! ### made, Count, from -/
set_option maxRecDepth 100000 in
theorem tmade_nil (w : World) : Calls Try.prog 121 #[.pointer none] w fun e w' => e = .returned (.bool false) ∧ w' = w := by
  go_enter Try.func121, Try.ntmps121
  go_wp2_with fail
  go_ret
  exact ⟨rfl, rfl⟩
set_option maxRecDepth 100000 in
theorem tmade_yes {w : World} {tp : Nat} {b : ByteArray} {x : FootN} {es : List Ent} (h : TabIs w tp b x es) (hne : es ≠ []) : Calls Try.prog 121 #[.pointer (some ⟨tp, 0, none⟩)] w fun e w' => e = .returned (.bool true) ∧ w' = w := by
  obtain ⟨vb, vB, vF, vl, ps, B, last, fs, h1, h2, h3, h4, h5, h6, h7⟩ := h.ex
  obtain ⟨A, cap, rfl⟩ := (Reads.of_own h3).form
  have t4 : w.cell? ⟨tp, 4, none⟩ = some (.slice A es.length cap) := h1.cell 4 _ rfl
  have tl := h1.lt
  have hl : (0 : Int) < (es.length : Int) := by
    have : es.length ≠ 0 := fun h => hne (List.eq_nil_of_length_eq_zero h)
    omega
  have hl2 : decide (0 < es.length) = true := by simp; omega
  clear h h1 h2 h3 h4 h5 h6 h7
  go_enter Try.func121, Try.ntmps121
  go_wp2_with fail
  go_ret
  exact ⟨by first | rfl | (show Ending.returned (Value.bool (decide (0 < es.length))) = _; rw [hl2]), rfl⟩
set_option maxRecDepth 100000 in
theorem tcount_spec {w : World} {tp : Nat} {b : ByteArray} {x : FootN} {es : List Ent} (h : TabIs w tp b x es) (hne : es ≠ []) : Calls Try.prog 67 #[.pointer (some ⟨tp, 0, none⟩)] w fun e w' => e = .returned (.int .i64 ((allC es).length : Nat)) ∧ w' = w := by
  have HM := Lib.hid (tmade_yes h hne)
  obtain ⟨vb, vB, vF, vl, ps, B, last, fs, h1, h2, h3, h4, h5, h6, h7⟩ := h.ex
  have t7 : w.cell? ⟨tp, 7, none⟩ = some (.int .i64 ((allC es).length : Nat)) := h1.cell 7 _ rfl
  have tl := h1.lt
  clear h h1 h2 h3 h4 h5 h6 h7
  go_enter Try.func67, Try.ntmps67
  go_wp2_with fail
  refine HM.out.mono ?_
  rintro e w1 ⟨rfl, hu⟩
  obtain rfl := hu.symm
  go_wp2_with fail
  go_ret
  exact ⟨rfl, rfl⟩
def fromN (es : List Ent) (x : ByteArray) : Nat := lbN (es.map Ent.key) x - 1
def RisingE (es : List Ent) : Prop := Rising (es.map Ent.key)
set_option maxRecDepth 100000 in
theorem from_spec {w : World} {tp : Nat} {b : ByteArray} {x : FootN} {es : List Ent} (h : TabIs w tp b x es) (hl : es.length ≤ 4611686018427387904) (hr : RisingE es) (k : ByteArray) :
    Calls Try.prog 123 #[.pointer (some ⟨tp, 0, none⟩), .string k] w fun e w' => e = .returned (.int .i64 (fromN es k : Nat)) ∧ Below w.heap.size w w' := by
  obtain ⟨vb, vB, vF, vl, ps, B, last, fs, h1, h2, h3, h4, h5, h6, h7⟩ := h.ex
  obtain ⟨A, cap, rfl⟩ := (Reads.of_own h4).form
  have t5 : w.cell? ⟨tp, 5, none⟩ = some (.slice A es.length cap) := h1.cell 5 _ rfl
  have tl := h1.lt
  have hks : (es.map Ent.key).length = es.length := by simp
  have hS := search_strings (w := w) (A := A) (cap := cap) (ks := es.map Ent.key) (by rw [hks, List.map_map]; exact Reads.of_own h4) (by rw [hks]; exact hl) hr k
  rw [hks] at hS
  have HS := Lib.hid hS
  have hle := lbN_le (es.map Ent.key) k
  rw [hks] at hle
  obtain ⟨L, hL⟩ : ∃ L, lbN (es.map Ent.key) k = L := ⟨_, rfl⟩
  rw [hL] at HS hle
  have w1 : IntKind.i64.wrap ((L : Int) - 1) = (L : Int) - 1 := IntWalk.i64_in _ (by omega)
  have w2 : max 0 ((L : Int) - 1) = ((L - 1 : Nat) : Int) := by omega
  have HF := Lib.hid (show fromN es k = L - 1 by unfold fromN; rw [hL])
  clear h h1 h2 h3 h4 h5 h6 h7 hS hL hks
  go_enter Try.func123, Try.ntmps123
  go_wp2_with fail
  refine HS.out.mono ?_
  rintro e w3 ⟨rfl, hb1⟩
  go_wp2_with fail
  go_ret
  exact ⟨by rw [HF.out]; rfl, hb1⟩
set_option maxRecDepth 100000 in
theorem tscan_make (p : Value) (s t : ByteArray) (w : World) (hp : ∃ q, p = .pointer q) :
    Calls Try.prog 66 #[p, .string s, .string t] w fun e w' => e = .returned (.func (.func 124) #[] #[.pointer (some ⟨w.heap.size, 0, none⟩), .pointer (some ⟨w.heap.size + 1, 0, none⟩), .pointer (some ⟨w.heap.size + 2, 0, none⟩)]) ∧
      Blk w' w.heap.size #[p] 95 ∧ Blk w' (w.heap.size + 1) #[.string s] 9 ∧ Blk w' (w.heap.size + 2) #[.string t] 9 ∧ Below w.heap.size w w' := by
  obtain ⟨q, rfl⟩ := hp
  go_enter Try.func66, Try.ntmps66
  go_wp2
  go_ret
  refine ⟨rfl, ?_, ?_, ?_, (((Below.refl _ _).alloc (Nat.le_refl _) _).alloc (by simp) _).alloc (by simp; omega) _⟩
  · exact ((Blk.new w _ _).alloc _).alloc _
  · have := (Blk.new (w.alloc (.cells #[.pointer q] 95)) #[.string s] 9).alloc (.cells #[.string t] 9)
    simpa using this
  · have := Blk.new ((w.alloc (.cells #[.pointer q] 95)).alloc (.cells #[.string s] 9)) #[.string t] 9
    simpa using this
/-! ### Get -/
def scanE : List Ent → ByteArray → Int → Cell × Bool
  | [], _, _ => (Cell.zero, false)
  | e :: es, k, q => if (seekC e.cells k q).2 = true then (if (seekC e.cells k q).1.key = k then ((seekC e.cells k q).1, true) else (Cell.zero, false)) else scanE es k q
def getT (es : List Ent) (fil : List UInt8) (k : ByteArray) (q : Int) : Cell × Bool := if mayN fil k = true then scanE (es.drop (fromN es k)) k q else (Cell.zero, false)
theorem cut_tail {w : World} {t : TypeId} {A : Option Addr} {n cap : Nat} {xs : List Value} (h : Reads w (.slice A n cap) n 1 xs) {L : Nat} (hL : L ≤ n) (hc : n ≤ cap) (ht : Try.prog.underlying t = some (.slice (Try.prog.elem t))) (hs : ∀ w, (sizeOf (Try.prog.elem t)).run Try.prog w = .ok 1 w) :
    ∃ a c, (∀ W, (Instr.sliceAt t (.slice A n cap) (some (.int .i64 (L : Nat))) none none).run Try.prog W = .ok (.slice a (n - L) c) W) ∧ Reads w (.slice a (n - L) c) (n - L) 1 (xs.drop L) := by
  have hx := h.1
  refine ⟨if cap = L then A else A.map (·.add (L * 1)), cap - L, fun W => ?_, ?_, by have := h.2.1; omega, _, _, rfl, ?_⟩
  · rw [run_sliceAt_slice (P := Try.prog) W t _ _ _ _ ht, run_slice_l W t A n cap ht .i64 L (by omega) (by omega), hs]
    rfl
  · rw [List.length_drop]; omega
  · by_cases h0 : n - L = 0
    · exact .inl h0
    · right
      obtain ⟨b, o, rfl, hbl, hcell⟩ := h.some_at (by omega)
      rw [if_neg (by omega)]
      refine ⟨b, o + L * 1, by rw [Option.map_some, add_at rfl], hbl, fun j u hj => ?_⟩
      rw [List.getElem?_drop] at hj
      have := hcell (L + j) _ hj
      rw [Nat.mul_one, Nat.add_assoc]
      exact this
theorem own_cap {w : World} {B e size n cap : Nat} {A : Option Addr} {xs : List Value} (h : w.ownsRow B e size (.slice A n cap) n xs) : n ≤ cap := by
  rcases h.2 with ⟨h, h2⟩ | ⟨_, _, _, h, _, _, hc, _⟩
  · omega
  · cases h; exact hc
def GtRel (w : World) (R : List Ent) (k : ByteArray) (q : Int) (i : Value) (W : World) : Prop :=
  ∃ n : Nat, n ≤ R.length ∧ i = .int .i64 n ∧ Below w.heap.size w W ∧ Blk W w.heap.size #[.string ⟨#[]⟩, .int .u64 0, .string ⟨#[]⟩, .bool false] 25 ∧ scanE R k q = scanE (R.drop n) k q
set_option maxRecDepth 100000 in
set_option maxHeartbeats 4000000 in
theorem tget_spec {w : World} {tp : Nat} {b : ByteArray} {x : FootN} {es : List Ent} (h : TabIs w tp b x es) (hb : b.size ≤ 1048576) (hne : es ≠ []) (hel : es.length ≤ 4611686018427387904) (hr : RisingE es) (had : ∀ e ∈ es, adjC e.cells = true) (k : ByteArray) (hk : k.size ≤ 2147483648) (q : Int) :
    Calls Try.prog 63 #[.pointer (some ⟨tp, 0, none⟩), .string k, .int .u64 q] w (CellPost w (getT es (b.extract x.fa x.ia).data.toList k q)) := by
  have bA : Below w.heap.size w (w.alloc (.cells #[.string ⟨#[]⟩, .int .u64 0, .string ⟨#[]⟩, .bool false] 25)) := (Below.refl _ _).alloc (Nat.le_refl _) _
  have hZ := Blk.new w #[.string ⟨#[]⟩, .int .u64 0, .string ⟨#[]⟩, .bool false] 25
  have HM := Lib.hid (tmade_yes (h.kept bA) hne)
  have HFR := Lib.hid (fun (W : World) (hW : Below w.heap.size w W) => from_spec (h.kept hW) hel hr k)
  obtain ⟨vb, vB, vF, vl, ps, B, last, fs, h1, h2, h3, h4, h5, h6, h7⟩ := h.ex
  obtain ⟨A, cap, rfl⟩ := (Reads.of_own h3).form
  obtain ⟨A6, c6, rfl⟩ := h6.form
  obtain ⟨fil, hfil⟩ : ∃ fil, (b.extract x.fa x.ia).data.toList = fil := ⟨_, rfl⟩
  have hfl : fil.length = fs := by have := h6.1; rw [bv_len, hfil] at this; omega
  have hfb : fs ≤ 1048576 := by
    rw [← hfl, ← hfil]
    exact Nat.le_trans (ex_size_le b x.fa x.ia) hb
  rw [hfil] at h6 ⊢
  subst hfl
  have hmy := may_spec (h6.kept bA) (by omega) k hk
  obtain ⟨my, hmy2⟩ : ∃ my, mayN fil k = my := ⟨_, rfl⟩
  rw [hmy2] at hmy
  have HMY := Lib.hid hmy
  have t6 := cell_keep bA (h1.cell 6 _ rfl : w.cell? ⟨tp, 6, none⟩ = some (.slice A6 fil.length c6))
  have t4 : w.cell? ⟨tp, 4, none⟩ = some (.slice A es.length cap) := h1.cell 4 _ rfl
  have tl0 := h1.lt
  have tl := Nat.lt_of_lt_of_le tl0 bA.size
  have hG : getT es fil k q = if my = true then scanE (es.drop (fromN es k)) k q else (Cell.zero, false) := by unfold getT; rw [hmy2]
  have hcap := own_cap h3
  have HPS := Lib.hid (Reads.of_own h3)
  have HBK := Lib.hid h5
  have HZ := Lib.hid hZ
  clear h h1 h2 h3 h4 h5 h6 h7 hmy hmy2 hfil hZ
  cases my with
  | false =>
    have HG := Lib.hid (show getT es fil k q = (Cell.zero, false) by rw [hG]; rfl)
    clear hG
    go_enter Try.func63, Try.ntmps63
    go_wp2_with fail
    refine HM.out.mono ?_
    rintro e w1 ⟨rfl, hu⟩
    obtain rfl := hu.symm
    go_wp2_with fail
    refine HMY.out.mono ?_
    rintro e w2 ⟨rfl, hb2⟩
    have hZ2 := HZ.out.kept hb2
    have f0 := hZ2.frozen
    have f1 := hZ2.lt
    obtain ⟨z0, z1, z2, z3⟩ := cell4 hZ2
    go_wp2_with fail
    refine bodyPost_ret (v := .tuple #[cellW Cell.zero, .bool false]) ?_ rfl ⟨by rw [HG.out], ?_⟩
    · have hZ3 := (((hZ2.setCell 0 (.string ⟨#[]⟩)).setCell 1 (.int .u64 0)).setCell 2 (.string ⟨#[]⟩)).setCell 3 (.bool false)
      obtain ⟨r0, r1, r2, r3⟩ := cell4 (v0 := .string ⟨#[]⟩) (v1 := .int .u64 0) (v2 := .string ⟨#[]⟩) (v3 := .bool false) hZ3
      simp [results, Try.results63, go_sem, cellW, Cell.zero, r0, r1, r2, r3]; rfl
    · exact Below.set4 (bA.trans (hb2.mono bA.size)) (Nat.le_refl _) 0 1 2 3 _ _ _ _
  | true =>
    rw [if_pos rfl] at hG
    obtain ⟨L, hL⟩ : ∃ L, fromN es k = L := ⟨_, rfl⟩
    rw [hL] at hG
    simp only [hL] at HFR
    have hLn : L ≤ es.length := by
      rw [← hL]; unfold fromN
      have := lbN_le (es.map Ent.key) k
      rw [List.length_map] at this
      omega
    obtain ⟨a2, c2, hcut, hrd⟩ := cut_tail HPS.out hLn hcap (t := 86) (by kernel_rfl) (fun w => by go_simp)
    obtain ⟨R, hR⟩ : ∃ R, es.drop L = R := ⟨_, rfl⟩
    have hRl : es.length - L = R.length := by rw [← hR, List.length_drop]
    rw [hRl] at hcut hrd
    rw [hR] at hG
    have HG := Lib.hid hG
    have hRle : R.length ≤ 4611686018427387904 := by omega
    have HRR := Lib.hid hR
    have HRD := Lib.hid hrd
    clear hG hL hR hRl hrd
    go_enter Try.func63, Try.ntmps63
    go_wp2_with fail
    refine HM.out.mono ?_
    rintro e w1 ⟨rfl, hu⟩
    obtain rfl := hu.symm
    go_wp2_with fail
    refine HMY.out.mono ?_
    rintro e w2 ⟨rfl, hb2⟩
    have b2 := bA.trans (hb2.mono bA.size)
    have y4 := cell_keep b2.drew t4
    have yl := Nat.lt_of_lt_of_le tl0 b2.drew.size
    go_wp2_with fail
    refine region_plan (S := fun w' => w'.cell? ⟨tp, 4, none⟩ = some (.slice A es.length cap) ∧ tp < w'.heap.size)
      ((0, true) :: (1, true) :: (2, true) :: (3, true) :: (4, true) :: (5, true) :: (9, true) :: (6, false) :: (7, true) :: (8, true) :: [])
      (by kernel_rfl) (by kernel_rfl) (by kernel_rfl) (by kernel_rfl) (fun _ _ _ dst _ h => by cases dst <;> exact h) ⟨y4, yl⟩ (fun hH => ?_)
    (repeat (first | (refine plan_take (v := ?_) (by (simp only [List.getElem?_toArray, List.getElem?_cons_succ, List.getElem?_cons_zero]; exact rfl)) (by rfl) ?_ ?_; rotate_left; (focus (intro wS hS; (try dsimp only at hS); go_split_ands; go_simp; (try with_reducible rfl))); simp only [Act.put, List.setIfInBounds_toArray, List.set_cons_zero, List.set_cons_succ]) | (refine plan_skip (by (simp only [List.getElem?_toArray, List.getElem?_cons_succ, List.getElem?_cons_zero]; exact rfl)) (by rfl) ?_; simp only [Act.put, List.setIfInBounds_toArray, List.set_cons_zero, List.set_cons_succ])))
    (refine plan_solo (by (simp only [List.getElem?_toArray, List.getElem?_cons_succ, List.getElem?_cons_zero]; exact rfl)) (by rfl) ?_; intro K hK; go_simp)
    refine (HFR.out _ b2.drew).mono ?_
    rintro e w3 ⟨rfl, hb3⟩
    have b3 := b2.drew.trans (hb3.mono b2.drew.size)
    refine hK.out _ _ ⟨cell_keep b3 t4, Nat.lt_of_lt_of_le tl0 b3.size⟩ (fun hH => ?_)
    clear hK K hH
    (try simp only [Act.put, List.setIfInBounds_toArray, List.set_cons_zero, List.set_cons_succ])
    (repeat (first | (refine plan_take (v := ?_) (by (simp only [List.getElem?_toArray, List.getElem?_cons_succ, List.getElem?_cons_zero]; exact rfl)) (by rfl) ?_ ?_; rotate_left; (focus (intro wS hS; (try dsimp only at hS); go_split_ands; go_simp; (try with_reducible rfl))); simp only [Act.put, List.setIfInBounds_toArray, List.set_cons_zero, List.set_cons_succ]) | (refine plan_skip (by (simp only [List.getElem?_toArray, List.getElem?_cons_succ, List.getElem?_cons_zero]; exact rfl)) (by rfl) ?_; simp only [Act.put, List.setIfInBounds_toArray, List.set_cons_zero, List.set_cons_succ])))
    refine plan_nil ?_
    have hZ3 := ((HZ.out.kept hb2).drew).kept hb3
    clear y4 yl hb2 hb3
    go_wp2_with fail
    go_loopw [34] (GtRel w R k q) (fun i _ => R.length - (intOf i).toNat)
    case atStart => exact ⟨0, Nat.zero_le _, rfl, b3, hZ3, rfl⟩
    case round =>
      obtain ⟨n, hn, rfl, hbr, hZr, hsc⟩ := hrel
      have HSC := Lib.hid hsc
      clear hsc
      have f0 := hZr.frozen
      have f1 := hZr.lt
      obtain ⟨z0, z1, z2, z3⟩ := cell4 hZr
      by_cases hlt : n < R.length
      · obtain ⟨e, he⟩ : ∃ e, R[n]? = some e := ⟨_, List.getElem?_eq_getElem hlt⟩
        have hed : es[L + n]? = some e := by rw [← HRR.out, List.getElem?_drop] at he; exact he
        have hpl : L + n < ps.length := by rw [HBK.out.1]; exact (List.getElem?_eq_some_iff.1 hed).1
        obtain ⟨p, hp⟩ : ∃ p, ps[L + n]? = some p := ⟨_, List.getElem?_eq_getElem hpl⟩
        have hblk := (HBK.out.2 (L + n) e p hed hp).stay (T := fun _ => True) (.of_below hbr) trivial trivial
        obtain ⟨b4, o4, rfl, hb4l, hc4⟩ := (HRD.out.kept hbr).val_at (k := n) (v := .pointer (some ⟨p, 0, none⟩)) (by unfold ptrs; rw [List.getElem?_drop, List.getElem?_map, hp]; rfl)
        have k0 : (0 : Int) ≤ (n : Int) := by omega
        have k1 : (n : Int) < (R.length : Int) := by omega
        have w1 : IntKind.i64.wrap ((n : Int) + 1) = (n : Int) + 1 := IntWalk.i64_in _ (by omega)
        have hsk := blk_seek hblk (had e (List.mem_of_getElem? hed)) k q
        have hdr : R.drop n = e :: R.drop (n + 1) := by rw [List.drop_eq_getElem_cons hlt]; congr; simpa [List.getElem?_eq_getElem hlt] using he
        obtain ⟨y, hy⟩ : ∃ y, seekC e.cells k q = y := ⟨_, rfl⟩
        have hsc2 : scanE (R.drop n) k q = if y.2 = true then (if y.1.key = k then (y.1, true) else (Cell.zero, false)) else scanE (R.drop (n + 1)) k q := by rw [hdr, ← hy]; rfl
        rw [hy] at hsk
        obtain ⟨c, fd⟩ := y
        have HSK := Lib.hid hsk
        have HSC2 := Lib.hid hsc2
        clear he hed hpl hp hdr hy hsk hsc2 hblk
        unfold CellPost at HSK
        dsimp only at HSK
        cases fd with
        | false =>
          go_wp2_with fail
          refine HSK.out.mono ?_
          rintro e2 w4 ⟨rfl, hb4⟩
          have b4 := hbr.trans (hb4.mono hbr.size)
          unfold cellW
          go_wp2_with fail
          go_roundw
          case rel => exact ⟨n + 1, by omega, by go_num, b4.alloc b4.size _, (hZr.kept hb4).alloc _, by rw [HSC.out, HSC2.out]; rfl⟩
          case measure => simp [intOf]; omega
        | true =>
          by_cases hck : c.key = k
          · have HG2 := Lib.hid (show getT es fil k q = (c, true) by rw [HG.out, HSC.out, HSC2.out]; simp [hck])
            have hq : (c.key.toList != k.toList) = false := by rw [hck]; simp
            have hq2 : (c.key.toList == k.toList) = true := str_beq.2 hck
            clear hck
            go_wp2_with fail
            refine HSK.out.mono ?_
            rintro e2 w4 ⟨rfl, hb4⟩
            have b4 := hbr.trans (hb4.mono hbr.size)
            have hZ4 := (hZr.kept hb4).alloc (.cells #[.string c.key, .int .u64 c.seq, .string c.val, .bool c.gone] 25)
            have g0 := hZ4.frozen
            have g1 := hZ4.lt
            obtain ⟨x0, x1, x2, x3⟩ := cell4 hZ4
            obtain ⟨u0, u1, u2, u3⟩ := cell4 (Blk.new w4 #[.string c.key, .int .u64 c.seq, .string c.val, .bool c.gone] 25)
            have ul := (Blk.new w4 #[.string c.key, .int .u64 c.seq, .string c.val, .bool c.gone] 25).lt
            unfold cellW
            go_wp2_with fail
            have b5 := b4.alloc b4.size (.cells #[.string c.key, .int .u64 c.seq, .string c.val, .bool c.gone] 25)
            generalize hW5 : w4.alloc (.cells #[.string c.key, .int .u64 c.seq, .string c.val, .bool c.gone] 25) = W5 at hZ4 b5 ⊢
            clear hW5 x0 x1 x2 x3 u0 u1 u2 u3 ul g0 g1
            refine bodyPost_ret (v := .tuple #[cellW c, .bool true]) ?_ rfl ⟨by rw [HG2.out], ?_⟩
            · have hZ5 := (((hZ4.setCell 0 (.string c.key)).setCell 1 (.int .u64 c.seq)).setCell 2 (.string c.val)).setCell 3 (.bool c.gone)
              obtain ⟨r0, r1, r2, r3⟩ := cell4 (v0 := .string c.key) (v1 := .int .u64 c.seq) (v2 := .string c.val) (v3 := .bool c.gone) hZ5
              simp [results, Try.results63, go_sem, cellW, r0, r1, r2, r3]
            · exact Below.set4 b5 (Nat.le_refl _) 0 1 2 3 _ _ _ _
          · have HG2 := Lib.hid (show getT es fil k q = (Cell.zero, false) by rw [HG.out, HSC.out, HSC2.out]; simp [hck])
            have hq : (c.key.toList != k.toList) = true := by
              simp only [bne_iff_ne, ne_eq]
              intro h
              exact hck (by apply str_ext; rw [← Lib.toList_data, ← Lib.toList_data]; exact h)
            have hq2 : (c.key.toList == k.toList) = false := str_beq_false.2 hck
            clear hck
            go_wp2_with fail
            refine HSK.out.mono ?_
            rintro e2 w4 ⟨rfl, hb4⟩
            have b4 := hbr.trans (hb4.mono hbr.size)
            have hZ4 := (hZr.kept hb4).alloc (.cells #[.string c.key, .int .u64 c.seq, .string c.val, .bool c.gone] 25)
            have g0 := hZ4.frozen
            have g1 := hZ4.lt
            obtain ⟨x0, x1, x2, x3⟩ := cell4 hZ4
            obtain ⟨u0, u1, u2, u3⟩ := cell4 (Blk.new w4 #[.string c.key, .int .u64 c.seq, .string c.val, .bool c.gone] 25)
            have ul := (Blk.new w4 #[.string c.key, .int .u64 c.seq, .string c.val, .bool c.gone] 25).lt
            unfold cellW
            go_wp2_with fail
            have b5 := b4.alloc b4.size (.cells #[.string c.key, .int .u64 c.seq, .string c.val, .bool c.gone] 25)
            generalize hW5 : w4.alloc (.cells #[.string c.key, .int .u64 c.seq, .string c.val, .bool c.gone] 25) = W5 at hZ4 b5 ⊢
            clear hW5 x0 x1 x2 x3 u0 u1 u2 u3 ul g0 g1
            refine bodyPost_ret (v := .tuple #[cellW Cell.zero, .bool false]) ?_ rfl ⟨by rw [HG2.out], ?_⟩
            · have hZ5 := (((hZ4.setCell 0 (.string ⟨#[]⟩)).setCell 1 (.int .u64 0)).setCell 2 (.string ⟨#[]⟩)).setCell 3 (.bool false)
              obtain ⟨r0, r1, r2, r3⟩ := cell4 (v0 := .string ⟨#[]⟩) (v1 := .int .u64 0) (v2 := .string ⟨#[]⟩) (v3 := .bool false) hZ5
              simp [results, Try.results63, go_sem, cellW, Cell.zero, r0, r1, r2, r3]; rfl
            · exact Below.set4 b5 (Nat.le_refl _) 0 1 2 3 _ _ _ _
      · obtain rfl : n = R.length := by omega
        have HG2 := Lib.hid (show getT es fil k q = (Cell.zero, false) by rw [HG.out, HSC.out, List.drop_length]; rfl)
        go_wp2_with fail
        refine bodyPost_ret (v := .tuple #[cellW Cell.zero, .bool false]) ?_ rfl ⟨by rw [HG2.out], ?_⟩
        · have hZ3 := (((hZr.setCell 0 (.string ⟨#[]⟩)).setCell 1 (.int .u64 0)).setCell 2 (.string ⟨#[]⟩)).setCell 3 (.bool false)
          obtain ⟨r0, r1, r2, r3⟩ := cell4 (v0 := .string ⟨#[]⟩) (v1 := .int .u64 0) (v2 := .string ⟨#[]⟩) (v3 := .bool false) hZ3
          simp [results, Try.results63, go_sem, cellW, Cell.zero, r0, r1, r2, r3]; rfl
        · exact Below.set4 hbr (Nat.le_refl _) 0 1 2 3 _ _ _ _
end Go.Proofs.Ytbcaiegglbdonaa

/-
  A table's bytes read back: what the program's table.Open tells of what table.Build made. Plain.
-/
namespace Go.Proofs.Ytbcaiegglbdonaa
open Go
set_option linter.unusedSimpArgs false

/-! ### The pieces make the whole -/
theorem cut_flat (l : List Cell) (size : Int) (i : Nat) (hi : i ≤ l.length) : (cutS l size i).out.flatMap (pieceL l) = l.take (cutS l size i).start := by
  induction i with
  | zero => rfl
  | succ i ih =>
    have ih := ih (by omega)
    by_cases h : size ≤ ((cutS l size i).n + szAt l i : Nat) ∨ i + 1 = l.length
    · rw [cutS_yes h, List.flatMap_append, ih]
      have hs := cutS_start l size i
      show _ ++ [((cutS l size i).start, i + 1)].flatMap (pieceL l) = l.take (i + 1)
      rw [List.flatMap_singleton]
      unfold pieceL
      dsimp only
      have e : l.take (cutS l size i).start = (l.take (i + 1)).take (cutS l size i).start := by rw [List.take_take, Nat.min_eq_left (by omega)]
      rw [e, List.take_append_drop]
    · rw [cutS_no h]; exact ih
theorem cut_all (l : List Cell) (size : Int) (hl : l ≠ []) : (cutN l size).flatMap (pieceL l) = l := by
  unfold cutN
  rw [cut_flat l size l.length (Nat.le_refl _)]
  have hn : l.length ≠ 0 := fun h => hl (List.eq_nil_of_length_eq_zero h)
  obtain ⟨i, hi⟩ : ∃ i, l.length = i + 1 := ⟨l.length - 1, by omega⟩
  rw [hi, cutS_yes (.inr hi.symm)]
  show l.take (i + 1) = l
  rw [← hi, List.take_length]
theorem cut_ne (l : List Cell) (size : Int) (hl : l ≠ []) : cutN l size ≠ [] := fun h => by
  have := cut_all l size hl
  rw [h] at this
  exact hl this.symm
theorem cutN_mem {l : List Cell} {size : Int} {p : Nat × Nat} (h : p ∈ cutN l size) : p.1 < p.2 ∧ p.2 ≤ l.length := cutS_mem h
/-! ### The entries -/
def entL (l : List Cell) (r : Nat) (p : Nat × Nat) : Ent := ⟨keyB l p.1, ⟨(blockN (pieceL l p) r).toArray⟩, pieceL l p, (r : Int)⟩
def entsN (l : List Cell) (size r : Nat) : List Ent := (cutN l size).map (entL l r)
theorem ents_all (l : List Cell) (size r : Nat) (hl : l ≠ []) : allC (entsN l size r) = l := by
  have := cut_all l size hl
  unfold allC entsN
  rw [List.flatMap_map]
  exact this
theorem textR_text (s : ByteArray) (rest : List UInt8) (h : s.size < 18446744073709551616) : textR ⟨(WM.textN s ++ rest).toArray⟩ 0 = (s, ⟨rest.toArray⟩, 0) := by
  unfold textR WM.textN
  rw [List.append_assoc, varR_varN _ _ h]
  dsimp only
  have hs : (⟨(s.data.toList ++ rest).toArray⟩ : ByteArray).size = s.size + rest.length := by
    show (s.data.toList ++ rest).toArray.size = _
    rw [List.size_toArray, List.length_append]; rfl
  rw [if_neg (by simp), if_neg (by omega)]
  have e1 := ex_take s.data.toList rest
  have e2 := ex_app s.data.toList rest
  have hl : s.data.toList.length = s.size := rfl
  rw [hl] at e1 e2
  rw [e1, e2]
theorem entR_ent (k : ByteArray) (p z : Nat) (rest : List UInt8) (hk : k.size < 18446744073709551616) (hp : p < 18446744073709551616) (hz : z < 18446744073709551616) :
    entR ⟨((WM.textN k ++ (varN p ++ varN z)) ++ rest).toArray⟩ = some (k, p, z, ⟨rest.toArray⟩) := by
  unfold entR
  have e : (WM.textN k ++ (varN p ++ varN z)) ++ rest = WM.textN k ++ (varN p ++ (varN z ++ rest)) := by simp [List.append_assoc]
  rw [e, textR_text k _ hk]
  dsimp only
  rw [varR_varN _ _ hp]
  dsimp only
  rw [varR_varN _ _ hz]
  simp
def sufI (l : List Cell) (r : Nat) (ps : List (Nat × Nat)) (j : Nat) : List UInt8 := (List.range' j (ps.length - j)).flatMap (entN l r ps)
theorem sufI_zero (l : List Cell) (r : Nat) (ps : List (Nat × Nat)) : sufI l r ps 0 = partI l r ps ps.length := by
  unfold sufI partI
  rw [Nat.sub_zero, List.range_eq_range']
theorem sufI_step {l : List Cell} {r : Nat} {ps : List (Nat × Nat)} {j : Nat} (h : j < ps.length) : sufI l r ps j = entN l r ps j ++ sufI l r ps (j + 1) := by
  unfold sufI
  have e : ps.length - j = (ps.length - (j + 1)) + 1 := by omega
  rw [e, List.range'_succ, List.flatMap_cons]
theorem sufI_end {l : List Cell} {r : Nat} {ps : List (Nat × Nat)} {j : Nat} (h : ps.length ≤ j) : sufI l r ps j = [] := by
  unfold sufI
  have e : ps.length - j = 0 := by omega
  rw [e]; rfl
theorem partB_split {l : List Cell} {r : Nat} {ps : List (Nat × Nat)} {j : Nat} {p : Nat × Nat} (h : ps[j]? = some p) : ∃ R, partB l r ps ps.length = partB l r ps j ++ (blockN (pieceL l p) r ++ R) := by
  have hlt := (List.getElem?_eq_some_iff.1 h).1
  refine ⟨(ps.drop (j + 1)).flatMap fun p => blockN (pieceL l p) r, ?_⟩
  unfold partB
  rw [List.take_length]
  have e : ps = ps.take j ++ (p :: ps.drop (j + 1)) := by
    have h2 : ps.drop j = p :: ps.drop (j + 1) := by rw [List.drop_eq_getElem_cons hlt]; congr; simpa [List.getElem?_eq_getElem hlt] using h
    rw [← h2, List.take_append_drop]
  conv => lhs; rw [e]
  rw [List.flatMap_append, List.flatMap_cons]
theorem partB_le {l : List Cell} {r : Nat} {ps : List (Nat × Nat)} {j : Nat} {p : Nat × Nat} (h : ps[j]? = some p) : (partB l r ps j).length + (blockN (pieceL l p) r).length ≤ (partB l r ps ps.length).length := by
  obtain ⟨R, hR⟩ := partB_split (l := l) (r := r) h
  rw [hR]; simp only [List.length_append]; omega
/-- What is read of an index, if the body is there. -/
theorem idx_read {l : List Cell} {r : Nat} {ps : List (Nat × Nat)} {b : ByteArray} {rest : List UInt8} (hb : b.data.toList = partB l r ps ps.length ++ rest) (hB : (partB l r ps ps.length).length < 18446744073709551616)
    (hk : ∀ p ∈ ps, (keyB l p.1).size < 18446744073709551616 ∧ pieceL l p ≠ [] ∧ openN ⟨(blockN (pieceL l p) r).toArray⟩ = some (pieceL l p, (r : Int))) :
    ∀ (d j n : Nat), ps.length - j = d → (sufI l r ps j).length ≤ n → idxN b (partB l r ps ps.length).length n ⟨(sufI l r ps j).toArray⟩ = some ((ps.drop j).map (entL l r)) := by
  intro d
  induction d with
  | zero =>
    intro j n hj hn
    rw [sufI_end (by omega), List.drop_eq_nil_of_le (by omega)]
    exact idxN_end _ _ _ rfl
  | succ d ih =>
    intro j n hj hn
    have hlt : j < ps.length := by omega
    obtain ⟨p, hp⟩ : ∃ p, ps[j]? = some p := ⟨_, List.getElem?_eq_getElem hlt⟩
    obtain ⟨h1, h2, h3⟩ := hk p (List.mem_of_getElem? hp)
    have hle := partB_le (l := l) (r := r) hp
    have hpos : 1 ≤ (entN l r ps j).length := by
      rw [entN_eq hp]
      have := varN_pos (keyB l p.1).size
      unfold WM.textN
      simp only [List.length_append]; omega
    have hst := sufI_step (l := l) (r := r) hlt
    obtain ⟨n, rfl⟩ : ∃ n', n = n' + 1 := ⟨n - 1, by rw [hst, List.length_append] at hn; omega⟩
    have hsz : ¬ (⟨(sufI l r ps j).toArray⟩ : ByteArray).size = 0 := by
      show ¬ (sufI l r ps j).toArray.size = 0
      rw [hst]; simp only [List.size_toArray, List.length_append]; omega
    rw [idxN_step _ _ _ hsz]
    have he : entR ⟨(sufI l r ps j).toArray⟩ = some (keyB l p.1, (partB l r ps j).length, (blockN (pieceL l p) r).length, ⟨(sufI l r ps (j + 1)).toArray⟩) := by
      rw [hst, entN_eq hp]
      exact entR_ent _ _ _ _ h1 (by omega) (by omega)
    rw [he]
    dsimp only
    rw [if_neg (by omega)]
    obtain ⟨R, hR⟩ := partB_split (l := l) (r := r) hp
    have hex : b.extract (partB l r ps j).length ((partB l r ps j).length + (blockN (pieceL l p) r).length) = ⟨(blockN (pieceL l p) r).toArray⟩ := by
      apply ByteArray.ext
      apply Array.ext'
      have := ex_mid (partB l r ps j) (blockN (pieceL l p) r) (R ++ rest) _ _ rfl rfl
      have e : (⟨(partB l r ps j ++ (blockN (pieceL l p) r ++ (R ++ rest))).toArray⟩ : ByteArray) = b := by
        apply ByteArray.ext
        apply Array.ext'
        show _ = b.data.toList
        rw [hb, hR]
        simp [List.append_assoc]
      rw [e] at this
      exact this
    rw [hex, h3]
    dsimp only
    rw [if_neg h2]
    have hlen2 : (sufI l r ps (j + 1)).length ≤ n := by rw [hst, List.length_append] at hn; omega
    rw [ih (j + 1) n (by omega) hlen2]
    have hdr : ps.drop j = p :: ps.drop (j + 1) := by rw [List.drop_eq_getElem_cons hlt]; congr; simpa [List.getElem?_eq_getElem hlt] using hp
    rw [hdr]
    rfl
/-! ### The foot -/
theorem whole_len (body fil idx : List UInt8) (n b r t : Nat) : (wholeN body fil idx n b r t).length = body.length + fil.length + idx.length + 36 := by
  unfold wholeN
  simp only [List.length_append, foot0_len, be4_len']
  show body.length + (fil.length + (idx.length + (28 + (4 + 4)))) = _
  omega
theorem numN_m32 (n : Nat) : numN (m32 n) = n % 4294967296 := numN_be4 (Nat.mod_lt _ (by decide))
theorem whole_num0 (body fil idx : List UInt8) (n b r t : Nat) : num4 ⟨(wholeN body fil idx n b r t).toArray⟩ 0 = body.length % 4294967296 := by
  have e : wholeN body fil idx n b r t = (body ++ fil ++ idx) ++ (m32 body.length ++ (m32 fil.length ++ m32 (body.length + fil.length) ++ m32 idx.length ++ m32 n ++ m32 b ++ be2 r ++ be2 t ++ be4 (crcN (fil ++ (idx ++ foot0 body.length fil.length idx.length n b r t))) ++ magicN)) := by
    unfold wholeN
    conv => lhs; arg 2; arg 2; arg 2; arg 1; rw [foot0]
    simp only [List.append_assoc]
  have hz : (⟨(wholeN body fil idx n b r t).toArray⟩ : ByteArray).size = body.length + fil.length + idx.length + 36 := whole_len body fil idx n b r t
  have hl4 : ∀ n, (m32 n).length = 4 := fun _ => rfl
  have hl2 : ∀ n, (be2 n).length = 2 := fun _ => rfl
  unfold num4
  rw [hz]
  conv => lhs; arg 1; rw [e]
  rw [ex_mid _ _ _ _ _ (by simp only [List.length_append, hl4, hl2]; omega) (by simp only [List.length_append, hl4, hl2]; omega)]
  exact numN_m32 _
theorem whole_num1 (body fil idx : List UInt8) (n b r t : Nat) : num4 ⟨(wholeN body fil idx n b r t).toArray⟩ 1 = fil.length % 4294967296 := by
  have e : wholeN body fil idx n b r t = (body ++ fil ++ idx ++ m32 body.length) ++ (m32 fil.length ++ (m32 (body.length + fil.length) ++ m32 idx.length ++ m32 n ++ m32 b ++ be2 r ++ be2 t ++ be4 (crcN (fil ++ (idx ++ foot0 body.length fil.length idx.length n b r t))) ++ magicN)) := by
    unfold wholeN
    conv => lhs; arg 2; arg 2; arg 2; arg 1; rw [foot0]
    simp only [List.append_assoc]
  have hz : (⟨(wholeN body fil idx n b r t).toArray⟩ : ByteArray).size = body.length + fil.length + idx.length + 36 := whole_len body fil idx n b r t
  have hl4 : ∀ n, (m32 n).length = 4 := fun _ => rfl
  have hl2 : ∀ n, (be2 n).length = 2 := fun _ => rfl
  unfold num4
  rw [hz]
  conv => lhs; arg 1; rw [e]
  rw [ex_mid _ _ _ _ _ (by simp only [List.length_append, hl4, hl2]; omega) (by simp only [List.length_append, hl4, hl2]; omega)]
  exact numN_m32 _
theorem whole_num2 (body fil idx : List UInt8) (n b r t : Nat) : num4 ⟨(wholeN body fil idx n b r t).toArray⟩ 2 = (body.length + fil.length) % 4294967296 := by
  have e : wholeN body fil idx n b r t = (body ++ fil ++ idx ++ m32 body.length ++ m32 fil.length) ++ (m32 (body.length + fil.length) ++ (m32 idx.length ++ m32 n ++ m32 b ++ be2 r ++ be2 t ++ be4 (crcN (fil ++ (idx ++ foot0 body.length fil.length idx.length n b r t))) ++ magicN)) := by
    unfold wholeN
    conv => lhs; arg 2; arg 2; arg 2; arg 1; rw [foot0]
    simp only [List.append_assoc]
  have hz : (⟨(wholeN body fil idx n b r t).toArray⟩ : ByteArray).size = body.length + fil.length + idx.length + 36 := whole_len body fil idx n b r t
  have hl4 : ∀ n, (m32 n).length = 4 := fun _ => rfl
  have hl2 : ∀ n, (be2 n).length = 2 := fun _ => rfl
  unfold num4
  rw [hz]
  conv => lhs; arg 1; rw [e]
  rw [ex_mid _ _ _ _ _ (by simp only [List.length_append, hl4, hl2]; omega) (by simp only [List.length_append, hl4, hl2]; omega)]
  exact numN_m32 _
theorem whole_num3 (body fil idx : List UInt8) (n b r t : Nat) : num4 ⟨(wholeN body fil idx n b r t).toArray⟩ 3 = idx.length % 4294967296 := by
  have e : wholeN body fil idx n b r t = (body ++ fil ++ idx ++ m32 body.length ++ m32 fil.length ++ m32 (body.length + fil.length)) ++ (m32 idx.length ++ (m32 n ++ m32 b ++ be2 r ++ be2 t ++ be4 (crcN (fil ++ (idx ++ foot0 body.length fil.length idx.length n b r t))) ++ magicN)) := by
    unfold wholeN
    conv => lhs; arg 2; arg 2; arg 2; arg 1; rw [foot0]
    simp only [List.append_assoc]
  have hz : (⟨(wholeN body fil idx n b r t).toArray⟩ : ByteArray).size = body.length + fil.length + idx.length + 36 := whole_len body fil idx n b r t
  have hl4 : ∀ n, (m32 n).length = 4 := fun _ => rfl
  have hl2 : ∀ n, (be2 n).length = 2 := fun _ => rfl
  unfold num4
  rw [hz]
  conv => lhs; arg 1; rw [e]
  rw [ex_mid _ _ _ _ _ (by simp only [List.length_append, hl4, hl2]; omega) (by simp only [List.length_append, hl4, hl2]; omega)]
  exact numN_m32 _
theorem whole_num4 (body fil idx : List UInt8) (n b r t : Nat) : num4 ⟨(wholeN body fil idx n b r t).toArray⟩ 4 = n % 4294967296 := by
  have e : wholeN body fil idx n b r t = (body ++ fil ++ idx ++ m32 body.length ++ m32 fil.length ++ m32 (body.length + fil.length) ++ m32 idx.length) ++ (m32 n ++ (m32 b ++ be2 r ++ be2 t ++ be4 (crcN (fil ++ (idx ++ foot0 body.length fil.length idx.length n b r t))) ++ magicN)) := by
    unfold wholeN
    conv => lhs; arg 2; arg 2; arg 2; arg 1; rw [foot0]
    simp only [List.append_assoc]
  have hz : (⟨(wholeN body fil idx n b r t).toArray⟩ : ByteArray).size = body.length + fil.length + idx.length + 36 := whole_len body fil idx n b r t
  have hl4 : ∀ n, (m32 n).length = 4 := fun _ => rfl
  have hl2 : ∀ n, (be2 n).length = 2 := fun _ => rfl
  unfold num4
  rw [hz]
  conv => lhs; arg 1; rw [e]
  rw [ex_mid _ _ _ _ _ (by simp only [List.length_append, hl4, hl2]; omega) (by simp only [List.length_append, hl4, hl2]; omega)]
  exact numN_m32 _
theorem whole_num5 (body fil idx : List UInt8) (n b r t : Nat) : num4 ⟨(wholeN body fil idx n b r t).toArray⟩ 5 = b % 4294967296 := by
  have e : wholeN body fil idx n b r t = (body ++ fil ++ idx ++ m32 body.length ++ m32 fil.length ++ m32 (body.length + fil.length) ++ m32 idx.length ++ m32 n) ++ (m32 b ++ (be2 r ++ be2 t ++ be4 (crcN (fil ++ (idx ++ foot0 body.length fil.length idx.length n b r t))) ++ magicN)) := by
    unfold wholeN
    conv => lhs; arg 2; arg 2; arg 2; arg 1; rw [foot0]
    simp only [List.append_assoc]
  have hz : (⟨(wholeN body fil idx n b r t).toArray⟩ : ByteArray).size = body.length + fil.length + idx.length + 36 := whole_len body fil idx n b r t
  have hl4 : ∀ n, (m32 n).length = 4 := fun _ => rfl
  have hl2 : ∀ n, (be2 n).length = 2 := fun _ => rfl
  unfold num4
  rw [hz]
  conv => lhs; arg 1; rw [e]
  rw [ex_mid _ _ _ _ _ (by simp only [List.length_append, hl4, hl2]; omega) (by simp only [List.length_append, hl4, hl2]; omega)]
  exact numN_m32 _
theorem whole_num6 (body fil idx : List UInt8) (n b r t : Nat) (h : r < 65536) : num2 ⟨(wholeN body fil idx n b r t).toArray⟩ 0 = r := by
  have e : wholeN body fil idx n b r t = (body ++ fil ++ idx ++ m32 body.length ++ m32 fil.length ++ m32 (body.length + fil.length) ++ m32 idx.length ++ m32 n ++ m32 b) ++ (be2 r ++ (be2 t ++ be4 (crcN (fil ++ (idx ++ foot0 body.length fil.length idx.length n b r t))) ++ magicN)) := by
    unfold wholeN
    conv => lhs; arg 2; arg 2; arg 2; arg 1; rw [foot0]
    simp only [List.append_assoc]
  have hz : (⟨(wholeN body fil idx n b r t).toArray⟩ : ByteArray).size = body.length + fil.length + idx.length + 36 := whole_len body fil idx n b r t
  have hl4 : ∀ n, (m32 n).length = 4 := fun _ => rfl
  have hl2 : ∀ n, (be2 n).length = 2 := fun _ => rfl
  unfold num2
  rw [hz]
  conv => lhs; arg 1; rw [e]
  rw [ex_mid _ _ _ _ _ (by simp only [List.length_append, hl4, hl2]; omega) (by simp only [List.length_append, hl4, hl2]; omega)]
  exact numN_be2 h
theorem whole_num7 (body fil idx : List UInt8) (n b r t : Nat) (h : t < 65536) : num2 ⟨(wholeN body fil idx n b r t).toArray⟩ 1 = t := by
  have e : wholeN body fil idx n b r t = (body ++ fil ++ idx ++ m32 body.length ++ m32 fil.length ++ m32 (body.length + fil.length) ++ m32 idx.length ++ m32 n ++ m32 b ++ be2 r) ++ (be2 t ++ (be4 (crcN (fil ++ (idx ++ foot0 body.length fil.length idx.length n b r t))) ++ magicN)) := by
    unfold wholeN
    conv => lhs; arg 2; arg 2; arg 2; arg 1; rw [foot0]
    simp only [List.append_assoc]
  have hz : (⟨(wholeN body fil idx n b r t).toArray⟩ : ByteArray).size = body.length + fil.length + idx.length + 36 := whole_len body fil idx n b r t
  have hl4 : ∀ n, (m32 n).length = 4 := fun _ => rfl
  have hl2 : ∀ n, (be2 n).length = 2 := fun _ => rfl
  unfold num2
  rw [hz]
  conv => lhs; arg 1; rw [e]
  rw [ex_mid _ _ _ _ _ (by simp only [List.length_append, hl4, hl2]; omega) (by simp only [List.length_append, hl4, hl2]; omega)]
  exact numN_be2 h
theorem whole_foot (body fil idx : List UInt8) (n b r t : Nat) (hr : r < 65536) (ht : t < 65536) :
    footOf ⟨(wholeN body fil idx n b r t).toArray⟩ = ⟨body.length % 4294967296, fil.length % 4294967296, (body.length + fil.length) % 4294967296, idx.length % 4294967296, n % 4294967296, b % 4294967296, r, t⟩ := by
  have hz : (⟨(wholeN body fil idx n b r t).toArray⟩ : ByteArray).size = body.length + fil.length + idx.length + 36 := whole_len body fil idx n b r t
  unfold footOf
  rw [if_neg (by omega), whole_num0, whole_num1, whole_num2, whole_num3, whole_num4, whole_num5, whole_num6 _ _ _ _ _ _ _ hr, whole_num7 _ _ _ _ _ _ _ ht]
theorem pieceL_ne {l : List Cell} {p : Nat × Nat} (h1 : p.1 < p.2) (h2 : p.2 ≤ l.length) : pieceL l p ≠ [] := fun h => by
  have := pieceL_len h2
  rw [h] at this
  simp only [List.length_nil] at this
  omega
theorem keyB_size {l : List Cell} (h : ∀ c ∈ l, c.key.size ≤ 128) (i : Nat) : (keyB l i).size ≤ 128 := by
  unfold keyB
  cases hx : l[i]? with
  | none => exact Nat.zero_le _
  | some x => exact h x (List.mem_of_getElem? hx)
theorem piece_open {l : List Cell} {r : Nat} {p : Nat × Nat} (hc : checkL l = 0) (hs : ∀ c ∈ l, 0 ≤ c.seq) (hr : 1 ≤ r ∧ r ≤ 64) (hf : (blockN (pieceL l p) r).length ≤ 65536) : buildN (pieceL l p) r = (blockN (pieceL l p) r, 0) ∧ openN ⟨(blockN (pieceL l p) r).toArray⟩ = some (pieceL l p, (r : Int)) := by
  have hb : buildN (pieceL l p) r = (blockN (pieceL l p) r, 0) := by
    unfold buildN
    rw [if_neg (by omega), if_neg (by rw [pieceL_check hc]; simp), Int.toNat_natCast, if_pos hf]
  exact ⟨hb, openN_build (fit_of (pieceL_check hc) (fun c hc => hs c (pieceL_mem hc))) hb⟩
/-- What a built table's bytes are. -/
structure BuiltT (l : List Cell) (b r t : Nat) (bs : List UInt8) : Prop where
  shape : 64 ≤ b ∧ b ≤ 32768 ∧ 1 ≤ r ∧ r ≤ 64 ∧ 1 ≤ t ∧ t ≤ 32
  len : l.length ≤ 65536 ∧ l ≠ []
  check : checkL l = 0
  fits : fitsP l r (cutN l b)
  small : (bytesT l b r t).length ≤ 1048576
  eq : bs = bytesT l b r t
theorem tableN_built {l : List Cell} {b r t : Int} {bs : List UInt8} (h : tableN l b r t = (bs, 0)) : ∃ b' r' t' : Nat, b = b' ∧ r = r' ∧ t = t' ∧ BuiltT l b' r' t' bs := by
  by_cases hc : checkT l b r t = 0
  · obtain ⟨s1, h2, h3, h4⟩ := checkT_ok hc
    obtain ⟨b', rfl⟩ : ∃ b' : Nat, b = b' := ⟨b.toNat, by omega⟩
    obtain ⟨r', rfl⟩ : ∃ r' : Nat, r = r' := ⟨r.toNat, by omega⟩
    obtain ⟨t', rfl⟩ : ∃ t' : Nat, t = t' := ⟨t.toNat, by omega⟩
    refine ⟨b', r', t', rfl, rfl, rfl, ?_⟩
    rw [tableN_ok hc] at h
    split at h
    · exact absurd (congrArg Prod.snd h) (by simp)
    · rename_i hf
      have hf := Classical.not_not.1 hf
      split at h
      · exact absurd (congrArg Prod.snd h) (by simp)
      · rename_i hsm
        exact ⟨by omega, ⟨h2, fun e => h3 (by rw [e]; rfl)⟩, h4, hf, by omega, (congrArg Prod.fst h).symm⟩
  · unfold tableN at h
    rw [if_pos hc] at h
    exact absurd (congrArg Prod.snd h) hc
theorem BuiltT.table {l : List Cell} {b r t : Nat} {bs : List UInt8} (h : BuiltT l b r t bs) : tableN l b r t = (bs, 0) := by
  have hc : checkT l b r t = 0 := by
    unfold checkT
    have hS : checkS b r t = 0 := by unfold checkS; rw [if_neg (by have := h.shape; omega)]
    rw [hS, if_neg (by simp), if_neg (by have := h.len.1; omega), if_neg (fun e => h.len.2 (List.eq_nil_of_length_eq_zero e)), h.check, if_neg (by decide)]
  rw [tableN_ok hc, if_neg (fun e => e h.fits), if_neg (by have := h.small; omega), h.eq]
theorem BuiltT.foot {l : List Cell} {b r t : Nat} {bs : List UInt8} (h : BuiltT l b r t bs) :
    footOf ⟨bs.toArray⟩ = ⟨(bodyT l b r).length, (filterN (keysN l) t).length, (bodyT l b r).length + (filterN (keysN l) t).length, (indexT l b r).length, l.length, b, r, t⟩ ∧ footOk ⟨bs.toArray⟩ = true ∧
      bs.length = (bodyT l b r).length + (filterN (keysN l) t).length + (indexT l b r).length + 36 := by
  have hl := whole_len (bodyT l b r) (filterN (keysN l) t) (indexT l b r) l.length b r t
  have hsm := h.small
  have hln := h.len.1
  have hsh := h.shape
  unfold bytesT at hsm
  rw [hl] at hsm
  have hbs : bs = wholeN (bodyT l b r) (filterN (keysN l) t) (indexT l b r) l.length b r t := h.eq
  have hf := whole_foot (bodyT l b r) (filterN (keysN l) t) (indexT l b r) l.length b r t (by omega) (by omega)
  rw [← hbs] at hf hl
  rw [Nat.mod_eq_of_lt (by omega), Nat.mod_eq_of_lt (by omega), Nat.mod_eq_of_lt (by omega), Nat.mod_eq_of_lt (by omega), Nat.mod_eq_of_lt (by omega), Nat.mod_eq_of_lt (by omega)] at hf
  refine ⟨hf, ?_, hl⟩
  have hz : (⟨bs.toArray⟩ : ByteArray).size = bs.length := rfl
  unfold footOk
  rw [hf, hz, hl, decide_eq_true (by omega), decide_eq_true rfl, decide_eq_true (by dsimp only; omega)]
  rfl
theorem BuiltT.bodyEq (l : List Cell) (b r : Nat) : bodyT l b r = partB l r (cutN l b) (cutN l b).length := rfl
theorem BuiltT.ents {l : List Cell} {b r t : Nat} {bs : List UInt8} (h : BuiltT l b r t bs) (hs : ∀ c ∈ l, 0 ≤ c.seq) : ∀ p ∈ cutN l b, (keyB l p.1).size < 18446744073709551616 ∧ pieceL l p ≠ [] ∧ openN ⟨(blockN (pieceL l p) r).toArray⟩ = some (pieceL l p, (r : Int)) := by
  intro p hp
  obtain ⟨h1, h2⟩ := cutN_mem hp
  have hk := keyB_size (l := l) (fun c hc => (check_sizes ((checkL_both h.check).2 c hc)).1) p.1
  exact ⟨by omega, pieceL_ne h1 h2, (piece_open h.check hs ⟨h.shape.2.2.1, h.shape.2.2.2.1⟩ (h.fits p hp)).2⟩
/-- There and back. -/
theorem topen_build {l : List Cell} {b r t : Nat} {bs : List UInt8} (h : BuiltT l b r t bs) (hs : ∀ c ∈ l, 0 ≤ c.seq) : tOpenN ⟨bs.toArray⟩ = some (entsN l b r) := by
  obtain ⟨hf, hok, hlen⟩ := h.foot
  unfold tOpenN
  rw [if_pos hok, hf]
  dsimp only
  have hbs : bs = wholeN (bodyT l b r) (filterN (keysN l) t) (indexT l b r) l.length b r t := h.eq
  have hex : (⟨bs.toArray⟩ : ByteArray).extract ((bodyT l b r).length + (filterN (keysN l) t).length) ((bodyT l b r).length + (filterN (keysN l) t).length + (indexT l b r).length) = ⟨(indexT l b r).toArray⟩ := by
    apply ByteArray.ext
    apply Array.ext'
    have e : bs = (bodyT l b r ++ filterN (keysN l) t) ++ (indexT l b r ++ (foot0 (bodyT l b r).length (filterN (keysN l) t).length (indexT l b r).length l.length b r t ++ (be4 (crcN (filterN (keysN l) t ++ (indexT l b r ++ foot0 (bodyT l b r).length (filterN (keysN l) t).length (indexT l b r).length l.length b r t))) ++ magicN))) := by
      rw [hbs]; unfold wholeN; simp only [List.append_assoc]
    have := ex_mid _ _ _ ((bodyT l b r).length + (filterN (keysN l) t).length) ((bodyT l b r).length + (filterN (keysN l) t).length + (indexT l b r).length) (by rw [List.length_append]) (by rw [List.length_append]) |> (fun x => (show ((⟨((bodyT l b r ++ filterN (keysN l) t) ++ (indexT l b r ++ (foot0 (bodyT l b r).length (filterN (keysN l) t).length (indexT l b r).length l.length b r t ++ (be4 (crcN (filterN (keysN l) t ++ (indexT l b r ++ foot0 (bodyT l b r).length (filterN (keysN l) t).length (indexT l b r).length l.length b r t))) ++ magicN)))).toArray⟩ : ByteArray).extract _ _).data.toList = indexT l b r from x))
    rw [← e] at this
    exact this
  rw [hex]
  have hsm := h.small
  rw [← h.eq, hlen] at hsm
  have hread := idx_read (l := l) (r := r) (ps := cutN l b) (b := ⟨bs.toArray⟩) (rest := filterN (keysN l) t ++ (indexT l b r ++ (foot0 (bodyT l b r).length (filterN (keysN l) t).length (indexT l b r).length l.length b r t ++ (be4 (crcN (filterN (keysN l) t ++ (indexT l b r ++ foot0 (bodyT l b r).length (filterN (keysN l) t).length (indexT l b r).length l.length b r t))) ++ magicN)))) hbs (by show (bodyT l b r).length < _; omega) (h.ents hs) _ 0 (indexT l b r).length rfl (by rw [sufI_zero]; exact Nat.le_refl _)
  rw [sufI_zero] at hread
  have hread : idxN ⟨bs.toArray⟩ (bodyT l b r).length (indexT l b r).length ⟨(indexT l b r).toArray⟩ = some (entsN l b r) := hread
  rw [hread]
  dsimp only
  have hne : entsN l b r ≠ [] := fun e => by
    have := cut_ne l b h.len.2
    unfold entsN at e
    exact this (List.map_eq_nil_iff.1 e)
  rw [if_neg hne, ents_all l b r h.len.2, if_pos h.table]
end Go.Proofs.Ytbcaiegglbdonaa

/-
  What a built table tells: its filter has its keys; it is in order. Plain.
-/
namespace Go.Proofs.Ytbcaiegglbdonaa
open Go
set_option linter.unusedSimpArgs false

/-! ### The filter -/
theorem bitOf_test (b : List UInt8) (q : Nat) : bitOf b q = (b.getD (q / 8) 0).toNat.testBit (q % 8) := by
  unfold bitOf
  rw [Nat.testBit_eq_decide_div_mod_eq]
theorem setBit_get (b : List UInt8) (p i : Nat) : ((setBit b p).getD i 0).toNat = if i = p / 8 ∧ p / 8 < b.length then (b.getD (p / 8) 0).toNat ||| 2 ^ (p % 8) else (b.getD i 0).toNat := by
  unfold setBit
  rw [List.getD_eq_getElem?_getD, List.getElem?_set]
  by_cases h : p / 8 = i
  · subst h
    by_cases hl : p / 8 < b.length
    · rw [if_pos rfl, if_pos hl, if_pos ⟨rfl, hl⟩]
      have h1 : (b.getD (p / 8) 0).toNat < 2 ^ 8 := (b.getD (p / 8) 0).toNat_lt
      have h2 : 2 ^ (p % 8) < 2 ^ 8 := Nat.pow_lt_pow_right (by decide) (by omega)
      have h3 := Nat.or_lt_two_pow h1 h2
      show (UInt8.ofNat _).toNat = _
      rw [UInt8.toNat_ofNat']
      exact Nat.mod_eq_of_lt h3
    · rw [if_pos rfl, if_neg hl, if_neg (fun h => hl h.2), List.getD_eq_getElem?_getD, List.getElem?_eq_none (by omega)]
  · rw [if_neg h, if_neg (fun e => h e.1.symm), List.getD_eq_getElem?_getD]
theorem setBit_keeps {b : List UInt8} {p q : Nat} (h : bitOf b q = true) : bitOf (setBit b p) q = true := by
  rw [bitOf_test] at h ⊢
  rw [setBit_get]
  split
  · rename_i h2
    rw [← h2.1, Nat.testBit_or, h]; rfl
  · exact h
theorem setBit_sets {b : List UInt8} {p : Nat} (h : p / 8 < b.length) : bitOf (setBit b p) p = true := by
  rw [bitOf_test, setBit_get, if_pos ⟨rfl, h⟩, Nat.testBit_or, Nat.testBit_two_pow_self]
  simp
theorem fillN_keeps {q : Nat} : ∀ (ps : List Nat) (b : List UInt8), bitOf b q = true → bitOf (fillN b ps) q = true
  | [], _, h => h
  | p :: ps, b, h => fillN_keeps ps (setBit b p) (setBit_keeps h)
theorem fillN_sets {q : Nat} : ∀ (ps : List Nat) (b : List UInt8), q ∈ ps → q / 8 < b.length → bitOf (fillN b ps) q = true
  | [], _, h, _ => by cases h
  | p :: ps, b, h, hl => by
    rcases List.mem_cons.1 h with rfl | h
    · exact fillN_keeps ps _ (setBit_sets hl)
    · exact fillN_sets ps (setBit b p) h (by rw [setBit_len]; exact hl)
theorem fillK_keeps {m k q : Nat} : ∀ (ks : List ByteArray) (b : List UInt8), bitOf b q = true → bitOf (fillK m k b ks) q = true
  | [], _, h => h
  | _ :: ks, b, h => fillK_keeps ks _ (fillN_keeps _ b h)
theorem fillK_sets {m k q : Nat} {key : ByteArray} : ∀ (ks : List ByteArray) (b : List UInt8), key ∈ ks → q ∈ placesN (hashN key) (stepN key) m k → q / 8 < b.length → bitOf (fillK m k b ks) q = true
  | [], _, h, _, _ => by cases h
  | x :: ks, b, h, hq, hl => by
    rcases List.mem_cons.1 h with rfl | h
    · exact fillK_keeps ks _ (fillN_sets _ b hq hl)
    · exact fillK_sets ks _ h hq (by rw [fillN_len]; exact hl)
theorem fillN_last {i : Nat} : ∀ (ps : List Nat) (b : List UInt8), (∀ p ∈ ps, p / 8 ≠ i) → ((fillN b ps).getD i 0).toNat = (b.getD i 0).toNat
  | [], _, _ => rfl
  | p :: ps, b, h => by
    show ((fillN (setBit b p) ps).getD i 0).toNat = _
    rw [fillN_last ps _ (fun q hq => h q (by simp [hq])), setBit_get, if_neg (fun e => h p (by simp) e.1.symm)]
theorem fillK_last {m k i : Nat} (hi : m / 8 = i) (hm : 0 < m) (h8 : m % 8 = 0) : ∀ (ks : List ByteArray) (b : List UInt8), ((fillK m k b ks).getD i 0).toNat = (b.getD i 0).toNat
  | [], _ => rfl
  | x :: ks, b => by
    show ((fillK m k (fillN b _) ks).getD i 0).toNat = _
    rw [fillK_last hi hm h8 ks, fillN_last]
    intro p hp
    unfold placesN at hp
    obtain ⟨j, _, rfl⟩ := List.mem_map.1 hp
    have := placeN_lt (hashN x) (stepN x) j hm
    omega
theorem filter_last (ks : List ByteArray) (t : Nat) : lastF (filterN ks t) = fK t ∧ (filterN ks t).length = fM ks.length t / 8 + 1 := by
  have hl := filterN_len ks t
  obtain ⟨q, hq, hq8, _⟩ := fM_facts ks.length t
  refine ⟨?_, hl⟩
  unfold lastF
  rw [hl, Nat.add_sub_cancel]
  unfold filterN
  rw [fillK_last rfl (by omega) (by omega)]
  unfold startF
  rw [List.getD_eq_getElem?_getD, List.getElem?_append_right (by simp)]
  simp only [List.length_replicate, Nat.sub_self, List.getElem?_cons_zero, Option.getD_some]
  have : fK t ≤ 30 := by unfold fK; omega
  rw [UInt8.toNat_ofNat']
  omega
theorem may_filter {ks : List ByteArray} {t : Nat} {key : ByteArray} (h : key ∈ ks) : mayN (filterN ks t) key = true := by
  obtain ⟨h1, h2⟩ := filter_last ks t
  obtain ⟨q, hq, hq8, _⟩ := fM_facts ks.length t
  have hk : 1 ≤ fK t ∧ fK t ≤ 30 := by unfold fK; omega
  have hc : checkF (filterN ks t) = 0 := by
    unfold checkF
    rw [if_neg (by omega)]
  unfold mayN
  rw [hc, if_neg (by simp), h1, h2, Nat.add_sub_cancel]
  have hm : fM ks.length t / 8 * 8 = fM ks.length t := by omega
  rw [hm, List.all_eq_true]
  intro p hp
  unfold filterN
  refine fillK_sets ks _ h hp ?_
  rw [startF_len]
  unfold placesN at hp
  obtain ⟨j, _, rfl⟩ := List.mem_map.1 hp
  have := placeN_lt (hashN key) (stepN key) j (m := fM ks.length t) (by omega)
  omega
/-! ### The order -/
theorem cutS_order {l : List Cell} {size : Int} (i : Nat) : ((cutS l size i).out.Pairwise fun p q => p.2 ≤ q.1) ∧ ∀ p ∈ (cutS l size i).out, p.2 ≤ (cutS l size i).start := by
  induction i with
  | zero => exact ⟨List.Pairwise.nil, fun p h => by cases h⟩
  | succ i ih =>
    by_cases h : size ≤ ((cutS l size i).n + szAt l i : Nat) ∨ i + 1 = l.length
    · rw [cutS_yes h]
      have hs := cutS_start l size i
      refine ⟨List.pairwise_append.2 ⟨ih.1, by simp, fun p hp q hq => ?_⟩, fun p hp => ?_⟩
      · obtain rfl : q = _ := by simpa using hq
        exact ih.2 p hp
      · rcases List.mem_append.1 hp with hp | hp
        · have := ih.2 p hp
          show p.2 ≤ i + 1
          omega
        · obtain rfl : p = _ := by simpa using hp
          exact Nat.le_refl _
    · rw [cutS_no h]; exact ih
theorem cutN_order (l : List Cell) (size : Int) : (cutN l size).Pairwise fun p q => p.2 ≤ q.1 := (cutS_order l.length).1
theorem keyB_rise {l : List Cell} (h : adjC l = true) {i j : Nat} (hij : i < j) (hj : j < l.length) : ¬ SLt (keyB l j) (keyB l i) := by
  obtain ⟨x, hx⟩ : ∃ x, l[i]? = some x := ⟨_, List.getElem?_eq_getElem (by omega)⟩
  obtain ⟨y, hy⟩ : ∃ y, l[j]? = some y := ⟨_, List.getElem?_eq_getElem hj⟩
  rw [keyB_eq hx, keyB_eq hy]
  have := adjC_lt h (j - i - 1) i x y hx (by rw [show i + (j - i - 1) + 1 = j by omega]; exact hy)
  rcases this with h1 | ⟨h1, _⟩
  · exact fun h2 => SLt.asymm' h1 h2
  · rw [h1]; exact SLt.irrefl _
theorem ents_rise {l : List Cell} {size : Int} {r : Nat} (h : adjC l = true) : RisingE ((cutN l size).map (entL l r)) := by
  unfold RisingE Rising
  rw [List.map_map]
  refine List.pairwise_map.2 ?_
  refine List.Pairwise.imp_of_mem (R := fun p q => p.2 ≤ q.1) ?_ (cutN_order l size)
  intro p q hp hq hpq
  have h1 := cutN_mem hp
  have h2 := cutN_mem hq
  exact keyB_rise h (by omega) (by omega)
theorem ents_adj {l : List Cell} {size : Int} {r : Nat} (h : checkL l = 0) : ∀ e ∈ (cutN l size).map (entL l r), adjC e.cells = true := by
  intro e he
  obtain ⟨p, _, rfl⟩ := List.mem_map.1 he
  exact (checkL_both (pieceL_check h)).1
theorem ents_len (l : List Cell) (size : Int) (r : Nat) : ((cutN l size).map (entL l r)).length ≤ l.length := by
  rw [List.length_map]; exact cutS_len _ _ _
theorem keys_has {l : List Cell} {i : Nat} {c : Cell} (h : l[i]? = some c) : c.key ∈ keysN l := by
  have : ∀ n, n ≤ l.length → ∀ j, j < n → keyB l j ∈ keysS l n := by
    intro n
    induction n with
    | zero => intro _ j hj; omega
    | succ n ih =>
      intro hn j hj
      have hsub : ∀ x, x ∈ keysS l n → x ∈ keysS l (n + 1) := by
        intro x hx
        by_cases hc : n = 0 ∨ keyB l (n - 1) ≠ keyB l n
        · rw [keysS_yes hc]; exact List.mem_append_left _ hx
        · rw [keysS_no hc]; exact hx
      by_cases hjn : j = n
      · subst hjn
        by_cases hc : j = 0 ∨ keyB l (j - 1) ≠ keyB l j
        · rw [keysS_yes hc]; exact List.mem_append_right _ (by simp)
        · have h0 : j ≠ 0 := fun e => hc (.inl e)
          have h1 : keyB l (j - 1) = keyB l j := Classical.byContradiction fun e => hc (.inr e)
          rw [← h1]
          exact hsub _ (ih (by omega) (j - 1) (by omega))
      · exact hsub _ (ih (by omega) j (by omega))
  have hlt := (List.getElem?_eq_some_iff.1 h).1
  rw [← keyB_eq h]
  exact this l.length (Nat.le_refl _) i hlt
/-- The bytes of a built table's filter. -/
theorem BuiltT.filter {l : List Cell} {b r t : Nat} {bs : List UInt8} (h : BuiltT l b r t bs) : ((⟨bs.toArray⟩ : ByteArray).extract (footOf ⟨bs.toArray⟩).fa (footOf ⟨bs.toArray⟩).ia).data.toList = filterN (keysN l) t := by
  rw [h.foot.1]
  dsimp only
  have hbs : bs = bodyT l b r ++ (filterN (keysN l) t ++ (indexT l b r ++ (foot0 (bodyT l b r).length (filterN (keysN l) t).length (indexT l b r).length l.length b r t ++ (be4 (crcN (filterN (keysN l) t ++ (indexT l b r ++ foot0 (bodyT l b r).length (filterN (keysN l) t).length (indexT l b r).length l.length b r t))) ++ magicN)))) := h.eq
  conv => lhs; rw [hbs]
  exact ex_mid _ _ _ _ _ rfl rfl
end Go.Proofs.Ytbcaiegglbdonaa

/-
  The chapter's example: what every law of it calls first.
-/
namespace Go.Proofs.Ytbcaiegglbdonaa
open Go Go.RowKit
set_option linter.unusedSimpArgs false

theorem enc9_len {n : Nat} {c : Cell} (hc : checkN c = 0) (hn : n ≤ 128) : (encC n c).length ≤ 1167 := by
  have h1 := checkN_ok hc
  have e1 := varN_len 1 n (by have : (128 : Nat) ^ 2 = 16384 := by decide
                              omega)
  have e2 := varN_len 1 (c.key.size - n) (by have : (128 : Nat) ^ 2 = 16384 := by decide
                                             omega)
  have e3 := varN_len 1 c.val.size (by have : (128 : Nat) ^ 2 = 16384 := by decide
                                       omega)
  have e4 := varN_len 7 c.seq.toNat (by have : (128 : Nat) ^ 8 = 72057594037927936 := by decide
                                        omega)
  have k1 : (c.key.data.toList.drop n).length ≤ c.key.size := by rw [List.length_drop]; show c.key.data.toList.length - n ≤ _; show c.key.size - n ≤ _; omega
  have k2 : c.val.data.toList.length = c.val.size := rfl
  unfold encC
  simp only [List.length_append, List.length_singleton, k2]
  omega
theorem body9_len {l : List Cell} (hc : ∀ c ∈ l, checkN c = 0) (r : Nat) : ∀ k, (bodyN l r k).length ≤ 1167 * k
  | 0 => by simp [bodyN]
  | k + 1 => by
    have ih := body9_len hc r k
    rw [bodyN_succ, List.length_append]
    have : (encAt l r k).length ≤ 1167 := by
      cases hk : l[k]? with
      | none => simp [encAt, hk]
      | some c =>
        have h0 := hc c (List.mem_of_getElem? hk)
        have e : encAt l r k = encC (shAt l r k) c := by simp [encAt, hk]
        rw [e]
        refine enc9_len h0 ?_
        unfold shAt
        split
        · omega
        · have h2 := sharedN_le_right (keyAt l (k - 1)) (keyAt l k)
          have h3 : keyAt l k = c.key.data.toList := by simp [keyAt, hk]
          have h4 : c.key.data.toList.length = c.key.size := rfl
          have h5 := (checkN_ok h0).2.1
          rw [h3] at h2
          rw [h3]
          omega
    omega
theorem block9_fits {l : List Cell} (hc : ∀ c ∈ l, checkN c = 0) (hl : l.length ≤ 40) (r : Nat) : (blockN l r).length ≤ 65536 := by
  have h1 := body9_len hc r l.length
  have h2 : (startsN l r l.length).length ≤ l.length := by
    unfold startsN
    rw [List.length_map]
    have := List.length_filter_le (fun i => decide (i % r = 0)) (List.range l.length)
    simpa using this
  have h3 := be4_flat (startsN l r l.length)
  unfold blockN tailN
  simp only [List.length_append, h3]
  show _ + (_ + (4 + 2)) + 4 ≤ _
  omega
def exK : List Cell := [⟨⟨#[107]⟩, 9, ⟨#[120]⟩, false⟩, ⟨⟨#[107]⟩, 5, ⟨#[]⟩, true⟩]
theorem exK_checks : ∀ c ∈ exK, checkN c = 0 := by
  intro c hc
  simp only [exK, List.mem_cons, List.not_mem_nil, or_false] at hc
  rcases hc with rfl | rfl
  · unfold checkN; rw [if_pos ⟨by decide, by decide, by decide, (fun h => by cases h), by decide⟩]
  · unfold checkN; rw [if_pos ⟨by decide, by decide, by decide, (fun _ => by decide +kernel), by decide⟩]
theorem exK_check : checkL exK = 0 := by
  have h1 : ¬ ∃ c ∈ exK, checkN c = 60 := by
    rintro ⟨c, hc, h⟩
    rw [exK_checks c hc] at h
    exact absurd h (by decide)
  unfold checkL
  rw [if_neg h1, if_pos (by decide +kernel)]
theorem exK_seq : ∀ c ∈ exK, 0 ≤ c.seq := by
  intro c hc
  simp only [exK, List.mem_cons, List.not_mem_nil, or_false] at hc
  rcases hc with rfl | rfl <;> decide
theorem exK_cut : cutN exK 64 = [(0, 2)] := by decide +kernel
theorem exK_piece : pieceL exK (0, 2) = exK := rfl
theorem exK_keys : keysN exK = [⟨#[107]⟩] := by decide +kernel
theorem exK_built : BuiltT exK 64 2 10 (bytesT exK 64 2 10) := by
  have hfit := block9_fits (l := exK) exK_checks (by decide) 2
  have hcut : cutN exK ((64 : Nat) : Int) = [(0, 2)] := exK_cut
  refine ⟨by omega, ⟨by decide, by simp [exK]⟩, exK_check, ?_, ?_, rfl⟩
  · intro p hp
    rw [hcut] at hp
    obtain rfl : p = (0, 2) := by simpa using hp
    rw [exK_piece]; exact hfit
  · have h1 := whole_len (bodyT exK 64 2) (filterN (keysN exK) 10) (indexT exK 64 2) exK.length 64 2 10
    have h2 : (bodyT exK 64 2).length ≤ 65536 := by
      unfold bodyT
      rw [hcut]
      show (partB exK 2 [(0, 2)] 1).length ≤ _
      unfold partB
      simp only [List.take_succ_cons, List.take_zero, List.flatMap_cons, List.flatMap_nil, List.append_nil]
      rw [exK_piece]; exact hfit
    have h3 : (filterN (keysN exK) 10).length ≤ 10 := by
      rw [filterN_len, exK_keys]; decide
    have h4 : (indexT exK 64 2).length ≤ 200 := by
      unfold indexT
      rw [hcut]
      show (partI exK 2 [(0, 2)] 1).length ≤ _
      have e : partI exK 2 [(0, 2)] 1 = entN exK 2 [(0, 2)] 0 := by rw [partI_succ]; rfl
      rw [e, entN_eq (p := (0, 2)) rfl]
      have e1 := textN_len (s := keyB exK 0) (by decide +kernel)
      have e2 := varN_len 9 (partB exK 2 [(0, 2)] 0).length (by show 0 < _; decide)
      have e3 := varN_len 9 (blockN (pieceL exK (0, 2)) 2).length (by rw [exK_piece]; omega)
      simp only [List.length_append]
      omega
    unfold bytesT
    omega
def exE : Ent := entL exK 2 (0, 2)
theorem exK_ents : (cutN exK ((64 : Nat) : Int)).map (entL exK 2) = [exE] := by
  have hcut : cutN exK ((64 : Nat) : Int) = [(0, 2)] := exK_cut
  rw [hcut]; rfl
theorem exK_get (q : Int) : getT [exE] (filterN (keysN exK) 10) ⟨#[107]⟩ q = if (seekC exK ⟨#[107]⟩ q).2 = true then (if (seekC exK ⟨#[107]⟩ q).1.key = ⟨#[107]⟩ then ((seekC exK ⟨#[107]⟩ q).1, true) else (Cell.zero, false)) else (Cell.zero, false) := by
  have hm := may_filter (t := 10) (show (⟨#[107]⟩ : ByteArray) ∈ keysN exK by rw [exK_keys]; simp)
  unfold getT
  rw [hm, if_pos rfl]
  have hf : fromN [exE] ⟨#[107]⟩ = 0 := by decide +kernel
  rw [hf]
  rfl
theorem exK_get9 : getT [exE] (filterN (keysN exK) 10) ⟨#[107]⟩ 9 = (⟨⟨#[107]⟩, 9, ⟨#[120]⟩, false⟩, true) := by
  have hp : posN exK ⟨#[107]⟩ 9 = 0 := by decide +kernel
  rw [exK_get, seek_pos hp rfl]
  rfl
theorem exK_get8 : getT [exE] (filterN (keysN exK) 10) ⟨#[107]⟩ 8 = (⟨⟨#[107]⟩, 5, ⟨#[]⟩, true⟩, true) := by
  have hp : posN exK ⟨#[107]⟩ 8 = 1 := by decide +kernel
  rw [exK_get, seek_pos hp rfl]
  rfl
theorem exK_get4 : getT [exE] (filterN (keysN exK) 10) ⟨#[107]⟩ 4 = (Cell.zero, false) := by
  have hp : posN exK ⟨#[107]⟩ 4 = exK.length := by decide +kernel
  rw [exK_get, seek_end hp]
  rfl
set_option maxRecDepth 100000 in
theorem small_spec (w : World) : Calls Try.prog 116 #[] w fun e w' => e = .returned (.agg #[.int .i64 64, .int .i64 2, .int .i64 10]) ∧ Below w.heap.size w w' := by
  have hZ := Blk.new w #[.int .i64 0, .int .i64 0, .int .i64 0] 89
  have bA : Below w.heap.size w (w.alloc (.cells #[.int .i64 64, .int .i64 2, .int .i64 10] 89)) := (Below.refl _ _).alloc (Nat.le_refl _) _
  have hN := Blk.new w #[.int .i64 64, .int .i64 2, .int .i64 10] 89
  go_enter Try.func116, Try.ntmps116
  go_wp2_with fail
  refine bodyPost_ret (v := .agg #[.int .i64 64, .int .i64 2, .int .i64 10]) ?_ rfl ⟨rfl, bA⟩
  have r0 : World.cell? _ ⟨w.heap.size, 0, none⟩ = some (.int .i64 64) := hN.cell 0 _ rfl
  have r1 : World.cell? _ ⟨w.heap.size, 1, none⟩ = some (.int .i64 2) := hN.cell 1 _ rfl
  have r2 : World.cell? _ ⟨w.heap.size, 2, none⟩ = some (.int .i64 10) := hN.cell 2 _ rfl
  simp [results, Try.results116, go_sem, r0, r1, r2]
theorem size_arr (l : List UInt8) : (⟨l.toArray⟩ : ByteArray).size = l.length := rfl
theorem exE_adj : ∀ e ∈ [exE], adjC e.cells = true := by
  intro e he
  obtain rfl : e = exE := by simpa using he
  exact (checkL_both exK_check).1
theorem func_eql9 (x y z : Value) (W : World) : (binOp .eql 38 (.func (.func 124) #[] #[x, y, z]) .nilFunc).run Try.prog W = .ok (.bool false) W := by kernel_rfl
theorem exK_reads (w : World) : Reads (w.alloc (.cells #[.string ⟨#[107]⟩, .int .u64 9, .string ⟨#[120]⟩, .bool false, .string ⟨#[107]⟩, .int .u64 5, .string ⟨#[]⟩, .bool true] 25)) (.slice (some ⟨w.heap.size, 0, none⟩) exK.length 2) exK.length 4 (cellVals exK) := by
  refine ⟨rfl, by decide, _, _, rfl, .inr ⟨w.heap.size, 0, rfl, by simp, fun j u hj => ?_⟩⟩
  rw [Nat.zero_add]
  refine (Blk.new w _ _).cell j u ?_
  rw [← hj, ← Array.getElem?_toList]
  rfl
set_option maxRecDepth 100000 in
set_option maxHeartbeats 2000000 in
theorem tlives (w : World) : Calls Try.prog 56 #[] w fun e w' => e = .returned (.bool true) ∧ Below w.heap.size w w' := by
  have fq := func_eql9
  obtain ⟨bs, hbs⟩ : ∃ bs, bytesT exK 64 2 10 = bs := ⟨_, rfl⟩
  have hB := exK_built
  have hsm := hB.small
  rw [hbs] at hB hsm
  have htn : tableN exK ((64 : Nat) : Int) ((2 : Nat) : Int) ((10 : Nat) : Int) = (bs, 0) := hB.table
  have hopen := topen_build hB exK_seq
  have hfil := hB.filter
  have hents : entsN exK 64 2 = [exE] := exK_ents
  rw [hents] at hopen
  have bA : Below w.heap.size w (w.alloc (.cells #[.string ⟨#[107]⟩, .int .u64 9, .string ⟨#[120]⟩, .bool false, .string ⟨#[107]⟩, .int .u64 5, .string ⟨#[]⟩, .bool true] 25)) := (Below.refl _ _).alloc (Nat.le_refl _) _
  have hBU := fun (W : World) (hW : Below (w.alloc (.cells #[.string ⟨#[107]⟩, .int .u64 9, .string ⟨#[120]⟩, .bool false, .string ⟨#[107]⟩, .int .u64 5, .string ⟨#[]⟩, .bool true] 25)).heap.size (w.alloc (.cells #[.string ⟨#[107]⟩, .int .u64 9, .string ⟨#[120]⟩, .bool false, .string ⟨#[107]⟩, .int .u64 5, .string ⟨#[]⟩, .bool true] 25)) W) => tbuild_spec ((exK_reads w).kept hW) (by decide) (by decide) exK_seq ((64 : Nat) : Int) ((2 : Nat) : Int) ((10 : Nat) : Int)
  rw [htn] at hBU
  unfold TBuildPost at hBU
  dsimp only at hBU
  have hOP := fun (W : World) (A : Option Addr) (cap : Nat) (h : Reads W (.slice A bs.length cap) bs.length 1 (bv bs)) (hc : bs.length ≤ cap) => topen_spec (w := W) (A := A) (cap := cap) (b := ⟨bs.toArray⟩) h hsm hc
  rw [hopen] at hOP
  have hGET := fun (W : World) (tp : Nat) (h : TabIs W tp ⟨bs.toArray⟩ (footOf ⟨bs.toArray⟩) [exE]) (q : Int) => tget_spec h hsm (by simp) (by decide) (by unfold RisingE Rising; simp) exE_adj ⟨#[107]⟩ (by decide) q
  rw [hfil] at hGET
  have hG9 := fun W tp h => hGET W tp h 9
  have hG8 := fun W tp h => hGET W tp h 8
  have hG4 := fun W tp h => hGET W tp h 4
  rw [exK_get9] at hG9
  rw [exK_get8] at hG8
  rw [exK_get4] at hG4
  have hall : allC [exE] = exK := by show exE.cells ++ [] = exK; rw [List.append_nil]; rfl
  have hCT := fun (W : World) (tp : Nat) (h : TabIs W tp ⟨bs.toArray⟩ (footOf ⟨bs.toArray⟩) [exE]) => tcount_spec h (by simp)
  rw [hall] at hCT
  have HBU := Lib.hid hBU
  have HOP := Lib.hid hOP
  have HG9 := Lib.hid hG9
  have HG8 := Lib.hid hG8
  have HG4 := Lib.hid hG4
  have HCT := Lib.hid hCT
  clear hBU hOP hGET hG9 hG8 hG4 hCT hB hbs htn hopen hfil hents hall
  go_enter Try.func56, Try.ntmps56
  go_wp2_with fail
  refine (small_spec _).mono ?_
  rintro e w1 ⟨rfl, hb1⟩
  go_wp2_with fail
  refine (HBU.out _ hb1).mono ?_
  rintro e w2 ⟨v2, rfl, own2, hb2⟩
  obtain ⟨A2, c2, rfl⟩ := (Reads.of_own own2).form
  have d2 := bA.trans ((hb1.trans (hb2.mono hb1.size)).mono bA.size)
  go_wp2_with fail
  refine (HOP.out _ _ _ (Reads.of_own own2) (own_cap own2)).mono ?_
  rintro e w3 ⟨hb3, tp, rfl, ht3, htp⟩
  have d3 := d2.trans (hb3.mono d2.size)
  go_wp2_with fail
  refine (tscan_make _ _ _ _ ⟨_, rfl⟩).mono ?_
  rintro e w4 ⟨rfl, -, -, -, hb4⟩
  have ht4 := ht3.kept hb4
  have d4 := d3.trans (hb4.mono d3.size)
  go_wp2_with fail
  refine (HG9.out _ _ ht4).mono ?_
  rintro e w5 ⟨rfl, hb5⟩
  have ht5 := (ht4.kept hb5)
  have d5 := d4.trans (hb5.mono d4.size)
  unfold cellW
  dsimp only
  go_wp2_with fail
  have d6 := d5.alloc d5.size (.cells #[.string ⟨#[107]⟩, .int .u64 9, .string ⟨#[120]⟩, .bool false] 25)
  have ht6 := ht5.kept ((Below.refl w5.heap.size w5).alloc (Nat.le_refl _) (.cells #[.string ⟨#[107]⟩, .int .u64 9, .string ⟨#[120]⟩, .bool false] 25))
  have hX := Blk.new w5 #[.string ⟨#[107]⟩, .int .u64 9, .string ⟨#[120]⟩, .bool false] 25
  obtain ⟨W6, hW6⟩ : ∃ W6, w5.alloc (.cells #[.string ⟨#[107]⟩, .int .u64 9, .string ⟨#[120]⟩, .bool false] 25) = W6 := ⟨_, rfl⟩
  obtain ⟨xb, hxb⟩ : ∃ xb, w5.heap.size = xb := ⟨_, rfl⟩
  rw [hW6] at d6 ht6 hX ⊢
  rw [hxb] at hX ⊢
  refine (HG8.out _ _ ht6).mono ?_
  rintro e w7 ⟨rfl, hb7⟩
  have ht7 := ht6.kept hb7
  have d7 := d6.trans (hb7.mono d6.size)
  have hX7 := hX.kept hb7
  unfold cellW
  dsimp only
  clear hW6 hxb
  go_wp2_with fail
  have d8 := d7.alloc d7.size (.cells #[.string ⟨#[107]⟩, .int .u64 5, .string ⟨#[]⟩, .bool true] 25)
  have ht8 := ht7.kept ((Below.refl w7.heap.size w7).alloc (Nat.le_refl _) (.cells #[.string ⟨#[107]⟩, .int .u64 5, .string ⟨#[]⟩, .bool true] 25))
  have hY := Blk.new w7 #[.string ⟨#[107]⟩, .int .u64 5, .string ⟨#[]⟩, .bool true] 25
  have hX8 := hX7.alloc (.cells #[.string ⟨#[107]⟩, .int .u64 5, .string ⟨#[]⟩, .bool true] 25)
  obtain ⟨W8, hW8⟩ : ∃ W8, w7.alloc (.cells #[.string ⟨#[107]⟩, .int .u64 5, .string ⟨#[]⟩, .bool true] 25) = W8 := ⟨_, rfl⟩
  obtain ⟨yb, hyb⟩ : ∃ yb, w7.heap.size = yb := ⟨_, rfl⟩
  rw [hW8] at d8 ht8 hY hX8 ⊢
  rw [hyb] at hY ⊢
  refine (HG4.out _ _ ht8).mono ?_
  rintro e w9 ⟨rfl, hb9⟩
  have ht9 := ht8.kept hb9
  have d9 := d8.trans (hb9.mono d8.size)
  have hX9 := hX8.kept hb9
  have hY9 := hY.kept hb9
  have e0 : Cell.zero = ⟨⟨#[]⟩, 0, ⟨#[]⟩, false⟩ := rfl
  rw [e0]
  unfold cellW
  dsimp only
  obtain ⟨x0, x1, x2, x3⟩ := cell4 (hX9.alloc (.cells #[.string ⟨#[]⟩, .int .u64 0, .string ⟨#[]⟩, .bool false] 25))
  have xl := (hX9.alloc (.cells #[.string ⟨#[]⟩, .int .u64 0, .string ⟨#[]⟩, .bool false] 25)).lt
  obtain ⟨y0, y1, y2, y3⟩ := cell4 (hY9.alloc (.cells #[.string ⟨#[]⟩, .int .u64 0, .string ⟨#[]⟩, .bool false] 25))
  have yl := (hY9.alloc (.cells #[.string ⟨#[]⟩, .int .u64 0, .string ⟨#[]⟩, .bool false] 25)).lt
  have d10 := d9.alloc d9.size (.cells #[.string ⟨#[]⟩, .int .u64 0, .string ⟨#[]⟩, .bool false] 25)
  have ht10 := ht9.kept ((Below.refl w9.heap.size w9).alloc (Nat.le_refl _) (.cells #[.string ⟨#[]⟩, .int .u64 0, .string ⟨#[]⟩, .bool false] 25))
  clear hW8 hyb
  go_wp2_with fail
  refine (HCT.out _ _ ht10).mono ?_
  rintro e w11 ⟨rfl, hu⟩
  obtain rfl := hu.symm
  go_wp2_with fail
  go_ret
  exact ⟨rfl, d10⟩
end Go.Proofs.Ytbcaiegglbdonaa
