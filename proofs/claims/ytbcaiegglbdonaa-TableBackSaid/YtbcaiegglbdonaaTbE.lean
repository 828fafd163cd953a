/-
  Texts of this seat, part 5: Read, Back8, Open8, TabFoot, Search8.
-/
import Derived.Test.YtbcaiegglbdonaaTbD
import Derived.Laws.Concat
/-
  The program's read: a block's cells out of bytes.
-/
namespace Go.Proofs.Ytbcaiegglbdonaa
open Go Go.RowKit

/-- What read leaves: the cells in a row of its own, or nothing. -/
def ReadPost (w : World) (r : Option (List Cell)) (e : Ending) (w' : World) : Prop :=
  Below w.heap.size w w' ∧ match r with
    | some l => ∃ v, e = .returned (.tuple #[v, .bool true]) ∧ w'.ownsRow w.heap.size 25 4 v l.length (cellVals l)
    | none => e = .returned (.tuple #[.slice none 0 0, .bool false])
def ReadRel (w : World) (s : ByteArray) (p : Nat) (out ah : Value) (W : World) : Prop :=
  ∃ (l : List Cell) (t k : ByteArray) (n : Nat), ah = .string k ∧ RdIs W p t 0 ∧ t.size ≤ n ∧ l.length + t.size ≤ s.size ∧ k.size + t.size ≤ s.size ∧ readN s = (readAll n t k).map (l ++ ·) ∧ W.ownsRow w.heap.size 25 4 out l.length (cellVals l) ∧ Below w.heap.size w W ∧ w.heap.size ≤ p
theorem readPost_none {w w' : World} {r : Option (List Cell)} (h : r = none) (hb : Below w.heap.size w w') : ReadPost w r (.returned (.tuple #[.slice none 0 0, .bool false])) w' := by
  subst h
  exact ⟨hb, rfl⟩
/-- Where the two orders of making the cell meet. -/
def CutR (u : World) (p : Nat) (key : ByteArray) (seq : Nat) (gone : Bool) (s6 : ByteArray) (cp : Value) (W : World) : Prop :=
  ∃ pc, cp = .pointer (some ⟨pc, 0, none⟩) ∧ Blk W pc #[.string key, .int .u64 seq, .string ⟨#[]⟩, .bool gone] 25 ∧ RdIs W p s6 0 ∧ Only (fun k => k = p) u W ∧ u.heap.size ≤ pc
/-- How many bytes are left in a Reader. -/
def rdSize (p : Nat) (W : World) : Nat := match W.cell? ⟨p, 0, none⟩ with | some (.string t) => t.size | _ => 0
theorem rdSize_is {p : Nat} {W : World} {t : ByteArray} (h : W.cell? ⟨p, 0, none⟩ = some (.string t)) : rdSize p W = t.size := by unfold rdSize; rw [h]
theorem rd_row {W : World} {B n p : Nat} {v : Value} {xs : List Value} {s : ByteArray} {e : Int} (h : W.ownsRow B 25 4 v n xs) (hr : RdIs W p s e) (g : Nat) (hg : v.ownBlock = some g) : g ≠ p := by
  obtain ⟨cur, hc⟩ := row_type h hg
  intro hp
  subst hp
  have h1 : W.heap[g]? = some (.cells cur 25) := hc
  have h2 : W.heap[g]? = some (.cells #[.string s, .int .i64 e] 167) := hr
  rw [h1] at h2
  injection h2 with h2
  injection h2 with _ h2
  exact absurd h2 (by decide)
theorem blk_set4 {w : World} {b : Nat} {z0 z1 z2 z3 : Value} {t : TypeId} (h : Blk w b #[z0, z1, z2, z3] t) (v0 v1 v2 v3 : Value) :
    Blk ((((w.setCell ⟨b, 0, none⟩ v0).setCell ⟨b, 1, none⟩ v1).setCell ⟨b, 2, none⟩ v2).setCell ⟨b, 3, none⟩ v3) b #[v0, v1, v2, v3] t := (((h.setCell 0 v0).setCell 1 v1).setCell 2 v2).setCell 3 v3
theorem rd_set4 {w : World} {p b : Nat} {s : ByteArray} {e : Int} (h : RdIs w p s e) (hn : p ≠ b) (v0 v1 v2 v3 : Value) :
    RdIs ((((w.setCell ⟨b, 0, none⟩ v0).setCell ⟨b, 1, none⟩ v1).setCell ⟨b, 2, none⟩ v2).setCell ⟨b, 3, none⟩ v3) p s e := (((Blk.setCell_ne h hn 0 v0).setCell_ne hn 1 v1).setCell_ne hn 2 v2).setCell_ne hn 3 v3
theorem cutR_old {u w : World} {p b : Nat} {key s6 : ByteArray} {seq : Nat} {gone : Bool} {z0 z1 z2 z3 : Value} (hr : RdIs w p s6 0) (ho : Only (fun k => k = p) u w) (h : Blk w b #[z0, z1, z2, z3] 25) (hb : u.heap.size ≤ b) (hp : p < u.heap.size) :
    CutR u p key seq gone s6 (.pointer (some ⟨b, 0, none⟩)) ((((w.setCell ⟨b, 0, none⟩ (.string key)).setCell ⟨b, 1, none⟩ (.int .u64 seq)).setCell ⟨b, 2, none⟩ (.string ⟨#[]⟩)).setCell ⟨b, 3, none⟩ (.bool gone)) :=
  ⟨b, rfl, blk_set4 h _ _ _ _, rd_set4 hr (by omega) _ _ _ _, (((ho.setCell (.inr hb) 0 _).setCell (.inr hb) 1 _).setCell (.inr hb) 2 _).setCell (.inr hb) 3 _, hb⟩
theorem cutR_new {u w : World} {p : Nat} {key s6 : ByteArray} {seq : Nat} {gone : Bool} (hr : RdIs w p s6 0) (ho : Only (fun k => k = p) u w) :
    CutR u p key seq gone s6 (.pointer (some ⟨w.heap.size, 0, none⟩)) (w.alloc (.cells #[.string key, .int .u64 seq, .string ⟨#[]⟩, .bool gone] 25)) :=
  ⟨w.heap.size, rfl, Blk.new w _ _, Blk.alloc hr _, ho.alloc _, ho.size⟩
theorem rawR_fit {s : ByteArray} {b : Nat} (h : b ≤ s.size) : (rawR s 0 b).2.2 = 0 := by
  unfold rawR
  rw [if_neg (by simp), if_neg (by omega), if_neg (by omega)]
theorem own_rd {W W' : World} {B n p : Nat} {v : Value} {xs : List Value} {s : ByteArray} {e : Int} (h : W.ownsRow B 25 4 v n xs) (hr : RdIs W p s e) (ho : Only (fun k => k = p) W W') : W'.ownsRow B 25 4 v n xs := by
  refine own_same h fun g hg => ?_
  obtain ⟨cur, hc⟩ := row_type h hg
  refine ho.block g hc.lt fun hp => ?_
  subst hp
  have h1 : W.heap[g]? = some (.cells cur 25) := hc
  have h2 : W.heap[g]? = some (.cells #[.string s, .int .i64 e] 167) := hr
  rw [h1] at h2
  injection h2 with h2
  injection h2 with _ h2
  exact absurd h2 (by decide)

set_option maxRecDepth 100000 in
set_option maxHeartbeats 4000000 in
theorem read_spec (s : ByteArray) (hs : s.size ≤ 65536) (w : World) : Calls Try.prog 101 #[.string s] w (ReadPost w (readN s)) := by
  obtain ⟨i0, hi, hz0, hz1, hz2⟩ := info_parts Try.infoCell
  go_enter Try.func101, Try.ntmps101
  go_wp2_with (go_at_call 98; refine (reader_new _ _).mono ?_; rintro e w1 ⟨rfl, hr, hb1, hs1⟩)
  go_loopw [4, 5] (ReadRel w s w.heap.size) (fun _ _ W => rdSize w.heap.size W)
  case atStart => exact ⟨[], s, ⟨#[]⟩, s.size, rfl, hr, Nat.le_refl _, by simp, by show 0 + _ ≤ _; omega, by unfold readN; simp, World.ownsRow_nil _ _ _ _, hb1, Nat.le_refl _⟩
  case round =>
    obtain ⟨l, t, k, n, rfl, hrd, htn, hln, hkn, heq, hown, hb, hp⟩ := hrel
    have HE := Lib.hid heq
    have HO := Lib.hid hown
    have HRD := Lib.hid hrd
    have c0 : wr.cell? ⟨w.heap.size, 0, none⟩ = some (.string t) := Blk.cell hrd 0 _ rfl
    clear heq hown hrd
    by_cases ht : t.size = 0
    · have hl := reader_left HRD.out
      rw [if_pos rfl, ht] at hl
      have HL := Lib.hid hl
      clear hl
      go_wp2_with (go_at_call 134; refine HL.out.mono ?_; rintro e w2 ⟨rfl, rfl⟩)
      go_ret2
      refine ⟨hb, ?_⟩
      have h0 : readN s = some l := by
        rw [HE.out]
        cases n with
        | zero => simp [readAll, ht]
        | succ n => simp [readAll, ht]
      rw [h0]
      exact ⟨_, rfl, HO.out⟩
    · have hl := reader_left HRD.out
      rw [if_pos rfl] at hl
      have HL := Lib.hid hl
      have htp : (0 : Int) < (t.size : Int) := by omega
      clear hl
      go_wp2_with (go_at_call 134; refine HL.out.mono ?_; rintro e w2 ⟨rfl, rfl⟩)
      have v1 := reader_varint HRD.out (by omega)
      have z1 := varR_size t 0
      obtain ⟨q1, hq1⟩ : ∃ q, varR t 0 = q := ⟨_, rfl⟩
      rw [hq1] at v1 z1
      obtain ⟨a1, s1, e1⟩ := q1
      dsimp only at v1 z1
      have HQ1 := Lib.hid hq1
      clear hq1
      refine v1.mono ?_
      clear v1
      rintro e u1 ⟨rfl, R1, o1⟩
      go_wp2_with fail
      have v2 := reader_varint R1 (by omega)
      have z2 := varR_size s1 e1
      obtain ⟨q2, hq2⟩ : ∃ q, varR s1 e1 = q := ⟨_, rfl⟩
      rw [hq2] at v2 z2
      obtain ⟨a2, s2, e2⟩ := q2
      dsimp only at v2 z2
      have HQ2 := Lib.hid hq2
      clear hq2
      refine v2.mono ?_
      clear v2
      rintro e u2 ⟨rfl, R2, o2⟩
      go_wp2_with fail
      have v3 := reader_varint R2 (by omega)
      have z3 := varR_size s2 e2
      obtain ⟨q3, hq3⟩ : ∃ q, varR s2 e2 = q := ⟨_, rfl⟩
      rw [hq3] at v3 z3
      obtain ⟨a3, s3, e3⟩ := q3
      dsimp only at v3 z3
      have HQ3 := Lib.hid hq3
      clear hq3
      refine v3.mono ?_
      clear v3
      rintro e u3 ⟨rfl, R3, o3⟩
      go_wp2_with fail
      have v4 := reader_u8 R3
      have z4 := rawR_size s3 e3 1
      obtain ⟨q4, hq4⟩ : ∃ q, rawR s3 e3 1 = q := ⟨_, rfl⟩
      rw [hq4] at v4 z4
      obtain ⟨a4, s4, e4⟩ := q4
      dsimp only at v4 z4
      have HQ4 := Lib.hid hq4
      clear hq4
      obtain ⟨gn, hgn⟩ : ∃ gn, numN a4.data.toList % 256 = gn := ⟨_, rfl⟩
      rw [hgn] at v4
      have HGN := Lib.hid hgn
      clear hgn
      refine v4.mono ?_
      clear v4
      rintro e u4 ⟨rfl, R4, o4⟩
      go_wp2_with fail
      have v5 := reader_varint R4 (by omega)
      have z5 := varR_size s4 e4
      obtain ⟨q5, hq5⟩ : ∃ q, varR s4 e4 = q := ⟨_, rfl⟩
      rw [hq5] at v5 z5
      obtain ⟨a5, s5, e5⟩ := q5
      dsimp only at v5 z5
      have HQ5 := Lib.hid hq5
      clear hq5
      refine v5.mono ?_
      clear v5
      rintro e u5 ⟨rfl, R5, o5⟩
      go_wp2_with fail
      have HONE := Lib.hid (show readOne t k = if e5 ≠ 0 ∨ k.size < a1 ∨ s5.size < a2 ∨ s5.size < a3 ∨ 1 < gn then none
          else if (rawR (rawR s5 0 a2).2.1 (rawR s5 0 a2).2.2 a3).2.2 ≠ 0 then none
          else some (⟨⟨(k.extract 0 a1).data ++ (rawR s5 0 a2).1.data⟩, a5, (rawR (rawR s5 0 a2).2.1 (rawR s5 0 a2).2.2 a3).1, gn == 1⟩, (rawR (rawR s5 0 a2).2.1 (rawR s5 0 a2).2.2 a3).2.1) by
        unfold readOne
        simp only []
        rw [HQ1.out]; simp only []
        rw [HQ2.out]; simp only []
        rw [HQ3.out]; simp only []
        rw [HQ4.out]; simp only []
        rw [HQ5.out]; simp only []
        rw [HGN.out])
      have HNO := Lib.hid (show readOne t k = none → readN s = none from fun h => by
        rw [HE.out, readAll_step ht htn, h]; rfl)
      have O5 : Only (fun j => j = w.heap.size) wr u5 := (((o1.trans o2).trans o3).trans o4).trans o5
      have b5 : Below w.heap.size w u5 := hb.trans (O5.below hb.size (fun j hj => by omega))
      have HERR := Lib.hid (reader_err R5)
      have hkz : (k.size : Int) ≤ 65536 := by omega
      have hsz : (s5.size : Int) ≤ 65536 := by omega
      refine HERR.out.mono ?_
      rintro e w8 ⟨rfl, rfl⟩
      by_cases h1 : ¬ e5 = 0
      · have f1 : (e5 == 0) = false := by simpa using h1
        have HN := Lib.hid (HNO.out (by rw [HONE.out, if_pos (.inl h1)]))
        go_wp2_with fail
        go_ret2
        exact readPost_none HN.out b5
      have h1 : e5 = 0 := by omega
      subst h1
      have hl := reader_left R5
      rw [if_pos rfl] at hl
      have HL5 := Lib.hid hl
      clear hl
      by_cases h2 : k.size < a1
      · have f2 : (k.size : Int) < (a1 : Int) := by omega
        have HN := Lib.hid (HNO.out (by rw [HONE.out, if_pos (.inr (.inl h2))]))
        clear h2
        go_wp2_with fail
        go_ret2
        exact readPost_none HN.out b5
      have f2 : (a1 : Int) ≤ (k.size : Int) := by omega
      by_cases h3 : s5.size < a2
      · have f3 : (s5.size : Int) < (a2 : Int) := by omega
        have HN := Lib.hid (HNO.out (by rw [HONE.out, if_pos (.inr (.inr (.inl h3)))]))
        clear h2 h3
        go_wp2_with (go_at_call 134; refine HL5.out.mono ?_; rintro e w8 ⟨rfl, rfl⟩)
        go_ret2
        exact readPost_none HN.out b5
      have f3 : (a2 : Int) ≤ (s5.size : Int) := by omega
      by_cases h4 : s5.size < a3
      · have f4 : (s5.size : Int) < (a3 : Int) := by omega
        have HN := Lib.hid (HNO.out (by rw [HONE.out, if_pos (.inr (.inr (.inr (.inl h4))))]))
        clear h2 h3 h4
        go_wp2_with (go_at_call 134; refine HL5.out.mono ?_; rintro e w8 ⟨rfl, rfl⟩)
        go_ret2
        exact readPost_none HN.out b5
      have f4 : (a3 : Int) ≤ (s5.size : Int) := by omega
      by_cases h5 : 1 < gn
      · have f5 : (1 : Int) < (gn : Int) := by omega
        have HN := Lib.hid (HNO.out (by rw [HONE.out, if_pos (.inr (.inr (.inr (.inr h5))))]))
        clear h2 h3 h4 h5
        go_wp2_with (go_at_call 134; refine HL5.out.mono ?_; rintro e w8 ⟨rfl, rfl⟩)
        go_ret2
        exact readPost_none HN.out b5
      have f5 : (gn : Int) ≤ 1 := by omega
      have HBAR := Lib.hid (show ¬ ((0 : Int) ≠ 0 ∨ k.size < a1 ∨ s5.size < a2 ∨ s5.size < a3 ∨ 1 < gn) by omega)
      go_upto_region 10 with (go_at_call 134; refine HL5.out.mono ?_; rintro e w8 ⟨rfl, rfl⟩)
      have hf := @rawR_fit s5 a2 (by omega)
      have hx6 := (rawR_ok hf).2.2.2.1
      have hzr := rawR_size s5 0 a2
      have hRAW := fun (W : World) (hW : RdIs W w.heap.size s5 0) => reader_raw hW (a2 : Int)
      obtain ⟨q6, hq6⟩ : ∃ q, rawR s5 0 a2 = q := ⟨_, rfl⟩
      rw [hq6] at hf hRAW hzr hx6
      have h7 := HONE.out
      rw [if_neg HBAR.out, hq6] at h7
      obtain ⟨x6, s6, e6⟩ := q6
      dsimp only at hf hRAW h7 hzr hx6
      subst hf
      have HRAW := Lib.hid hRAW
      have hpl := R5.lt
      clear hq6 hRAW
      have hw2 : IntKind.i64.wrap (a2 : Int) = a2 := IntWalk.i64_in _ (by omega)
      have hg1 : ((gn : Int) == 1) = (gn == 1) := by rw [Bool.eq_iff_iff]; simp; omega
      have hx6 : x6.size ≤ 65536 := by omega
      obtain ⟨kk, hkk⟩ : ∃ kk : ByteArray, ⟨(k.extract 0 a1).data ++ x6.data⟩ = kk := ⟨_, rfl⟩
      rw [hkk] at h7
      have hcat : ∀ W, (Op.stringOp .add (k.extract 0 a1) x6).run Try.prog W = .ok (.string kk) W := fun W => by
        have h1 : ((k.extract 0 a1).size : Int) ≤ 8388608 := by have := ex_size_le k 0 a1; omega
        have h2 : (x6.size : Int) ≤ 8388608 := by omega
        have h3 : kk = k.extract 0 a1 ++ x6 := by rw [← hkk]; apply ByteArray.ext; simp [ByteArray.data_append]
        rw [h3]
        exact run_string_add W _ _ h1 h2
      have H7 := Lib.hid h7
      clear h7 hkk
      go_cut [12] from 15 to 81 (CutR u5 w.heap.size kk a5 (gn == 1) s6)
      case first =>
        refine region_tree (S := fun _ => True)
          (.take 0 (.take 1 (.take 2 (.take 3 (.take 4 (.take 5 (.take 8 (.take 9 (.take 10 (.two 6 (.take 7 (.take 11 (.one 12 (.one 13 .nil)))) 12 (.one 6 (.take 7 (.take 11 (.one 13 .nil))))))))))))))
          (by kernel_rfl) (by kernel_rfl) (by kernel_rfl) (fun _ _ _ dst _ h => by cases dst <;> exact h) trivial (fun hH => ?_)
        (repeat (refine tree_take (v := ?_) (by (simp only [List.getElem?_toArray, List.getElem?_cons_succ, List.getElem?_cons_zero]; exact rfl)) (by rfl) ?_ ?_; rotate_left; (focus (intro wS hS; (try dsimp only at hS); go_split_ands; go_simp; (try with_reducible rfl))); simp only [Act.put, List.setIfInBounds_toArray, List.set_cons_zero, List.set_cons_succ]))
        (refine tree_two (by (simp only [List.getElem?_toArray, List.getElem?_cons_succ, List.getElem?_cons_zero]; exact rfl)) (by rfl) (by (simp only [List.getElem?_toArray, List.getElem?_cons_succ, List.getElem?_cons_zero]; exact rfl)) (by rfl) ?_ ?_ <;> (intro K hK; go_simp))
        · refine (HRAW.out _ (Blk.drew R5)).mono ?_
          rintro e w6 ⟨rfl, R6, o6⟩
          refine hK.out _ _ trivial (fun hH => ?_)
          clear hK K
          try simp only [Act.put, List.setIfInBounds_toArray, List.set_cons_zero, List.set_cons_succ]
          (repeat (refine tree_take (v := ?_) (by (simp only [List.getElem?_toArray, List.getElem?_cons_succ, List.getElem?_cons_zero]; exact rfl)) (by rfl) ?_ ?_; rotate_left; (focus (intro wS hS; (try dsimp only at hS); go_split_ands; go_simp; (try with_reducible rfl))); simp only [Act.put, List.setIfInBounds_toArray, List.set_cons_zero, List.set_cons_succ]))
          (refine tree_one (by (simp only [List.getElem?_toArray, List.getElem?_cons_succ, List.getElem?_cons_zero]; exact rfl)) (by rfl) ?_; intro K hK; go_simp)
          refine hK.out _ _ trivial (fun hH => ?_)
          clear hK K
          try simp only [Act.put, List.setIfInBounds_toArray, List.set_cons_zero, List.set_cons_succ]
          (refine tree_one (by (simp only [List.getElem?_toArray, List.getElem?_cons_succ, List.getElem?_cons_zero]; exact rfl)) (by rfl) ?_; intro K hK; go_simp)
          refine hK.out _ _ trivial (fun hH => ?_)
          clear hK K
          try simp only [Act.put, List.setIfInBounds_toArray, List.set_cons_zero, List.set_cons_succ]
          refine tree_nil ?_
          go_wp2_with fail
          go_meet
          case rel => exact cutR_new R6 ((Only.drew (Only.refl _ u5)).trans o6)
        · refine hK.out _ _ trivial (fun hH => ?_)
          clear hK K
          try simp only [Act.put, List.setIfInBounds_toArray, List.set_cons_zero, List.set_cons_succ]
          (refine tree_one (by (simp only [List.getElem?_toArray, List.getElem?_cons_succ, List.getElem?_cons_zero]; exact rfl)) (by rfl) ?_; intro K hK; go_simp)
          refine (HRAW.out _ ((Blk.drew R5).alloc _)).mono ?_
          rintro e w6 ⟨rfl, R6, o6⟩
          refine hK.out _ _ trivial (fun hH => ?_)
          clear hK K
          try simp only [Act.put, List.setIfInBounds_toArray, List.set_cons_zero, List.set_cons_succ]
          (repeat (refine tree_take (v := ?_) (by (simp only [List.getElem?_toArray, List.getElem?_cons_succ, List.getElem?_cons_zero]; exact rfl)) (by rfl) ?_ ?_; rotate_left; (focus (intro wS hS; (try dsimp only at hS); go_split_ands; go_simp; (try with_reducible rfl))); simp only [Act.put, List.setIfInBounds_toArray, List.set_cons_zero, List.set_cons_succ]))
          have hZ : Blk w6 u5.heap.size #[.string ⟨#[]⟩, .int .u64 0, .string ⟨#[]⟩, .bool false] 25 := (Blk.new u5.drew _ _).only o6 (by show ¬ u5.drew.heap.size = _; simp only [World.size_drew]; omega)
          have f0 := hZ.frozen
          have f1 := hZ.lt
          obtain ⟨z0, z1, z2, z3⟩ := cell4 hZ
          (refine tree_one (by (simp only [List.getElem?_toArray, List.getElem?_cons_succ, List.getElem?_cons_zero]; exact rfl)) (by rfl) ?_; intro K hK; go_simp)
          refine hK.out _ _ trivial (fun hH => ?_)
          clear hK K
          try simp only [Act.put, List.setIfInBounds_toArray, List.set_cons_zero, List.set_cons_succ]
          refine tree_nil ?_
          go_wp2_with fail
          go_meet
          case rel => exact cutR_old R6 (((Only.drew (Only.refl _ u5)).alloc _).trans o6) hZ (Nat.le_refl _) hpl
      case rest =>
        obtain ⟨pc, rfl, hC, R6, o6, hpc⟩ := hcut
        have O6 := O5.trans (o6.mono fun j _ hj => hj)
        have v7 := reader_raw R6 (a3 : Int)
        have z7 := rawR_size s6 0 a3
        have hok := @rawR_ok s6 0 a3
        obtain ⟨q7, hq7⟩ : ∃ q, rawR s6 0 a3 = q := ⟨_, rfl⟩
        rw [hq7] at v7 z7 hok
        have h7 := H7.out
        rw [hq7] at h7
        obtain ⟨x7, s7, e7⟩ := q7
        dsimp only at v7 z7 hok h7
        have H8 := Lib.hid h7
        have HOK := Lib.hid hok
        clear hq7 h7 hok
        have hw3 : IntKind.i64.wrap (a3 : Int) = a3 := IntWalk.i64_in _ (by omega)
        have V7 := Lib.hid v7
        clear v7
        go_wp2_with fail
        refine V7.out.mono ?_
        rintro e w7 ⟨rfl, R7, o7⟩
        have hC7 := hC.only o7 (by omega)
        have cf := hC7.frozen
        have cl := hC7.lt
        obtain ⟨z0, z1, z2, z3⟩ := cell4 hC7
        have HER7 := Lib.hid (reader_err (R7.setCell_ne (by omega) 2 (.string x7) : RdIs (w7.setCell ⟨pc, 2, none⟩ (.string x7)) w.heap.size s7 e7))
        have O7 : Only (fun j => j = w.heap.size) u5 (w7.setCell ⟨pc, 2, none⟩ (.string x7)) := (o6.trans o7).setCell (.inr hpc) 2 _
        have b7 : Below w.heap.size w (w7.setCell ⟨pc, 2, none⟩ (.string x7)) := b5.trans (O7.below b5.size (fun j hj => by omega))
        by_cases h8 : e7 = 0
        · subst h8
          have hone : readOne t k = some (⟨kk, a5, x7, gn == 1⟩, s7) := by rw [H8.out, if_neg (by simp)]
          have hsz1 := readOne_size hone
          have hst := readAll_step (ah := k) ht htn
          rw [hone] at hst
          have HE2 := Lib.hid (show readN s = (readAll (n - 1) s7 kk).map (fun x => (l ++ [⟨kk, a5, x7, gn == 1⟩]) ++ x) by
            rw [HE.out, hst]
            show Option.map _ (Option.map _ _) = _
            rw [Option.map_map]
            congr 1
            funext x
            show l ++ (_ :: x) = _
            simp)
          obtain ⟨hs1', hs2', -, -⟩ := hsz1
          have hs2' : kk.size + s7.size ≤ s.size := Nat.le_trans hs2' hkn
          have ho7 := own_rd (own_rd HO.out HRD.out O5) R5 O7
          have hne := fun g hg => rd_row ho7 (R7.setCell_ne (by omega) 2 (.string x7) : RdIs (w7.setCell ⟨pc, 2, none⟩ (.string x7)) w.heap.size s7 0) g hg
          have HO7 := Lib.hid ho7
          have HNE := Lib.hid hne
          have nw := news4 (w7.setCell ⟨pc, 2, none⟩ (.string x7)) ⟨kk, a5, x7, gn == 1⟩
          rw [World.size_setCell] at nw
          have q3 : l.length + 1 ≤ maxLen := by unfold maxLen; omega
          have q4 : (l.length + 1) * 48 ≤ 140737488355328 := by omega
          have q5 : w.heap.size ≤ ((w7.setCell ⟨pc, 2, none⟩ (.string x7)).alloc (.cells #[.string kk, .int .u64 a5, .string x7, .bool (gn == 1)] 25)).heap.size := by have := b7.size; simp only [World.size_alloc]; omega
          clear hone hst ho7 hne
          go_wp2_with (first | (go_at_call 137; refine HER7.out.mono ?_; rintro e w8 ⟨rfl, rfl⟩) | (at_builtin; refine wpList_append_own _ rfl _ _ 22 rfl w.heap.size 25 i0 cellZ 4 48 Try.underlying22 hi hz0 hz1 hz2 rfl (by decide) _ _ _ rfl (HO7.out.alloc _) ⟨w7.heap.size, 0, none⟩ 1 1 [.string kk, .int .u64 a5, .string x7, .bool (gn == 1)] rfl rfl nw (by simp [Value.oneCell']) q3 q4 q5 ?_))
          intro v' w9 hown9 hgr _
          have hb9 : Below w.heap.size w w9 := (b7.alloc b7.size _).grown hgr q5 (fun j hj => (HO7.out.lt j hj).1)
          have R9 : RdIs w9 w.heap.size s7 0 := (hgr.block w.heap.size ((R7.setCell_ne (by omega) 2 (.string x7)).alloc _).lt (fun e => HNE.out _ e.symm rfl)).trans ((R7.setCell_ne (by omega) 2 (.string x7)).alloc _)
          have c9 : w9.cell? ⟨w.heap.size, 0, none⟩ = some (.string s7) := Blk.cell R9 0 _ rfl
          have HW9 := Lib.hid hown9
          clear hown9 hgr
          go_wp2_with fail
          go_roundw
          case rel =>
            exact ⟨l ++ [⟨kk, a5, x7, gn == 1⟩], s7, kk, n - 1, rfl, R9, by omega, by rw [List.length_append]; show l.length + 1 + _ ≤ _; omega, hs2', HE2.out, by rw [List.length_append, cellVals_append]; exact HW9.out, hb9, hp⟩
          case measure => rw [rdSize_is c9, rdSize_is c0]; exact hs1'
        · have HN := Lib.hid (HNO.out (by rw [H8.out, if_pos h8]))
          have f8 : (e7 == 0) = false := by simpa using h8
          go_wp2_with (go_at_call 137; refine HER7.out.mono ?_; rintro e w8 ⟨rfl, rfl⟩)
          go_ret2
          exact readPost_none HN.out b7
end Go.Proofs.Ytbcaiegglbdonaa

/-
  A block's bytes are read back; a block with some bits turned is none. Plain.
-/
namespace Go.Proofs.Ytbcaiegglbdonaa
open Go

theorem shp_varN : ∀ (j i n m : Nat) (rest : List UInt8), i + j = 9 → n < 2 * 128 ^ j → (0 < i → n ≠ 0) → shp i m (varN n ++ rest) = (m + n * 128 ^ i, i + (varN n).length, 0) := by
  intro j
  induction j with
  | zero =>
    intro i n m rest hi hn h0
    obtain rfl : i = 9 := by omega
    have : n = 1 := by have := h0 (by decide); omega
    subst this
    rw [varN_lt (by decide)]
    simp [shp]
  | succ j ih =>
    intro i n m rest hi hn h0
    by_cases h : n < 128
    · rw [varN_lt h]
      have h1 : (UInt8.ofNat n).toNat = n := by rw [UInt8.toNat_ofNat']; omega
      simp only [List.singleton_append, shp]
      rw [if_neg (by omega), h1, if_pos h, if_neg]
      · simp
      · rintro ⟨h2, h3⟩
        exact h0 h3 (by rw [← h1, h2]; rfl)
    · rw [varN_ge h]
      have h1 : (UInt8.ofNat (n % 128 + 128)).toNat = n % 128 + 128 := by rw [UInt8.toNat_ofNat']; omega
      simp only [List.cons_append, shp]
      rw [if_neg (by omega), h1, if_neg (by omega), ih (i + 1) (n / 128) _ rest (by omega) (by rw [Nat.pow_succ] at hn; omega) (by intro _; omega)]
      have e1 : (n % 128 + 128) % 128 = n % 128 := by omega
      have e2 : n % 128 * 128 ^ i + n / 128 * 128 ^ (i + 1) = n * 128 ^ i := by
        have h5 := Nat.div_add_mod n 128
        calc n % 128 * 128 ^ i + n / 128 * 128 ^ (i + 1) = (128 * (n / 128) + n % 128) * 128 ^ i := by rw [Nat.pow_succ, Nat.add_mul, Nat.add_comm]; congr 1; rw [Nat.mul_comm (128 ^ i) 128, ← Nat.mul_assoc, Nat.mul_comm (n / 128) 128]
          _ = n * 128 ^ i := by rw [h5]
      rw [e1, Nat.add_assoc, e2]
      simp
      omega
theorem shape_varN (n : Nat) (rest : List UInt8) (h : n < 18446744073709551616) : shapeN (varN n ++ rest) = (n, (varN n).length, 0) := by
  unfold shapeN
  rw [shp_varN 9 0 n 0 rest rfl (by omega) (by omega)]
  simp
theorem ex_app (a b : List UInt8) : (⟨(a ++ b).toArray⟩ : ByteArray).extract a.length (⟨(a ++ b).toArray⟩ : ByteArray).size = ⟨b.toArray⟩ := by
  apply ByteArray.ext
  apply Array.ext'
  rw [ByteArray.data_extract]
  simp [ByteArray.size]
theorem ex_take (a b : List UInt8) : (⟨(a ++ b).toArray⟩ : ByteArray).extract 0 a.length = ⟨a.toArray⟩ := by
  apply ByteArray.ext
  apply Array.ext'
  rw [ByteArray.data_extract]
  simp
theorem varR_varN (n : Nat) (rest : List UInt8) (h : n < 18446744073709551616) : varR ⟨(varN n ++ rest).toArray⟩ 0 = (n, ⟨rest.toArray⟩, 0) := by
  unfold varR
  have h1 : (⟨(varN n ++ rest).toArray⟩ : ByteArray).data.toList = varN n ++ rest := rfl
  rw [if_neg (by simp), h1, shape_varN n rest h, if_neg (by simp)]
  simp only
  rw [ex_app]
theorem rawR_app (a b : List UInt8) (n : Int) (hn : n = a.length) : rawR ⟨(a ++ b).toArray⟩ 0 n = (⟨a.toArray⟩, ⟨b.toArray⟩, 0) := by
  subst hn
  unfold rawR
  rw [if_neg (by simp), if_neg (by omega), if_neg (by simp [ByteArray.size]; omega)]
  rw [Int.toNat_natCast, ex_take, ex_app]
theorem readOne_enc (c : Cell) (ah : ByteArray) (n : Nat) (rest : List UInt8) (hn : n ≤ ah.size) (hk : n ≤ c.key.size) (he : ah.data.toList.take n = c.key.data.toList.take n)
    (hkz : c.key.size < 18446744073709551616) (hvz : c.val.size < 18446744073709551616) (hs : 0 ≤ c.seq) (hs2 : c.seq < 18446744073709551616) :
    readOne ⟨(encC n c ++ rest).toArray⟩ ah = some (c, ⟨rest.toArray⟩) := by
  have hseq : ((c.seq.toNat : Nat) : Int) = c.seq := by omega
  have e0 : encC n c ++ rest = varN n ++ (varN (c.key.size - n) ++ (varN c.val.size ++ ([UInt8.ofNat (if c.gone then 1 else 0)] ++ (varN c.seq.toNat ++ (c.key.data.toList.drop n ++ (c.val.data.toList ++ rest)))))) := by
    simp only [encC, List.append_assoc]
  unfold readOne
  rw [e0]
  have hg : numN [UInt8.ofNat (if c.gone then 1 else 0)] % 256 = if c.gone then 1 else 0 := by cases c.gone <;> rfl
  have k1 : (c.key.data.toList.drop n).length = c.key.size - n := by rw [List.length_drop]; rfl
  have k2 : c.val.data.toList.length = c.val.size := rfl
  rw [varR_varN _ _ (by omega)]
  simp only
  rw [varR_varN _ _ (by omega)]
  simp only
  rw [varR_varN _ _ hvz]
  simp only
  rw [rawR_app [UInt8.ofNat (if c.gone then 1 else 0)] _ 1 rfl]
  simp only
  rw [varR_varN _ _ (by omega)]
  simp only
  rw [hg, if_neg]
  · rw [rawR_app _ _ _ (by rw [k1])]
    simp only
    rw [rawR_app _ _ _ (by rw [k2])]
    simp only [ne_eq, not_true_eq_false, if_false]
    have hkey : (⟨(ah.extract 0 n).data ++ (c.key.data.toList.drop n).toArray⟩ : ByteArray) = c.key := by
      apply ByteArray.ext
      apply Array.ext'
      rw [ByteArray.data_extract]
      simp only [Array.toList_append, Array.toList_extract]
      rw [List.extract_eq_take_drop]
      simp only [Nat.sub_zero, List.drop_zero]
      rw [he, List.take_append_drop]
    rw [hkey, hseq]
    cases c with
    | mk key seq val gone => cases gone <;> rfl
  · have hz : (⟨(c.key.data.toList.drop n ++ (c.val.data.toList ++ rest)).toArray⟩ : ByteArray).size = c.key.size - n + (c.val.size + rest.length) := by
      show (c.key.data.toList.drop n ++ (c.val.data.toList ++ rest)).length = _
      rw [List.length_append, List.length_append, k1, k2]
    rw [hz]
    have : (if c.gone = true then 1 else 0) ≤ 1 := by split <;> decide
    omega
/-- The bytes of the cells from the j-th on. -/
def sufN (l : List Cell) (r j : Nat) : List UInt8 := (List.range' j (l.length - j)).flatMap (encAt l r)
theorem sufN_zero (l : List Cell) (r : Nat) : sufN l r 0 = bodyN l r l.length := by
  unfold sufN bodyN
  rw [List.range_eq_range']; rfl
theorem sufN_step {l : List Cell} {r j : Nat} {c : Cell} (h : l[j]? = some c) : sufN l r j = encC (shAt l r j) c ++ sufN l r (j + 1) := by
  have hlt := (List.getElem?_eq_some_iff.1 h).1
  unfold sufN
  have e : l.length - j = (l.length - (j + 1)) + 1 := by omega
  rw [e, List.range'_succ, List.flatMap_cons]
  simp only [encAt, h, Option.map_some, Option.getD_some]
theorem sufN_end (l : List Cell) (r : Nat) {j : Nat} (h : l.length ≤ j) : sufN l r j = [] := by
  unfold sufN
  have e : l.length - j = 0 := by omega
  rw [e]; rfl
theorem varN_pos (n : Nat) : 1 ≤ (varN n).length := by
  by_cases h : n < 128
  · rw [varN_lt h]; simp
  · rw [varN_ge h]; simp
theorem encC_pos (n : Nat) (c : Cell) : 1 ≤ (encC n c).length := by
  unfold encC
  rw [List.length_append]
  have := varN_pos n
  omega
def fitC (c : Cell) : Prop := c.key.size < 18446744073709551616 ∧ c.val.size < 18446744073709551616 ∧ 0 ≤ c.seq ∧ c.seq < 18446744073709551616
def aheadN (l : List Cell) (j : Nat) : ByteArray := if j = 0 then ⟨#[]⟩ else ⟨(keyAt l (j - 1)).toArray⟩
theorem readAll_suf (l : List Cell) (r : Nat) (hf : ∀ c ∈ l, fitC c) : ∀ (d j n : Nat), l.length - j = d → (sufN l r j).length ≤ n → readAll n ⟨(sufN l r j).toArray⟩ (aheadN l j) = some (l.drop j) := by
  intro d
  induction d with
  | zero =>
    intro j n hd hn
    rw [sufN_end l r (by omega), List.drop_eq_nil_of_le (by omega)]
    cases n <;> rfl
  | succ d ih =>
    intro j n hd hn
    obtain ⟨c, hc⟩ : ∃ c, l[j]? = some c := ⟨_, List.getElem?_eq_getElem (by omega)⟩
    have hfc := hf c (List.mem_of_getElem? hc)
    rw [sufN_step hc] at hn ⊢
    have hp := encC_pos (shAt l r j) c
    rw [List.length_append] at hn
    obtain ⟨n, rfl⟩ : ∃ m, n = m + 1 := ⟨n - 1, by omega⟩
    have hkj : keyAt l j = c.key.data.toList := by unfold keyAt; rw [hc]; rfl
    have hz : ¬ (⟨(encC (shAt l r j) c ++ sufN l r (j + 1)).toArray⟩ : ByteArray).size = 0 := by
      show ¬ (encC (shAt l r j) c ++ sufN l r (j + 1)).length = 0
      rw [List.length_append]; omega
    have hsh : shAt l r j ≤ (aheadN l j).size ∧ shAt l r j ≤ c.key.size ∧ (aheadN l j).data.toList.take (shAt l r j) = c.key.data.toList.take (shAt l r j) := by
      unfold shAt
      split
      · exact ⟨Nat.zero_le _, Nat.zero_le _, by simp⟩
      · rename_i h0
        have hj : j ≠ 0 := by rintro rfl; exact h0 (Nat.zero_mod r)
        unfold aheadN
        rw [if_neg hj]
        exact ⟨sharedN_le_left _ _, by rw [hkj]; exact sharedN_le_right _ _, by rw [hkj]; exact sharedN_take _ _⟩
    have h1 := readOne_enc c (aheadN l j) (shAt l r j) (sufN l r (j + 1)) hsh.1 hsh.2.1 hsh.2.2 hfc.1 hfc.2.1 hfc.2.2.1 hfc.2.2.2
    have hah : aheadN l (j + 1) = c.key := by
      unfold aheadN
      rw [if_neg (by omega)]
      simp only [Nat.add_sub_cancel]
      rw [hkj]
    have h2 := ih (j + 1) n (by omega) (by omega)
    rw [hah] at h2
    unfold readAll
    rw [if_neg hz, h1]
    simp only
    rw [h2, Option.map_some]
    congr 1
    obtain ⟨h5, h6⟩ := List.getElem?_eq_some_iff.1 hc
    rw [← h6, List.drop_eq_getElem_cons h5]
theorem readN_body (l : List Cell) (r : Nat) (hf : ∀ c ∈ l, fitC c) : readN ⟨(bodyN l r l.length).toArray⟩ = some l := by
  have h := readAll_suf l r hf l.length 0 (bodyN l r l.length).length rfl (by rw [sufN_zero]; exact Nat.le_refl _)
  rw [sufN_zero] at h
  exact h
theorem numN_be4 {n : Nat} (h : n < 4294967296) : numN (be4 n) = n := by
  simp only [numN, be4, List.foldl_cons, List.foldl_nil, UInt8.toNat_ofNat']
  omega
theorem numN_be2 {n : Nat} (h : n < 65536) : numN (be2 n) = n := by
  simp only [numN, be2, List.foldl_cons, List.foldl_nil, UInt8.toNat_ofNat']
  omega
/-- What Open tells: the cells and the restart, if buildN makes the same bytes again. -/
def openN (s : ByteArray) : Option (List Cell × Int) :=
  if s.size < 10 ∨ 65536 < s.size then none
  else
    let c := numN (s.extract (s.size - 10) (s.size - 6)).data.toList
    let r := numN (s.extract (s.size - 6) (s.size - 4)).data.toList
    if s.size < 10 + 4 * min c s.size then none
    else match readN (s.extract 0 (s.size - 10 - 4 * min c s.size)) with
      | none => none
      | some l => if buildN l r = (s.data.toList, 0) then some (l, r) else none
theorem openN_some {s : ByteArray} {l : List Cell} {r : Int} (h : openN s = some (l, r)) : buildN l r = (s.data.toList, 0) ∧ 10 ≤ s.size ∧ s.size ≤ 65536 ∧ ∃ n, r = (n : Nat) := by
  unfold openN at h
  split at h
  · exact absurd h (by simp)
  · simp only at h
    split at h
    · exact absurd h (by simp)
    · split at h
      · exact absurd h (by simp)
      · split at h
        · rename_i h1 _ _ _ _ h2
          injection h with h
          injection h with h3 h4
          subst h3
          subst h4
          exact ⟨h2, by omega, by omega, _, rfl⟩
        · exact absurd h (by simp)
theorem buildN_ok {l : List Cell} {r : Int} {b : List UInt8} (h : buildN l r = (b, 0)) : 1 ≤ r ∧ r ≤ 64 ∧ checkL l = 0 ∧ b = blockN l r.toNat ∧ b.length ≤ 65536 := by
  unfold buildN at h
  split at h
  · exact absurd (congrArg Prod.snd h) (by simp)
  · split at h
    · rename_i h2
      exact absurd (congrArg Prod.snd h) h2
    · split at h
      · rename_i h1 h2 h3
        obtain rfl := congrArg Prod.fst h
        exact ⟨by omega, by omega, by simpa using h2, rfl, h3⟩
      · exact absurd (congrArg Prod.snd h) (by simp)
theorem be4_flat (L : List Nat) : (L.flatMap be4).length = 4 * L.length := by
  induction L with
  | nil => rfl
  | cons a L ih => rw [List.flatMap_cons, List.length_append, ih]; simp [be4]; omega
theorem ex_mid (a b c : List UInt8) (i j : Nat) (hi : i = a.length) (hj : j = a.length + b.length) : ((⟨(a ++ (b ++ c)).toArray⟩ : ByteArray).extract i j).data.toList = b := by
  subst hi
  subst hj
  rw [ByteArray.data_extract]
  simp
theorem ex_head (a b : List UInt8) (j : Nat) (hj : j = a.length) : (⟨(a ++ b).toArray⟩ : ByteArray).extract 0 j = ⟨a.toArray⟩ := by
  subst hj
  exact ex_take a b
theorem openN_build {l : List Cell} {r : Int} {b : List UInt8} (hf : ∀ c ∈ l, fitC c) (h : buildN l r = (b, 0)) : openN ⟨b.toArray⟩ = some (l, r) := by
  obtain ⟨h1, h2, h3, h4, h5⟩ := buildN_ok h
  obtain ⟨k, rfl⟩ : ∃ k : Nat, r = k := ⟨r.toNat, by omega⟩
  rw [Int.toNat_natCast] at h4
  have hst : (startsN l k l.length).length < 65536 := by
    have h6 : 4 * (startsN l k l.length).length ≤ b.length := by
      rw [h4, blockN, tailN]
      simp only [List.length_append, be4_flat]
      omega
    omega
  obtain ⟨S, hS⟩ : ∃ S, startsN l k l.length = S := ⟨_, rfl⟩
  rw [hS] at hst
  have hb : b = bodyN l k l.length ++ (S.flatMap be4 ++ (be4 S.length ++ (be2 k ++ be4 (crcN (tailN l k))))) := by
    rw [h4, blockN]
    conv => lhs; arg 1; rw [tailN, hS]
    simp only [List.append_assoc]
  have hl4 : ∀ n, (be4 n).length = 4 := fun _ => rfl
  have hl2 : ∀ n, (be2 n).length = 2 := fun _ => rfl
  have hfl := be4_flat S
  obtain ⟨B, hB⟩ : ∃ B, bodyN l k l.length = B := ⟨_, rfl⟩
  have hread := readN_body l k hf
  rw [hB] at hb hread
  have hz : b.length = B.length + (4 * S.length + 10) := by
    rw [hb]
    simp only [List.length_append, hl4, hl2, hfl]
  have hsz : (⟨b.toArray⟩ : ByteArray).size = b.length := rfl
  have e1 : ((⟨b.toArray⟩ : ByteArray).extract (b.length - 10) (b.length - 6)).data.toList = be4 S.length := by
    conv => lhs; rw [hz, hb, ← List.append_assoc]
    exact ex_mid _ _ _ _ _ (by rw [List.length_append]; omega) (by rw [List.length_append, hl4]; omega)
  have e2 : ((⟨b.toArray⟩ : ByteArray).extract (b.length - 6) (b.length - 4)).data.toList = be2 k := by
    conv => lhs; rw [hz, hb, ← List.append_assoc, ← List.append_assoc]
    exact ex_mid _ _ _ _ _ (by simp only [List.length_append, hl4]; omega) (by simp only [List.length_append, hl4, hl2]; omega)
  have hmin : min S.length b.length = S.length := by omega
  unfold openN
  rw [hsz, if_neg (by omega), e1, e2, numN_be4 (by omega), numN_be2 (by omega)]
  simp only
  rw [hmin, if_neg (by omega)]
  have e3 : (⟨b.toArray⟩ : ByteArray).extract 0 (b.length - 10 - 4 * S.length) = ⟨B.toArray⟩ := by
    conv => lhs; arg 1; rw [hb]
    exact ex_head _ _ _ (by omega)
  rw [e3, hread]
  simp only
  rw [if_pos h]
/-! ### The check sum is linear; a burst of 32 bits is told -/
theorem crcBit_xor (a b : Nat) : crcBit (a ^^^ b) = crcBit a ^^^ crcBit b := by
  have h1 : (a ^^^ b) / 2 = (a / 2) ^^^ (b / 2) := by
    have := Nat.shiftRight_xor_distrib (a := a) (b := b) (i := 1)
    simpa [Nat.shiftRight_eq_div_pow] using this
  have h2 : (a ^^^ b) % 2 = (a % 2 + b % 2) % 2 := by
    have h3 := Nat.testBit_xor a b 0
    simp only [Nat.testBit_zero] at h3
    rcases (by omega : a % 2 = 0 ∨ a % 2 = 1) with ha | ha <;> rcases (by omega : b % 2 = 0 ∨ b % 2 = 1) with hb | hb <;> rcases (by omega : (a ^^^ b) % 2 = 0 ∨ (a ^^^ b) % 2 = 1) with hc | hc <;> simp [ha, hb, hc] at h3 ⊢
  have hx : ∀ x y p : Nat, x ^^^ p ^^^ (y ^^^ p) = x ^^^ y := fun x y p => by
    rw [Nat.xor_comm y p, Nat.xor_assoc, ← Nat.xor_assoc p p y, Nat.xor_self, Nat.zero_xor]
  unfold crcBit
  rw [h1]
  rcases (by omega : a % 2 = 0 ∨ a % 2 = 1) with ha | ha <;> rcases (by omega : b % 2 = 0 ∨ b % 2 = 1) with hb | hb
  · rw [if_neg (by omega), if_neg (by omega), if_neg (by omega)]; simp
  · rw [if_pos (by omega), if_neg (by omega), if_pos (by omega)]; simp [Nat.xor_assoc]
  · rw [if_pos (by omega), if_pos (by omega), if_neg (by omega)]
    simp only [Nat.xor_zero]
    rw [Nat.xor_assoc, Nat.xor_assoc, Nat.xor_comm (b / 2)]
  · rw [if_neg (by omega), if_pos (by omega), if_pos (by omega), hx]; simp
theorem crcBits_xor : ∀ (j a b : Nat), crcBits j (a ^^^ b) = crcBits j a ^^^ crcBits j b
  | 0, _, _ => rfl
  | j + 1, a, b => by rw [crcBits, crcBit_xor, crcBits_xor j]; rfl
theorem crcBits_shift : ∀ (j x : Nat), crcBits j (2 ^ j * x) = x
  | 0, x => by simp [crcBits]
  | j + 1, x => by
    have h : crcBit (2 ^ (j + 1) * x) = 2 ^ j * x := by
      unfold crcBit
      have e : 2 ^ (j + 1) * x = 2 * (2 ^ j * x) := by rw [Nat.pow_succ, Nat.mul_comm (2 ^ j) 2, Nat.mul_assoc]
      rw [e, if_neg (by omega)]
      simp
    rw [crcBits, h, crcBits_shift j x]
theorem crcBits_add : ∀ (i j x : Nat), crcBits (i + j) x = crcBits j (crcBits i x)
  | 0, j, x => by rw [Nat.zero_add]; rfl
  | i + 1, j, x => by
    have e : i + 1 + j = (i + j) + 1 := by omega
    rw [e, crcBits, crcBits, crcBits_add i j]
theorem crcBit_zero {c : Nat} (h : c < 4294967296) (hz : crcBit c = 0) : c = 0 := by
  unfold crcBit at hz
  split at hz
  · exfalso
    have h1 : c / 2 = 2197175160 := by
      have h2 : c / 2 ^^^ 2197175160 ^^^ 2197175160 = 0 ^^^ 2197175160 := by rw [hz]
      rwa [Nat.xor_assoc, Nat.xor_self, Nat.xor_zero, Nat.zero_xor] at h2
    omega
  · rw [Nat.xor_zero] at hz
    omega
theorem crcBits_zero : ∀ (j : Nat) {c : Nat}, c < 4294967296 → crcBits j c = 0 → c = 0
  | 0, _, _, hz => hz
  | j + 1, _, h, hz => crcBit_zero h (crcBits_zero j (crcBit_lt h) hz)
/-- Bytes as a number, the lowest first. -/
def leN : List UInt8 → Nat
  | [] => 0
  | b :: l => b.toNat + 256 * leN l
theorem xor_low {a b : Nat} (x : Nat) (ha : a < 256) (hb : b = a + 256 * x) : b = a ^^^ (2 ^ 8 * x) := by
  subst hb
  have := Nat.shiftLeft_add_eq_or_of_lt (i := 8) (b := a) (by simpa using ha) x
  rw [Nat.shiftLeft_eq] at this
  have h2 : a ^^^ 2 ^ 8 * x = 2 ^ 8 * x ||| a := by
    apply Nat.eq_of_testBit_eq
    intro i
    rw [Nat.testBit_xor, Nat.testBit_or]
    by_cases hi : i < 8
    · have : (2 ^ 8 * x).testBit i = false := by
        rw [Nat.testBit_two_pow_mul]; simp; omega
      rw [this]; simp
    · have : a.testBit i = false := Nat.testBit_lt_two_pow (Nat.lt_of_lt_of_le ha (by
        calc 256 = 2 ^ 8 := rfl
          _ ≤ 2 ^ i := Nat.pow_le_pow_right (by decide) (by omega)))
      rw [this]; simp
  rw [h2, Nat.mul_comm (2 ^ 8) x, ← this]
  omega
theorem crc_le : ∀ (l : List UInt8) (c : Nat), l.foldl crcByte c = crcBits (8 * l.length) (c ^^^ leN l)
  | [], c => by simp [crcBits, leN]
  | b :: l, c => by
    have hb := b.toNat_lt
    have h1 : leN (b :: l) = b.toNat ^^^ (2 ^ 8 * leN l) := xor_low (leN l) (by omega) rfl
    rw [List.foldl_cons, crc_le l, h1, ← Nat.xor_assoc]
    have e : 8 * (b :: l).length = 8 + 8 * l.length := by simp; omega
    rw [e, crcBits_add, crcBits_xor 8 (c ^^^ b.toNat), crcBits_shift]
    rfl
theorem leN_lt : ∀ l : List UInt8, leN l < 2 ^ (8 * l.length)
  | [] => by simp [leN]
  | b :: l => by
    have := leN_lt l
    have hb := b.toNat_lt
    have e : 8 * (b :: l).length = 8 * l.length + 8 := by simp; omega
    rw [e, Nat.pow_add, leN]
    omega
theorem leN_inj : ∀ {a b : List UInt8}, a.length = b.length → leN a = leN b → a = b
  | [], [], _, _ => rfl
  | [], _ :: _, h, _ => absurd h (by simp)
  | _ :: _, [], h, _ => absurd h (by simp)
  | x :: a, y :: b, h, he => by
    have h1 := x.toNat_lt
    have h2 := y.toNat_lt
    simp only [leN] at he
    have e1 : x.toNat = y.toNat := by omega
    have e2 : leN a = leN b := by omega
    rw [UInt8.toNat_inj.1 e1, leN_inj (by simpa using h) e2]
theorem leN_append : ∀ a b : List UInt8, leN (a ++ b) = leN a + 2 ^ (8 * a.length) * leN b
  | [], b => by simp [leN]
  | x :: a, b => by
    have e : 8 * (x :: a).length = 8 + 8 * a.length := by simp; omega
    have e8 : (2 : Nat) ^ 8 = 256 := rfl
    rw [List.cons_append, leN, leN_append a b, leN, e, Nat.pow_add, Nat.mul_add, ← Nat.mul_assoc, e8, Nat.add_assoc]
/-- Two texts of one length with the same check sum, that differ in a burst of at most 32 bits, are one. -/
theorem crc_burst {a b : List UInt8} (hl : a.length = b.length) (t p : Nat) (ht : t < 4294967296) (hp : p ≤ 8 * a.length) (hx : leN b = leN a ^^^ (2 ^ p * t)) (hc : crcN a = crcN b) : t = 0 := by
  have h0 : ∀ x y : Nat, x ^^^ 4294967295 = y ^^^ 4294967295 → x = y := fun x y h => by
    have : x ^^^ 4294967295 ^^^ 4294967295 = y ^^^ 4294967295 ^^^ 4294967295 := by rw [h]
    rwa [Nat.xor_assoc, Nat.xor_assoc, Nat.xor_self, Nat.xor_zero, Nat.xor_zero] at this
  have h1 := h0 _ _ hc
  rw [crc_le, crc_le, ← hl, hx, ← Nat.xor_assoc, crcBits_xor (8 * a.length) (4294967295 ^^^ leN a)] at h1
  have h2 : crcBits (8 * a.length) (2 ^ p * t) = 0 := by
    have h3 : ∀ x y : Nat, x = x ^^^ y → y = 0 := fun x y h => by
      have : x ^^^ x = x ^^^ (x ^^^ y) := by rw [← h]
      rw [← Nat.xor_assoc, Nat.xor_self, Nat.zero_xor] at this
      exact this.symm
    exact h3 _ _ h1
  have e : 8 * a.length = p + (8 * a.length - p) := by omega
  rw [e, crcBits_add, crcBits_shift] at h2
  exact crcBits_zero _ ht h2
theorem xor_hi {n a : Nat} (x : Nat) (ha : a < 2 ^ n) : a + 2 ^ n * x = a ^^^ (2 ^ n * x) := by
  have := Nat.shiftLeft_add_eq_or_of_lt (i := n) (b := a) ha x
  rw [Nat.shiftLeft_eq] at this
  have h2 : a ^^^ 2 ^ n * x = 2 ^ n * x ||| a := by
    apply Nat.eq_of_testBit_eq
    intro i
    rw [Nat.testBit_xor, Nat.testBit_or]
    by_cases hi : i < n
    · have : (2 ^ n * x).testBit i = false := by
        rw [Nat.testBit_two_pow_mul]; simp; omega
      rw [this]; simp
    · have : a.testBit i = false := Nat.testBit_lt_two_pow (Nat.lt_of_lt_of_le ha (Nat.pow_le_pow_right (by decide) (by omega)))
      rw [this]; simp
  rw [h2, Nat.mul_comm (2 ^ n) x, ← this]
  omega
theorem hi_inj {n a b x y : Nat} (ha : a < 2 ^ n) (hb : b < 2 ^ n) (h : a + 2 ^ n * x = b + 2 ^ n * y) : a = b ∧ x = y := by
  have hp : 0 < 2 ^ n := Nat.two_pow_pos n
  have h1 : (a + 2 ^ n * x) % 2 ^ n = (b + 2 ^ n * y) % 2 ^ n := by rw [h]
  rw [Nat.add_mul_mod_self_left, Nat.add_mul_mod_self_left, Nat.mod_eq_of_lt ha, Nat.mod_eq_of_lt hb] at h1
  subst h1
  exact ⟨rfl, Nat.eq_of_mul_eq_mul_left hp (by omega)⟩
/-- A text with its check sum, of which at most 32 bits in a row ahead of the sum are turned, bears its check sum no more. -/
theorem sum_turned {T T' own : List UInt8} (t p : Nat) (hl : own.length = T.length + 4) (ht : t < 4294967296) (hp : p ≤ 8 * T.length) (hx : 2 ^ p * t < 2 ^ (8 * T.length))
    (h : leN own = leN (T ++ be4 (crcN T)) ^^^ (2 ^ p * t)) (ho : own = T' ++ be4 (crcN T')) : t = 0 := by
  have hT : T'.length = T.length := by
    rw [ho, List.length_append] at hl
    have : (be4 (crcN T')).length = 4 := rfl
    omega
  have hA := leN_lt T
  have hA' := leN_lt T'
  rw [hT] at hA'
  have hN : leN T ^^^ 2 ^ p * t < 2 ^ (8 * T.length) := Nat.xor_lt_two_pow hA hx
  rw [ho, leN_append, leN_append, hT, xor_hi (leN (be4 (crcN T))) hA, Nat.xor_assoc, Nat.xor_comm (2 ^ (8 * T.length) * _), ← Nat.xor_assoc, ← xor_hi _ hN] at h
  obtain ⟨h1, h2⟩ := hi_inj hA' hN h
  have h3 := leN_inj (by rfl) h2
  have h4 : crcN T = crcN T' := by
    have e1 := numN_be4 (crcN_lt T)
    have e2 := numN_be4 (crcN_lt T')
    rw [← e1, ← e2, h3]
  exact crc_burst hT.symm t p ht hp h1 h4
theorem openN_turned {l : List Cell} {r : Int} {b own : List UInt8} (t p : Nat) (hb : buildN l r = (b, 0)) (hl : own.length = b.length) (ht : t < 4294967296) (hp : p ≤ 8 * (b.length - 4))
    (hx : 2 ^ p * t < 2 ^ (8 * (b.length - 4))) (h : leN own = leN b ^^^ (2 ^ p * t)) (ht0 : t ≠ 0) : openN ⟨own.toArray⟩ = none := by
  cases ho : openN ⟨own.toArray⟩ with
  | none => rfl
  | some q =>
    obtain ⟨l', r'⟩ := q
    obtain ⟨h1, -⟩ := openN_some ho
    obtain ⟨-, -, -, h2, -⟩ := buildN_ok h1
    obtain ⟨-, -, -, h3, -⟩ := buildN_ok hb
    have h2' : own = tailN l' r'.toNat ++ be4 (crcN (tailN l' r'.toNat)) := h2
    have hz : b.length - 4 = (tailN l r.toNat).length := by
      rw [h3, blockN, List.length_append]
      show _ + 4 - 4 = _
      omega
    have hz2 : b.length = (tailN l r.toNat).length + 4 := by rw [h3, blockN, List.length_append]; rfl
    rw [hz] at hp hx
    exact absurd (sum_turned t p (hl.trans hz2) ht hp hx (by rw [h, h3]; rfl) h2') ht0
theorem openN_unturned {own b : List UInt8} (hl : own.length = b.length) (h : leN own = leN b) : own = b := leN_inj hl h
theorem mul_xor (n a b : Nat) : 2 ^ n * (a ^^^ b) = (2 ^ n * a) ^^^ (2 ^ n * b) := by
  have := Nat.shiftLeft_xor_distrib (a := a) (b := b) (i := n)
  rw [Nat.shiftLeft_eq, Nat.shiftLeft_eq, Nat.shiftLeft_eq] at this
  rwa [Nat.mul_comm a, Nat.mul_comm b, Nat.mul_comm (a ^^^ b)] at this
def flipB (l : List UInt8) (k : Nat) : List UInt8 := l.modify (k / 8) (· ^^^ UInt8.ofNat (2 ^ (k % 8)))
theorem flipB_len (l : List UInt8) (k : Nat) : (flipB l k).length = l.length := by unfold flipB; simp
theorem leN_flip : ∀ (l : List UInt8) (k : Nat), k < 8 * l.length → leN (flipB l k) = leN l ^^^ 2 ^ k
  | [], k, h => absurd h (by simp)
  | b :: l, k, h => by
    have hb := b.toNat_lt
    by_cases hk : k < 8
    · have e1 : k / 8 = 0 := by omega
      have e2 : k % 8 = k := by omega
      have h1 : flipB (b :: l) k = (b ^^^ UInt8.ofNat (2 ^ k)) :: l := by
        unfold flipB
        rw [e1, e2]
        rfl
      have hp : 2 ^ k < 2 ^ 8 := Nat.pow_lt_pow_right (by decide) hk
      have h2 : (UInt8.ofNat (2 ^ k)).toNat = 2 ^ k := by rw [UInt8.toNat_ofNat']; exact Nat.mod_eq_of_lt hp
      have h3 : (b ^^^ UInt8.ofNat (2 ^ k)).toNat = b.toNat ^^^ 2 ^ k := by rw [UInt8.toNat_xor, h2]
      have h4 : b.toNat ^^^ 2 ^ k < 2 ^ 8 := Nat.xor_lt_two_pow (by omega) hp
      have h5 : leN (b :: l) = b.toNat + 2 ^ 8 * leN l := rfl
      have h6 : leN ((b ^^^ UInt8.ofNat (2 ^ k)) :: l) = (b ^^^ UInt8.ofNat (2 ^ k)).toNat + 2 ^ 8 * leN l := rfl
      rw [h1, h5, h6, h3, xor_hi _ h4, xor_hi (n := 8) _ (by omega), Nat.xor_assoc, Nat.xor_comm (2 ^ k), ← Nat.xor_assoc]
    · have e1 : k / 8 = (k - 8) / 8 + 1 := by omega
      have e2 : k % 8 = (k - 8) % 8 := by omega
      have h1 : flipB (b :: l) k = b :: flipB l (k - 8) := by
        unfold flipB
        rw [e1, e2]
        rfl
      have h5 : leN (b :: l) = b.toNat + 2 ^ 8 * leN l := rfl
      have h6 : leN (b :: flipB l (k - 8)) = b.toNat + 2 ^ 8 * leN (flipB l (k - 8)) := rfl
      have h7 : 2 ^ 8 * 2 ^ (k - 8) = 2 ^ k := by rw [← Nat.pow_add]; congr 1; omega
      rw [h1, h6, leN_flip l (k - 8) (by simp at h; omega), h5, xor_hi (n := 8) _ (by omega), xor_hi (n := 8) _ (by omega), mul_xor, ← Nat.xor_assoc, h7]
/-- The text with the turned bits of the first i. -/
def turnB (b : List UInt8) (t p size : Nat) : Nat → List UInt8
  | 0 => b
  | i + 1 => if t / 2 ^ i % 2 = 1 ∧ p + i < size then flipB (turnB b t p size i) (p + i) else turnB b t p size i
theorem turnB_len (b : List UInt8) (t p size : Nat) : ∀ i, (turnB b t p size i).length = b.length
  | 0 => rfl
  | i + 1 => by
    unfold turnB
    split
    · rw [flipB_len, turnB_len b t p size i]
    · exact turnB_len b t p size i
theorem mod_bit (t i : Nat) : t % 2 ^ (i + 1) = t % 2 ^ i + 2 ^ i * (t / 2 ^ i % 2) := by
  rw [Nat.pow_succ]
  exact Nat.mod_mul
theorem turnB_le (b : List UInt8) (t p size : Nat) (hs : size ≤ 8 * b.length) (hp : p < size) : ∀ i, leN (turnB b t p size i) = leN b ^^^ (2 ^ p * (t % 2 ^ (min i (size - p))))
  | 0 => by simp [turnB, Nat.mod_one]
  | i + 1 => by
    have ih := turnB_le b t p size hs hp i
    unfold turnB
    by_cases hlt : p + i < size
    · have m1 : min (i + 1) (size - p) = i + 1 := by omega
      have m2 : min i (size - p) = i := by omega
      have hi : t % 2 ^ i < 2 ^ i := Nat.mod_lt _ (Nat.two_pow_pos i)
      rw [m1, mod_bit, xor_hi _ hi, mul_xor]
      rw [m2] at ih
      rcases (by omega : t / 2 ^ i % 2 = 1 ∨ t / 2 ^ i % 2 = 0) with hb | hb
      · rw [if_pos ⟨hb, hlt⟩, leN_flip _ _ (by rw [turnB_len]; omega), ih, hb, Nat.mul_one, ← Nat.pow_add, Nat.xor_assoc]
      · rw [if_neg (by omega), ih, hb]
        simp
    · have m : min (i + 1) (size - p) = min i (size - p) := by omega
      rw [if_neg (by omega), m, ih]
/-- Was any bit turned within the first i? -/
def turned (t p size i : Nat) : Bool := decide (t % 2 ^ (min i (size - p)) ≠ 0)
theorem turned_zero (t p size : Nat) : turned t p size 0 = false := by simp [turned, Nat.mod_one]
theorem turned_succ (t p size i : Nat) : turned t p size (i + 1) = (turned t p size i || decide (t / 2 ^ i % 2 = 1 ∧ p + i < size)) := by
  unfold turned
  by_cases hlt : p + i < size
  · have m1 : min (i + 1) (size - p) = i + 1 := by omega
    have m2 : min i (size - p) = i := by omega
    rw [m1, m2, mod_bit]
    have hp := Nat.two_pow_pos i
    rcases (by omega : t / 2 ^ i % 2 = 1 ∨ t / 2 ^ i % 2 = 0) with hb | hb
    · rw [hb]
      simp [hlt]
    · rw [hb]
      simp
  · have m : min (i + 1) (size - p) = min i (size - p) := by omega
    rw [m]
    simp [hlt]
theorem openN_turnB {l : List Cell} {r : Int} {b : List UInt8} (hf : ∀ c ∈ l, fitC c) (t p : Nat) (hb : buildN l r = (b, 0)) (h4 : 4 ≤ b.length) (ht : t < 4294967296) (hp : p < 8 * (b.length - 4)) :
    (openN ⟨(turnB b t p (8 * (b.length - 4)) 32).toArray⟩).isNone = turned t p (8 * (b.length - 4)) 32 := by
  obtain ⟨S, hS⟩ : ∃ S, 8 * (b.length - 4) = S := ⟨_, rfl⟩
  rw [hS] at hp ⊢
  have hle := turnB_le b t p S (by omega) hp 32
  have hlen := turnB_len b t p S 32
  obtain ⟨u, hu⟩ : ∃ u, t % 2 ^ (min 32 (S - p)) = u := ⟨_, rfl⟩
  unfold turned
  rw [hu] at hle ⊢
  have hu1 : u ≤ t := by rw [← hu]; exact Nat.mod_le _ _
  by_cases h0 : u = 0
  · subst h0
    rw [Nat.mul_zero, Nat.xor_zero] at hle
    rw [leN_inj hlen hle, openN_build hf hb]
    rfl
  · have hx : 2 ^ p * u < 2 ^ S := by
      have h1 : u < 2 ^ (S - p) := by
        have h2 : u < 2 ^ (min 32 (S - p)) := by rw [← hu]; exact Nat.mod_lt _ (Nat.two_pow_pos _)
        exact Nat.lt_of_lt_of_le h2 (Nat.pow_le_pow_right (by decide) (Nat.min_le_right _ _))
      calc 2 ^ p * u < 2 ^ p * 2 ^ (S - p) := Nat.mul_lt_mul_of_pos_left h1 (Nat.two_pow_pos p)
        _ = 2 ^ S := by rw [← Nat.pow_add]; congr 1; omega
    rw [openN_turned u p hb hlen (by omega) (by omega) (by rw [hS]; exact hx) hle h0]
    simp [h0]
end Go.Proofs.Ytbcaiegglbdonaa

/-
  The program's Open: a block out of bytes.
-/
namespace Go.Proofs.Ytbcaiegglbdonaa
open Go Go.RowKit

/-- A block: its bytes, cells, restart, and whether Open made it. -/
structure BlkIs (w : World) (p : Nat) (s : ByteArray) (l : List Cell) (r : Int) (m : Bool) : Prop where
  ex : ∃ v B, Blk w p #[.string s, v, .int .i64 r, .bool m] 85 ∧ w.ownsRow B 25 4 v l.length (cellVals l)
  len : l.length ≤ 65536
theorem BlkIs.kept {w w' : World} {p : Nat} {s : ByteArray} {l : List Cell} {r : Int} {m : Bool} (h : BlkIs w p s l r m) (hb : Below w.heap.size w w') : BlkIs w' p s l r m := by
  obtain ⟨v, B, h1, h2⟩ := h.ex
  exact ⟨⟨v, B, h1.kept hb, own_kept h2 hb⟩, h.len⟩
def OpenPost (w : World) (s : ByteArray) (o : Option (List Cell × Int)) (e : Ending) (w' : World) : Prop :=
  Below w.heap.size w w' ∧ match o with
    | none => e = .returned (.tuple #[.pointer none, .int .i64 80])
    | some (l, r) => ∃ p, e = .returned (.tuple #[.pointer (some ⟨p, 0, none⟩), .int .i64 0]) ∧ BlkIs w' p s l r true ∧ w.heap.size ≤ p
theorem rawR_at {s : ByteArray} (n : Nat) (h : n ≤ s.size) : rawR s 0 (n : Int) = (s.extract 0 n, s.extract n s.size, 0) := by
  unfold rawR
  rw [if_neg (by simp), if_neg (by omega), if_neg (by omega), Int.toNat_natCast]
theorem foot_raw4 {s : ByteArray} (h : 10 ≤ s.size) : rawR (s.extract (s.size - 10) s.size) 0 4 = (s.extract (s.size - 10) (s.size - 6), s.extract (s.size - 6) s.size, 0) := by
  have hz : (s.extract (s.size - 10) s.size).size = 10 := by rw [ByteArray.size_extract]; omega
  have e := rawR_at (s := s.extract (s.size - 10) s.size) 4 (by omega)
  have e1 : (s.extract (s.size - 10) s.size).extract 0 4 = s.extract (s.size - 10) (s.size - 6) := by
    rw [ByteArray.extract_extract, Nat.add_zero, show min (s.size - 10 + 4) s.size = s.size - 6 by omega]
  have e2 : (s.extract (s.size - 10) s.size).extract 4 10 = s.extract (s.size - 6) s.size := by
    rw [ByteArray.extract_extract, show min (s.size - 10 + 10) s.size = s.size by omega, show s.size - 10 + 4 = s.size - 6 by omega]
  rw [hz, e1, e2] at e
  exact e
theorem foot_raw2 {s : ByteArray} (h : 10 ≤ s.size) : rawR (s.extract (s.size - 6) s.size) 0 2 = (s.extract (s.size - 6) (s.size - 4), s.extract (s.size - 4) s.size, 0) := by
  have hz : (s.extract (s.size - 6) s.size).size = 6 := by rw [ByteArray.size_extract]; omega
  have e := rawR_at (s := s.extract (s.size - 6) s.size) 2 (by omega)
  have e1 : (s.extract (s.size - 6) s.size).extract 0 2 = s.extract (s.size - 6) (s.size - 4) := by
    rw [ByteArray.extract_extract, Nat.add_zero, show min (s.size - 6 + 2) s.size = s.size - 4 by omega]
  have e2 : (s.extract (s.size - 6) s.size).extract 2 6 = s.extract (s.size - 4) s.size := by
    rw [ByteArray.extract_extract, show min (s.size - 6 + 6) s.size = s.size by omega, show s.size - 6 + 2 = s.size - 4 by omega]
  rw [hz, e1, e2] at e
  exact e
theorem openN_eq {s : ByteArray} {c r : Nat} (h1 : ¬ s.size < 10) (h2 : ¬ 65536 < s.size) (hc : numN (s.extract (s.size - 10) (s.size - 6)).data.toList = c) (hr : numN (s.extract (s.size - 6) (s.size - 4)).data.toList = r) :
    openN s = if s.size < 10 + 4 * min c s.size then none else match readN (s.extract 0 (s.size - 10 - 4 * min c s.size)) with
      | none => none
      | some l => if buildN l r = (s.data.toList, 0) then some (l, (r : Int)) else none := by
  unfold openN
  rw [if_neg (by omega), hc, hr]
  all_goals rfl
theorem foot_lt (s : ByteArray) (i j k : Nat) (h : j ≤ i + k) : numN (s.extract i j).data.toList < 256 ^ k := by
  have h1 := numN_lt (s.extract i j).data.toList
  have h2 : (s.extract i j).data.toList.length = (s.extract i j).size := rfl
  rw [h2, ByteArray.size_extract] at h1
  exact Nat.lt_of_lt_of_le h1 (Nat.pow_le_pow_right (by decide) (by omega))
theorem open_none {w w' : World} {s : ByteArray} {o : Option (List Cell × Int)} (h : o = none) (hb : Below w.heap.size w w') : OpenPost w s o (.returned (.tuple #[.pointer none, .int .i64 80])) w' := by
  subst h
  exact ⟨hb, rfl⟩
set_option maxRecDepth 100000 in
set_option maxHeartbeats 4000000 in
theorem open_spec (s : ByteArray) (hs : s.size ≤ 4611686018427387904) (w : World) : Calls Try.prog 42 #[.string s] w (OpenPost w s (openN s)) := by
  by_cases h10 : s.size < 10
  · have HN := Lib.hid (show openN s = none by unfold openN; rw [if_pos (.inl h10)])
    have j1 : (s.size : Int) < 10 := by omega
    clear h10
    go_enter Try.func42, Try.ntmps42
    go_wp2_with fail
    go_ret2
    exact open_none HN.out (Below.refl _ _)
  have j1 : (10 : Int) ≤ (s.size : Int) := by omega
  by_cases h6 : 65536 < s.size
  · have HN := Lib.hid (show openN s = none by unfold openN; rw [if_pos (.inr h6)])
    have j2 : (65536 : Int) < (s.size : Int) := by omega
    clear h10 h6
    go_enter Try.func42, Try.ntmps42
    go_wp2_with fail
    go_ret2
    exact open_none HN.out (Below.refl _ _)
  have j2 : (s.size : Int) ≤ 65536 := by omega
  have hc := foot_lt s (s.size - 10) (s.size - 6) 4 (by omega)
  have hr := foot_lt s (s.size - 6) (s.size - 4) 2 (by omega)
  have f4 := foot_raw4 (s := s) (by omega)
  have f2 := foot_raw2 (s := s) (by omega)
  obtain ⟨c, hcq⟩ : ∃ c, numN (s.extract (s.size - 10) (s.size - 6)).data.toList = c := ⟨_, rfl⟩
  obtain ⟨r, hrq⟩ : ∃ r, numN (s.extract (s.size - 6) (s.size - 4)).data.toList = r := ⟨_, rfl⟩
  have hdef := openN_eq h10 h6 hcq hrq
  rw [hcq] at hc
  rw [hrq] at hr
  have hA := fun (W : World) (hW : RdIs W w.heap.size (s.extract (s.size - 10) s.size) 0) => reader_u32 hW
  have hB := fun (W : World) (hW : RdIs W w.heap.size (s.extract (s.size - 6) s.size) 0) => reader_u16 hW
  rw [f4] at hA
  rw [f2] at hB
  dsimp only at hA hB
  rw [hcq, show c % 4294967296 = c by omega] at hA
  rw [hrq, show r % 65536 = r by omega] at hB
  have HA := Lib.hid hA
  have HB := Lib.hid hB
  have hn := reader_new (s.extract (s.size - 10) s.size) w
  have HNEW := Lib.hid hn
  have ts : ((s.size : Int) - 10).toNat = s.size - 10 := by omega
  clear hn hA hB f4 f2 hcq hrq
  by_cases hend : s.size < 10 + 4 * min c s.size
  · have HN := Lib.hid (show openN s = none by rw [hdef, if_pos hend])
    have j3 : (s.size : Int) - 10 - 4 * min (c : Int) (s.size : Int) < 0 := by omega
    clear hdef hend
    go_enter Try.func42, Try.ntmps42
    go_wp2_with (first | (go_at_call 98; refine HNEW.out.mono ?_; rintro e w1 ⟨rfl, R1, b1, hs1⟩) | (go_at_call 99; refine (HA.out _ R1).mono ?_; rintro e w2 ⟨rfl, R2, o2⟩) | (go_at_call 100; refine (HB.out _ R2).mono ?_; rintro e w3 ⟨rfl, R3, o3⟩))
    go_ret2
    exact open_none HN.out (b1.trans ((o2.trans o3).below b1.size (fun j hj => by omega)))
  obtain ⟨n, hnq⟩ : ∃ n, s.size - 10 - 4 * min c s.size = n := ⟨_, rfl⟩
  rw [if_neg hend, hnq] at hdef
  have j3 : (s.size : Int) - 10 - 4 * min (c : Int) (s.size : Int) = (n : Int) := by omega
  have hns : n ≤ s.size := by omega
  have hRD := fun (W : World) => read_spec (s.extract 0 n) (by have := ex_size_le s 0 n; omega) W
  have hsq := @readN_seq (s.extract 0 n)
  have hxs := ex_size_le s 0 n
  have hnI : (n : Int) ≤ (s.size : Int) := by omega
  clear hnq hend
  cases hrd : readN (s.extract 0 n) with
  | none =>
    rw [hrd] at hdef hRD
    have HN := Lib.hid (show openN s = none from hdef)
    have HRD := Lib.hid hRD
    clear hdef hRD hrd hsq
    go_enter Try.func42, Try.ntmps42
    go_wp2_with (first | (go_at_call 98; refine HNEW.out.mono ?_; rintro e w1 ⟨rfl, R1, b1, hs1⟩) | (go_at_call 99; refine (HA.out _ R1).mono ?_; rintro e w2 ⟨rfl, R2, o2⟩) | (go_at_call 100; refine (HB.out _ R2).mono ?_; rintro e w3 ⟨rfl, R3, o3⟩) | (go_at_call 101; refine (HRD.out _).mono ?_; rintro e w4 ⟨b4, rfl⟩))
    go_ret2
    have b3 := b1.trans ((o2.trans o3).below b1.size (fun j hj => by omega))
    exact open_none HN.out (b3.trans (b4.mono b3.size))
  | some l =>
    obtain ⟨hl1, hl2⟩ := hsq hrd
    rw [hrd] at hdef hRD
    have HRD := Lib.hid hRD
    have hBU := fun (W : World) (v : Value) (h : Reads W v l.length 4 (cellVals l)) => build_spec h (by omega) hl2 (r : Int)
    obtain ⟨X, hX⟩ : ∃ X, (buildN l r).1 = X := ⟨_, rfl⟩
    obtain ⟨E, hE⟩ : ∃ E, (buildN l r).2 = E := ⟨_, rfl⟩
    rw [hX, hE] at hBU
    have HBU := Lib.hid hBU
    have hbq : buildN l r = (X, E) := by rw [← hX, ← hE]
    replace hdef : openN s = if buildN l r = (s.data.toList, 0) then some (l, (r : Int)) else none := hdef
    rw [hbq] at hdef
    clear hRD hBU hX hE hrd hbq
    by_cases hE0 : E = 0
    · subst hE0
      by_cases hXs : X = s.data.toList
      · subst hXs
        have HN := Lib.hid (show openN s = some (l, (r : Int)) by rw [hdef, if_pos rfl])
        clear hdef
        go_enter Try.func42, Try.ntmps42
        go_wp2_with (first | (go_at_call 98; refine HNEW.out.mono ?_; rintro e w1 ⟨rfl, R1, b1, hs1⟩) | (go_at_call 99; refine (HA.out _ R1).mono ?_; rintro e w2 ⟨rfl, R2, o2⟩) | (go_at_call 100; refine (HB.out _ R2).mono ?_; rintro e w3 ⟨rfl, R3, o3⟩) | (go_at_call 101; refine (HRD.out _).mono ?_; rintro e w4 ⟨b4, v4, rfl, own4⟩; obtain ⟨A4, k4, rfl⟩ := (Reads.of_own own4).form; have HO4 := Lib.hid own4; clear own4) | (go_at_call 37; refine (HBU.out _ _ (Reads.of_own HO4.out)).mono ?_; rintro e w5 ⟨rfl, b5⟩))
        go_ret2
        have b3 := b1.trans ((o2.trans o3).below b1.size (fun j hj => by omega))
        have b54 := b4.trans (b5.mono b4.size)
        have b6 := (b3.trans (b54.mono b3.size)).alloc (b3.trans (b54.mono b3.size)).size (.cells #[.string s, .slice A4 l.length k4, .int .i64 r, .bool true] 85)
        rw [HN.out]
        refine ⟨b6, w5.heap.size, rfl, ⟨⟨_, _, Blk.new w5 _ _, (own_kept HO4.out b5).alloc _⟩, by omega⟩, ?_⟩
        exact Nat.le_trans b3.size b54.size
      · have HN := Lib.hid (show openN s = none by rw [hdef, if_neg (fun h => hXs (congrArg Prod.fst h))])
        have hXq : (X == s.toList) = false := by rw [Lib.toList_data]; simpa using hXs
        clear hdef
        go_enter Try.func42, Try.ntmps42
        go_wp2_with (first | (go_at_call 98; refine HNEW.out.mono ?_; rintro e w1 ⟨rfl, R1, b1, hs1⟩) | (go_at_call 99; refine (HA.out _ R1).mono ?_; rintro e w2 ⟨rfl, R2, o2⟩) | (go_at_call 100; refine (HB.out _ R2).mono ?_; rintro e w3 ⟨rfl, R3, o3⟩) | (go_at_call 101; refine (HRD.out _).mono ?_; rintro e w4 ⟨b4, v4, rfl, own4⟩; obtain ⟨A4, k4, rfl⟩ := (Reads.of_own own4).form; have HO4 := Lib.hid own4; clear own4) | (go_at_call 37; refine (HBU.out _ _ (Reads.of_own HO4.out)).mono ?_; rintro e w5 ⟨rfl, b5⟩))
        go_ret2
        have b3 := b1.trans ((o2.trans o3).below b1.size (fun j hj => by omega))
        have b54 := b4.trans (b5.mono b4.size)
        exact open_none HN.out (b3.trans (b54.mono b3.size))
    · have HN := Lib.hid (show openN s = none by rw [hdef, if_neg (fun h => hE0 (congrArg Prod.snd h))])
      have hEq : (E == 0) = false := by simpa using hE0
      clear hdef
      go_enter Try.func42, Try.ntmps42
      go_wp2_with (first | (go_at_call 98; refine HNEW.out.mono ?_; rintro e w1 ⟨rfl, R1, b1, hs1⟩) | (go_at_call 99; refine (HA.out _ R1).mono ?_; rintro e w2 ⟨rfl, R2, o2⟩) | (go_at_call 100; refine (HB.out _ R2).mono ?_; rintro e w3 ⟨rfl, R3, o3⟩) | (go_at_call 101; refine (HRD.out _).mono ?_; rintro e w4 ⟨b4, v4, rfl, own4⟩; obtain ⟨A4, k4, rfl⟩ := (Reads.of_own own4).form; have HO4 := Lib.hid own4; clear own4) | (go_at_call 37; refine (HBU.out _ _ (Reads.of_own HO4.out)).mono ?_; rintro e w5 ⟨rfl, b5⟩))
      go_ret2
      have b3 := b1.trans ((o2.trans o3).below b1.size (fun j hj => by omega))
      have b54 := b4.trans (b5.mono b4.size)
      exact open_none HN.out (b3.trans (b54.mono b3.size))
end Go.Proofs.Ytbcaiegglbdonaa

/-
  A table's foot and index read: Reader.Text, readFoot, slices of bytes as strings.
-/
namespace Go.Proofs.Ytbcaiegglbdonaa
open Go Go.RowKit
set_option linter.unusedSimpArgs false

/-! ### Text -/
def textR (s : ByteArray) (e : Int) : ByteArray × ByteArray × Int :=
  let v := varR s e
  if v.2.2 ≠ 0 then (⟨#[]⟩, v.2.1, v.2.2) else if v.2.1.size < v.1 then (⟨#[]⟩, v.2.1, 20) else (v.2.1.extract 0 v.1, v.2.1.extract v.1 v.2.1.size, 0)
theorem shp_lt : ∀ (l : List UInt8) (i n : Nat), i ≤ 9 → n < 128 ^ i → (shp i n l).1 < 18446744073709551616
  | [], _, _, _, _ => by simp [shp]
  | c :: l, i, n, hi, hn => by
    rw [shp]
    split
    · exact Nat.zero_lt_of_lt (Nat.lt_succ_self _)
    · rename_i h9
      have hp9 : 128 ^ i ≤ 128 ^ 9 := Nat.pow_le_pow_right (by decide) hi
      have e9 : (128 : Nat) ^ 9 = 9223372036854775808 := by decide
      split
      · rename_i h128
        split
        · exact Nat.zero_lt_of_lt (Nat.lt_succ_self _)
        · show n + c.toNat * 128 ^ i < _
          by_cases h : i = 9
          · have hc : c = 1 := Decidable.byContradiction fun hc => h9 ⟨h, hc⟩
            subst hc h
            show n + 1 * 128 ^ 9 < _
            omega
          · have hp8 : 128 ^ i ≤ 128 ^ 8 := Nat.pow_le_pow_right (by decide) (by omega)
            have e8 : (128 : Nat) ^ 8 = 72057594037927936 := by decide
            have : c.toNat * 128 ^ i ≤ 127 * 72057594037927936 := Nat.mul_le_mul (by omega) (by omega)
            omega
      · by_cases h : i = 9
        · have hc : c = 1 := Decidable.byContradiction fun hc => h9 ⟨h, hc⟩
          subst hc
          rename_i hh
          exact absurd (by decide) hh
        · refine shp_lt l (i + 1) _ (by omega) ?_
          rw [Nat.pow_succ]
          have h2 : c.toNat % 128 * 128 ^ i ≤ 127 * 128 ^ i := Nat.mul_le_mul_right _ (by omega)
          omega
theorem varR_lt (s : ByteArray) (e : Int) : (varR s e).1 < 18446744073709551616 := by
  unfold varR
  split
  · exact Nat.zero_lt_of_lt (Nat.lt_succ_self _)
  · split
    · exact Nat.zero_lt_of_lt (Nat.lt_succ_self _)
    · exact shp_lt _ 0 0 (by decide) (by decide)
theorem textR_size (s : ByteArray) (e : Int) : (textR s e).2.1.size ≤ s.size := by
  unfold textR
  have := varR_size s e
  dsimp only
  split
  · exact this
  · split
    · exact this
    · exact Nat.le_trans (ex_size_le _ _ _) this
set_option maxRecDepth 100000 in
set_option maxHeartbeats 1000000 in
theorem reader_text {w : World} {p : Nat} {s : ByteArray} {e : Int} (h : RdIs w p s e) (hs : s.size ≤ 4611686018427387904) :
    Calls Try.prog 144 #[.pointer (some ⟨p, 0, none⟩)] w (ReadsR w p (.string (textR s e).1) (textR s e).2.1 (textR s e).2.2) := by
  have hv := reader_varint h hs
  have hVs := varR_size s e
  have hV64 := varR_lt s e
  have hT : textR s e = (if (varR s e).2.2 ≠ 0 then (⟨#[]⟩, (varR s e).2.1, (varR s e).2.2) else if (varR s e).2.1.size < (varR s e).1 then (⟨#[]⟩, (varR s e).2.1, 20) else ((varR s e).2.1.extract 0 (varR s e).1, (varR s e).2.1.extract (varR s e).1 (varR s e).2.1.size, 0)) := rfl
  obtain ⟨V, hV⟩ : ∃ V, varR s e = V := ⟨_, rfl⟩
  rw [hV] at hv hVs hV64 hT
  obtain ⟨n, t, f⟩ := V
  dsimp only at hv hVs hV64 hT
  have HV := Lib.hid hv
  clear hv hV h
  by_cases hf : f = 0
  · subst hf
    rw [if_neg (by simp)] at hT
    have w1 : IntKind.u64.wrap (t.size : Int) = (t.size : Int) := by rw [IntKind.wrap_u64]; omega
    by_cases hlt : t.size < n
    · rw [if_pos hlt] at hT
      rw [hT]
      have j1 : (t.size : Int) < (n : Int) := by omega
      clear hT
      go_enter Try.func144, Try.ntmps144
      go_wp2_with (first | (go_at_call 135; refine HV.out.mono ?_; rintro e w1 ⟨rfl, hr, ho⟩; have c0 : w1.cell? ⟨p, 0, none⟩ = some (.string t) := Blk.cell hr 0 _ rfl; have c1 : w1.cell? ⟨p, 1, none⟩ = some (.int .i64 0) := Blk.cell hr 1 _ rfl; have pl := Blk.lt hr; have HR := Lib.hid hr; clear hr) | (go_at_call 150; refine (reader_fault HR.out 20).mono ?_; rintro e w2 ⟨rfl, hr2, ho2⟩))
      go_ret
      exact ⟨rfl, hr2, ho.trans ho2⟩
    · rw [if_neg hlt] at hT
      rw [hT]
      have j1 : (n : Int) ≤ (t.size : Int) := by omega
      have w2 : IntKind.i64.wrap (n : Int) = (n : Int) := IntWalk.i64_in _ (by omega)
      have hraw := rawR_at (s := t) n (by omega)
      have HRW := Lib.hid hraw
      clear hT hraw
      go_enter Try.func144, Try.ntmps144
      go_wp2_with (first | (go_at_call 135; refine HV.out.mono ?_; rintro e w1 ⟨rfl, hr, ho⟩; have c0 : w1.cell? ⟨p, 0, none⟩ = some (.string t) := Blk.cell hr 0 _ rfl; have c1 : w1.cell? ⟨p, 1, none⟩ = some (.int .i64 0) := Blk.cell hr 1 _ rfl; have pl := Blk.lt hr; have HR := Lib.hid hr; clear hr) | (go_at_call 138; have hrr := reader_raw HR.out (n : Int); rw [HRW.out] at hrr; refine hrr.mono ?_; clear hrr; rintro e w2 ⟨rfl, hr2, ho2⟩))
      go_ret
      exact ⟨rfl, hr2, ho.trans ho2⟩
  · rw [if_pos hf] at hT
    rw [hT]
    have hfq : (f == 0) = false := by simpa using hf
    clear hT
    go_enter Try.func144, Try.ntmps144
    go_wp2_with (go_at_call 135; refine HV.out.mono ?_; rintro e w1 ⟨rfl, hr, ho⟩; have c0 : w1.cell? ⟨p, 0, none⟩ = some (.string t) := Blk.cell hr 0 _ rfl; have c1 : w1.cell? ⟨p, 1, none⟩ = some (.int .i64 f) := Blk.cell hr 1 _ rfl; have pl := Blk.lt hr; have HR := Lib.hid hr; clear hr)
    go_ret
    exact ⟨rfl, HR.out, ho⟩
/-! ### A slice of bytes as a string -/
theorem bytes_at {s : ByteArray} {lo hi j : Nat} {u : UInt8} (h : (s.extract lo hi).data.toList[j]? = some u) : s.data.toList[lo + j]? = some u := by
  have e : (s.extract lo hi).data.toList = (s.data.toList.take (min hi s.size)).drop lo := by
    rw [ByteArray.data_extract, Array.toList_extract, List.extract_eq_take_drop]
    show List.take (hi - lo) (List.drop lo s.data.toList) = _
    rw [List.drop_take]
    have hs : s.data.toList.length = s.size := rfl
    by_cases hh : hi ≤ s.size
    · rw [Nat.min_eq_left hh]
    · rw [Nat.min_eq_right (by omega), List.take_of_length_le (by rw [List.length_drop]; omega), List.take_of_length_le (by rw [List.length_drop]; omega)]
  rw [e, List.getElem?_drop, List.getElem?_take] at h
  split at h
  · exact h
  · cases h
theorem conv_cells {W : World} {A : Option Addr} {n cap : Nat} {s : ByteArray} (hn : s.size = n) (h : n = 0 ∨ ∃ b o, A = some ⟨b, o, none⟩ ∧ ∀ (j : Nat) u, s.data.toList[j]? = some u → W.cell? ⟨b, o + j, none⟩ = some (.int .u8 ((u : UInt8).toNat : Nat))) :
    (convert 74 9 (.slice A n cap)).run Try.prog W = .ok (.string s) W := by
  have hsl : s.data.toList.length = s.size := rfl
  cases A with
  | none =>
    have h0 : n = 0 := by
      rcases h with h | ⟨b, o, h, _⟩
      · exact h
      · cases h
    subst h0
    have := run_convert_bytes_nil (P := Try.prog) W 74 5 Try.underlying74 Try.underlying5 0 cap 9 Try.underlying9
    rw [this]
    have : s = ByteArray.empty := by
      apply ByteArray.ext
      apply Array.ext'
      show s.data.toList = []
      exact List.eq_nil_of_length_eq_zero (by omega)
    rw [this]
  | some a =>
    obtain ⟨b, o, f⟩ := a
    by_cases h0 : n = 0
    · subst h0
      have h1 := Go.run_convert_bytes_string (P := Try.prog) W 74 9 5 (some ⟨b, o, f⟩) 0 cap Try.underlying74 Try.underlying5 Try.underlying9
      rw [h1]
      have : s = ByteArray.empty := by
        apply ByteArray.ext
        apply Array.ext'
        show s.data.toList = []
        exact List.eq_nil_of_length_eq_zero (by omega)
      rw [this]
      simp [Conv.bytesToString, loadCells, loadCellsFrom]
    · obtain ⟨b', o', e, hc⟩ := h.resolve_left h0
      cases e
      have := run_convert_bytes_arg (P := Try.prog) W 74 5 Try.underlying74 Try.underlying5 b o n cap (s.data.toList.map fun b => (b.toNat : Int)) (by simpa [hsl] using hn) (fun i hi => by
        have := hc i _ (List.getElem?_eq_getElem (by omega))
        rw [this]
        simp [List.getD, List.getElem?_eq_getElem (show i < s.data.toList.length by omega)]) 9 Try.underlying9
      have hs : strOfNums (s.data.toList.map fun b => (b.toNat : Int)) = s := by
        unfold strOfNums
        rw [List.map_map]
        have h1 : ((fun n : Int => UInt8.ofNat n.toNat) ∘ fun b : UInt8 => (b.toNat : Int)) = id := by funext b; simp
        rw [h1, List.map_id]
      rw [this, hs]
/-- A part of a slice of bytes, as a string. -/
theorem cut_string {w : World} {A : Option Addr} {n cap : Nat} {s : ByteArray} (h : Reads w (.slice A n cap) n 1 (bv s.data.toList)) {lo hi m : Nat} (h1 : lo ≤ hi) (h2 : hi ≤ n) (h3 : hi ≤ m) :
    ∃ a c, cutOf2 A lo hi m 1 = .slice a (hi - lo) c ∧ ∀ W, Below w.heap.size w W → (convert 74 9 (.slice a (hi - lo) c)).run Try.prog W = .ok (.string (s.extract lo hi)) W := by
  have hsz : s.size = n := by have := h.1; rw [bv_len] at this; have hsl : s.data.toList.length = s.size := rfl; omega
  refine ⟨_, _, rfl, fun W hb => conv_cells (by rw [ByteArray.size_extract]; omega) ?_⟩
  by_cases h0 : hi - lo = 0
  · exact .inl h0
  · right
    obtain ⟨_, _, A', cap', e, h4⟩ := h.kept hb
    cases e
    obtain ⟨b, o, rfl, hbl, hc⟩ := h4.resolve_left (by omega)
    rw [if_neg (by omega)]
    refine ⟨b, o + lo * 1, by rw [Option.map_some, add_at rfl], fun j u hj => ?_⟩
    have := bytes_at hj
    have h5 := hc (lo + j) _ (by unfold bv; rw [List.getElem?_map, this]; rfl)
    rw [Nat.mul_one, Nat.add_assoc]
    exact h5
/-! ### The foot -/
structure FootN where
  fa : Nat
  fs : Nat
  ia : Nat
  isz : Nat
  n : Nat
  b : Nat
  r : Nat
  t : Nat
def FootN.val (x : FootN) : Value := .agg #[.int .i64 (x.fa : Nat), .int .i64 (x.fs : Nat), .int .i64 (x.ia : Nat), .int .i64 (x.isz : Nat), .int .i64 (x.n : Nat), .int .i64 (x.b : Nat), .int .i64 (x.r : Nat), .int .i64 (x.t : Nat)]
def num4 (s : ByteArray) (k : Nat) : Nat := numN (s.extract (s.size - 36 + 4 * k) (s.size - 36 + 4 * k + 4)).data.toList
def num2 (s : ByteArray) (k : Nat) : Nat := numN (s.extract (s.size - 12 + 2 * k) (s.size - 12 + 2 * k + 2)).data.toList
def footOf (s : ByteArray) : FootN := if s.size < 36 then ⟨0, 0, 0, 0, 0, 0, 0, 0⟩ else ⟨num4 s 0, num4 s 1, num4 s 2, num4 s 3, num4 s 4, num4 s 5, num2 s 0, num2 s 1⟩
def footOk (s : ByteArray) : Bool := decide (36 ≤ s.size) && (decide ((footOf s).fa + (footOf s).fs = (footOf s).ia) && decide ((footOf s).ia + (footOf s).isz = s.size - 36))
theorem ex_raw {s : ByteArray} {a : Nat} (n : Nat) (h : a + n ≤ s.size) : rawR (s.extract a s.size) 0 (n : Int) = (s.extract a (a + n), s.extract (a + n) s.size, 0) := by
  have hz : (s.extract a s.size).size = s.size - a := by rw [ByteArray.size_extract]; omega
  have e := rawR_at (s := s.extract a s.size) n (by omega)
  have e1 : (s.extract a s.size).extract 0 n = s.extract a (a + n) := by
    rw [ByteArray.extract_extract, Nat.add_zero, show min (a + n) s.size = a + n by omega]
  have e2 : (s.extract a s.size).extract n (s.extract a s.size).size = s.extract (a + n) s.size := by
    rw [ByteArray.extract_extract, show min (a + (s.extract a s.size).size) s.size = s.size by omega]
  rw [e1, e2] at e
  exact e
theorem num4_lt (s : ByteArray) (k : Nat) : num4 s k < 4294967296 := foot_lt s _ _ 4 (by omega)
theorem num2_lt (s : ByteArray) (k : Nat) : num2 s k < 65536 := foot_lt s _ _ 2 (by omega)
def six (f : Nat → Nat) (k : Nat) : Array Value :=
  #[.int .i64 (if 0 < k then f 0 else 0 : Nat), .int .i64 (if 1 < k then f 1 else 0 : Nat), .int .i64 (if 2 < k then f 2 else 0 : Nat), .int .i64 (if 3 < k then f 3 else 0 : Nat), .int .i64 (if 4 < k then f 4 else 0 : Nat), .int .i64 (if 5 < k then f 5 else 0 : Nat)]
theorem six_set (f : Nat → Nat) {k : Nat} (h : k < 6) : (six f k).setIfInBounds k (.int .i64 (f k : Nat)) = six f (k + 1) := by
  have : k = 0 ∨ k = 1 ∨ k = 2 ∨ k = 3 ∨ k = 4 ∨ k = 5 := by omega
  rcases this with rfl | rfl | rfl | rfl | rfl | rfl <;> rfl
theorem six_get (f : Nat → Nat) {k : Nat} (h : k < 6) : (six f k)[k]? = some (.int .i64 0) := by
  have : k = 0 ∨ k = 1 ∨ k = 2 ∨ k = 3 ∨ k = 4 ∨ k = 5 := by omega
  rcases this with rfl | rfl | rfl | rfl | rfl | rfl <;> rfl
def FtRel2 (w : World) (s : ByteArray) (pr ab : Nat) (f : Nat → Nat) (i : Value) (W : World) : Prop :=
  ∃ k : Nat, k ≤ 6 ∧ i = .int .i64 k ∧ RdIs W pr (s.extract (s.size - 36 + 4 * k) s.size) 0 ∧ Blk W ab (six f k) 184 ∧ Blk W w.heap.size #[.int .i64 0, .int .i64 0, .int .i64 0, .int .i64 0, .int .i64 0, .int .i64 0, .int .i64 0, .int .i64 0] 147 ∧ Below w.heap.size w W
theorem cell8 {w : World} {b : Nat} {v0 v1 v2 v3 v4 v5 v6 v7 : Value} {t : TypeId} (h : Blk w b #[v0, v1, v2, v3, v4, v5, v6, v7] t) :
    w.cell? ⟨b, 0, none⟩ = some v0 ∧ w.cell? ⟨b, 1, none⟩ = some v1 ∧ w.cell? ⟨b, 2, none⟩ = some v2 ∧ w.cell? ⟨b, 3, none⟩ = some v3 ∧ w.cell? ⟨b, 4, none⟩ = some v4 ∧ w.cell? ⟨b, 5, none⟩ = some v5 ∧ w.cell? ⟨b, 6, none⟩ = some v6 ∧ w.cell? ⟨b, 7, none⟩ = some v7 :=
  ⟨h.cell 0 _ rfl, h.cell 1 _ rfl, h.cell 2 _ rfl, h.cell 3 _ rfl, h.cell 4 _ rfl, h.cell 5 _ rfl, h.cell 6 _ rfl, h.cell 7 _ rfl⟩
theorem set8 {w : World} {b : Nat} {v0 v1 v2 v3 v4 v5 v6 v7 : Value} {t : TypeId} (h : Blk w b #[v0, v1, v2, v3, v4, v5, v6, v7] t) (u0 u1 u2 u3 u4 u5 u6 u7 : Value) :
    Blk ((((((((w.setCell ⟨b, 0, none⟩ u0).setCell ⟨b, 1, none⟩ u1).setCell ⟨b, 2, none⟩ u2).setCell ⟨b, 3, none⟩ u3).setCell ⟨b, 4, none⟩ u4).setCell ⟨b, 5, none⟩ u5).setCell ⟨b, 6, none⟩ u6).setCell ⟨b, 7, none⟩ u7) b #[u0, u1, u2, u3, u4, u5, u6, u7] t := by
  have h := (((((((h.setCell 0 u0).setCell 1 u1).setCell 2 u2).setCell 3 u3).setCell 4 u4).setCell 5 u5).setCell 6 u6).setCell 7 u7
  simp only [List.setIfInBounds_toArray, List.set_cons_zero, List.set_cons_succ] at h
  exact h
theorem below8 {w W : World} {B b : Nat} (h : Below B w W) (hb : B ≤ b) (u0 u1 u2 u3 u4 u5 u6 u7 : Value) :
    Below B w ((((((((W.setCell ⟨b, 0, none⟩ u0).setCell ⟨b, 1, none⟩ u1).setCell ⟨b, 2, none⟩ u2).setCell ⟨b, 3, none⟩ u3).setCell ⟨b, 4, none⟩ u4).setCell ⟨b, 5, none⟩ u5).setCell ⟨b, 6, none⟩ u6).setCell ⟨b, 7, none⟩ u7) :=
  (((((((h.setCell (p := ⟨b, 0, none⟩) hb u0).setCell (p := ⟨b, 1, none⟩) hb u1).setCell (p := ⟨b, 2, none⟩) hb u2).setCell (p := ⟨b, 3, none⟩) hb u3).setCell (p := ⟨b, 4, none⟩) hb u4).setCell (p := ⟨b, 5, none⟩) hb u5).setCell (p := ⟨b, 6, none⟩) hb u6).setCell (p := ⟨b, 7, none⟩) hb u7
theorem ne8 {w : World} {b b' : Nat} {arr : Array Value} {t : TypeId} (h : Blk w b arr t) (hn : b ≠ b') (u0 u1 u2 u3 u4 u5 u6 u7 : Value) :
    Blk ((((((((w.setCell ⟨b', 0, none⟩ u0).setCell ⟨b', 1, none⟩ u1).setCell ⟨b', 2, none⟩ u2).setCell ⟨b', 3, none⟩ u3).setCell ⟨b', 4, none⟩ u4).setCell ⟨b', 5, none⟩ u5).setCell ⟨b', 6, none⟩ u6).setCell ⟨b', 7, none⟩ u7) b arr t :=
  (((((((h.setCell_ne hn 0 u0).setCell_ne hn 1 u1).setCell_ne hn 2 u2).setCell_ne hn 3 u3).setCell_ne hn 4 u4).setCell_ne hn 5 u5).setCell_ne hn 6 u6).setCell_ne hn 7 u7
structure FtSt (w : World) (f : Nat → Nat) (x : ByteArray) (W : World) : Prop where
  rd : RdIs W (w.heap.size + 1) x 0
  arr : Blk W (w.heap.size + 1 + 1) #[.int .i64 (f 0 : Nat), .int .i64 (f 1 : Nat), .int .i64 (f 2 : Nat), .int .i64 (f 3 : Nat), .int .i64 (f 4 : Nat), .int .i64 (f 5 : Nat)] 184
  res : Blk W w.heap.size #[.int .i64 0, .int .i64 0, .int .i64 0, .int .i64 0, .int .i64 0, .int .i64 0, .int .i64 0, .int .i64 0] 147
  below : Below w.heap.size w W
theorem FtSt.S {w W : World} {f : Nat → Nat} {x : ByteArray} (h : FtSt w f x W) : W.cell? ⟨w.heap.size + 1 + 1, 0, none⟩ = some (.int .i64 (f 0 : Nat)) ∧ W.cell? ⟨w.heap.size + 1 + 1, 1, none⟩ = some (.int .i64 (f 1 : Nat)) ∧ W.cell? ⟨w.heap.size + 1 + 1, 2, none⟩ = some (.int .i64 (f 2 : Nat)) ∧ W.cell? ⟨w.heap.size + 1 + 1, 3, none⟩ = some (.int .i64 (f 3 : Nat)) ∧ W.cell? ⟨w.heap.size + 1 + 1, 4, none⟩ = some (.int .i64 (f 4 : Nat)) ∧ W.cell? ⟨w.heap.size + 1 + 1, 5, none⟩ = some (.int .i64 (f 5 : Nat)) ∧ w.heap.size + 1 + 1 < W.heap.size :=
  ⟨h.arr.cell 0 _ rfl, h.arr.cell 1 _ rfl, h.arr.cell 2 _ rfl, h.arr.cell 3 _ rfl, h.arr.cell 4 _ rfl, h.arr.cell 5 _ rfl, h.arr.lt⟩
theorem FtSt.only {w W W' : World} {f : Nat → Nat} {x x' : ByteArray} (h : FtSt w f x W) (hr : RdIs W' (w.heap.size + 1) x' 0) (ho : Only (fun k => k = w.heap.size + 1) W W') : FtSt w f x' W' :=
  ⟨hr, h.arr.only ho (by omega), h.res.only ho (by omega), h.below.trans (ho.below h.below.size (fun j hj => by omega))⟩
theorem FtSt.alloc {w W : World} {f : Nat → Nat} {x : ByteArray} (h : FtSt w f x W) (o : Obj) : FtSt w f x (W.alloc o) := ⟨Blk.alloc h.rd o, h.arr.alloc o, h.res.alloc o, h.below.alloc h.below.size o⟩
theorem FtSt.set {w W : World} {f : Nat → Nat} {x : ByteArray} (h : FtSt w f x W) {q : Nat} (h0 : w.heap.size + 1 + 1 < q) (u0 u1 u2 u3 u4 u5 u6 u7 : Value) : FtSt w f x ((((((((W.setCell ⟨q, 0, none⟩ u0).setCell ⟨q, 1, none⟩ u1).setCell ⟨q, 2, none⟩ u2).setCell ⟨q, 3, none⟩ u3).setCell ⟨q, 4, none⟩ u4).setCell ⟨q, 5, none⟩ u5).setCell ⟨q, 6, none⟩ u6).setCell ⟨q, 7, none⟩ u7) :=
  ⟨ne8 h.rd (by omega) _ _ _ _ _ _ _ _, ne8 h.arr (by omega) _ _ _ _ _ _ _ _, ne8 h.res (by omega) _ _ _ _ _ _ _ _, below8 h.below (by omega) _ _ _ _ _ _ _ _⟩
def FootPost (w : World) (s : ByteArray) (e : Ending) (w' : World) : Prop := e = .returned (.tuple #[(footOf s).val, .bool (footOk s)]) ∧ Below w.heap.size w w'
/-- What is behind a place of a slice of bytes, as a string. -/
theorem cut_rest {w : World} {A : Option Addr} {n cap : Nat} {s : ByteArray} (h : Reads w (.slice A n cap) n 1 (bv s.data.toList)) {lo : Nat} (h1 : lo ≤ n) (hc : n ≤ cap) :
    ∃ a c, (∀ W, (Instr.sliceAt 74 (.slice A n cap) (some (.int .i64 (lo : Nat))) none none).run Try.prog W = .ok (.slice a (n - lo) c) W) ∧ ∀ W, Below w.heap.size w W → (convert 74 9 (.slice a (n - lo) c)).run Try.prog W = .ok (.string (s.extract lo n)) W := by
  obtain ⟨a, c, h2, h3⟩ := cut_string h h1 (Nat.le_refl _) hc
  refine ⟨a, c, fun W => ?_, h3⟩
  rw [run_sliceAt_slice (P := Try.prog) W 74 _ _ _ _ (by kernel_rfl), run_slice_l W 74 A n cap (by kernel_rfl) .i64 lo (by omega) (by omega), ← h2]
  have : (sizeOf (Try.prog.elem 74)).run Try.prog W = .ok 1 W := by go_simp
  rw [this]
  rfl
set_option maxRecDepth 100000 in
set_option maxHeartbeats 4000000 in
theorem foot_spec {w : World} {A : Option Addr} {cap : Nat} {s : ByteArray} (h : Reads w (.slice A s.size cap) s.size 1 (bv s.data.toList)) (hs : s.size ≤ 4611686018427387904) (hcap : s.size ≤ cap) :
    Calls Try.prog 117 #[.slice A s.size cap] w (FootPost w s) := by
  have bA : Below w.heap.size w (w.alloc (.cells #[.int .i64 0, .int .i64 0, .int .i64 0, .int .i64 0, .int .i64 0, .int .i64 0, .int .i64 0, .int .i64 0] 147)) := (Below.refl _ _).alloc (Nat.le_refl _) _
  have hZ := Blk.new w #[.int .i64 0, .int .i64 0, .int .i64 0, .int .i64 0, .int .i64 0, .int .i64 0, .int .i64 0, .int .i64 0] 147
  by_cases h36 : s.size < 36
  · have HF := Lib.hid (show footOf s = ⟨0, 0, 0, 0, 0, 0, 0, 0⟩ by unfold footOf; rw [if_pos h36])
    have HO := Lib.hid (show footOk s = false by unfold footOk; rw [decide_eq_false (by omega)]; rfl)
    have j1 : (s.size : Int) < 36 := by omega
    clear h h36
    go_enter Try.func117, Try.ntmps117
    go_wp2_with fail
    refine bodyPost_ret (v := .tuple #[FootN.val ⟨0, 0, 0, 0, 0, 0, 0, 0⟩, .bool false]) ?_ rfl ⟨by rw [HF.out, HO.out], bA⟩
    obtain ⟨r0, r1, r2, r3, r4, r5, r6, r7⟩ := cell8 hZ
    simp [results, Try.results117, go_sem, FootN.val, r0, r1, r2, r3, r4, r5, r6, r7]
  obtain ⟨z, hz⟩ : ∃ z, s.size - 36 = z := ⟨_, rfl⟩
  have j1 : ¬ ((s.size : Int) < 36) := by omega
  have j2 : (s.size : Int) - 36 = (z : Int) := by omega
  obtain ⟨a, c, hcut, hconv⟩ := cut_rest (lo := z) h (by omega) hcap
  have hconv := hconv _ bA
  have hzl : s.size - z = 36 := by omega
  rw [hzl] at hcut hconv
  obtain ⟨f, hf⟩ : ∃ f, num4 s = f := ⟨_, rfl⟩
  have hf4 : ∀ k, f k < 4294967296 := by rw [← hf]; exact num4_lt s
  have hU := fun (k : Nat) (hk : k < 6) (W : World) (p : Nat) (hW : RdIs W p (s.extract (s.size - 36 + 4 * k) s.size) 0) => reader_u32 hW
  have hN0 : ∀ k, numN (s.extract (s.size - 36 + 4 * k) (s.size - 36 + 4 * k + 4)).data.toList % 4294967296 = f k := fun k => by
    rw [← hf]; exact Nat.mod_eq_of_lt (num4_lt s k)
  have HU := Lib.hid (show ∀ (k : Nat), k < 6 → ∀ (W : World) (p : Nat), RdIs W p (s.extract (s.size - 36 + 4 * k) s.size) 0 → Calls Try.prog 99 #[.pointer (some ⟨p, 0, none⟩)] W (ReadsR W p (.int .u32 (f k : Nat)) (s.extract (s.size - 36 + 4 * (k + 1)) s.size) 0) from fun k hk W p hW => by
    have h1 := reader_u32 hW
    rw [show (4 : Int) = ((4 : Nat) : Int) from rfl, ex_raw 4 (by omega)] at h1
    dsimp only at h1
    rw [hN0 k] at h1
    exact h1)
  have HH := Lib.hid (show ∀ (k : Nat), k < 2 → ∀ (W : World) (p : Nat), RdIs W p (s.extract (s.size - 12 + 2 * k) s.size) 0 → Calls Try.prog 100 #[.pointer (some ⟨p, 0, none⟩)] W (ReadsR W p (.int .u16 (num2 s k : Nat)) (s.extract (s.size - 12 + 2 * (k + 1)) s.size) 0) from fun k hk W p hW => by
    have h1 := reader_u16 hW
    rw [show (2 : Int) = ((2 : Nat) : Int) from rfl, ex_raw 2 (by omega)] at h1
    dsimp only at h1
    rw [show numN (s.extract (s.size - 12 + 2 * k) (s.size - 12 + 2 * k + 2)).data.toList % 65536 = num2 s k from Nat.mod_eq_of_lt (num2_lt s k)] at h1
    exact h1)
  obtain ⟨R, hR⟩ : ∃ R, num2 s 0 = R := ⟨_, rfl⟩
  obtain ⟨T, hT⟩ : ∃ T, num2 s 1 = T := ⟨_, rfl⟩
  have hR16 : R < 65536 := by rw [← hR]; exact num2_lt s 0
  have hT16 : T < 65536 := by rw [← hT]; exact num2_lt s 1
  have hF : footOf s = ⟨f 0, f 1, f 2, f 3, f 4, f 5, R, T⟩ := by unfold footOf; rw [if_neg h36, ← hf, ← hR, ← hT]
  have hO : footOk s = (decide (f 0 + f 1 = f 2) && decide (f 2 + f 3 = z)) := by
    unfold footOk; rw [hF, hz, decide_eq_true (by omega)]; rfl
  have h0 := HH.out 0 (by omega)
  have h1 := HH.out 1 (by omega)
  rw [hR] at h0
  rw [hT] at h1
  have H0 := Lib.hid h0
  have H1 := Lib.hid h1
  have HF := Lib.hid hF
  have HO := Lib.hid hO
  have HZ0 := Lib.hid hz
  have hlen36 : s.size - 36 + 4 * 0 = z := by omega
  have HL := Lib.hid hlen36
  have f0 := hf4 0
  have f1 := hf4 1
  have f2 := hf4 2
  have f3 := hf4 3
  have f4 := hf4 4
  have f5 := hf4 5
  have HF4 := Lib.hid hf4
  clear h hU hN0 hf hR hT hF hO HH h0 h1 hz hzl hlen36 hf4
  go_enter Try.func117, Try.ntmps117
  go_wp2_with (go_at_call 98; refine (reader_new (s.extract z s.size) _).mono ?_; rintro e w1 ⟨rfl, hr1, hb1, hs1⟩)
  obtain ⟨w0, hw0⟩ : ∃ w0, w.alloc (.cells #[.int .i64 0, .int .i64 0, .int .i64 0, .int .i64 0, .int .i64 0, .int .i64 0, .int .i64 0, .int .i64 0] 147) = w0 := ⟨_, rfl⟩
  rw [hw0] at bA hZ hconv hr1 hb1 hs1
  have hpr : w0.heap.size = w.heap.size + 1 := by rw [← hw0]; simp
  rw [hpr] at hr1 hs1
  have hab : w1.heap.size = w.heap.size + 1 + 1 := hs1
  have bB := (bA.trans (hb1.mono bA.size)).alloc (by omega) (.cells (six f 0) 184)
  have hR1 := Blk.alloc hr1 (.cells (six f 0) 184)
  have hA1 := Blk.new w1 (six f 0) 184
  rw [hab] at hA1
  have hZ1 := (hZ.kept hb1).alloc (.cells (six f 0) 184)
  go_loopw [21] (FtRel2 w s (w.heap.size + 1) (w.heap.size + 1 + 1) f) (fun i _ => 6 - (intOf i).toNat)
  case atStart => exact ⟨0, Nat.zero_le _, rfl, by rw [HL.out]; exact hR1, hA1, hZ1, bB⟩
  case round =>
    obtain ⟨k, hk, rfl, hr, hB, hZr, hb⟩ := hrel
    by_cases hlt : k < 6
    · have k0 : (0 : Int) ≤ (k : Int) := by omega
      have k1 : (k : Int) < 6 := by omega
      have w1 : IntKind.i64.wrap ((f k : Nat) : Int) = ((f k : Nat) : Int) := IntWalk.i64_in _ (by have := HF4.out k; omega)
      go_wp2_with fail
      refine (HU.out k hlt _ _ hr).mono ?_
      rintro e w2 ⟨rfl, hr2, ho2⟩
      have hB2 := hB.only ho2 (by omega)
      have l2 := hB2.lt
      have fr2 := hB2.frozen k
      have cc2 := hB2.cell k _ (six_get f hlt)
      have HB2 := Lib.hid hB2
      clear hB hB2 hr
      go_wp2_with fail
      go_roundw
      case rel =>
        have hB3 := HB2.out.setCell k (.int .i64 (f k : Nat))
        rw [six_set f hlt] at hB3
        exact ⟨k + 1, by omega, by go_num, Blk.setCell_ne hr2 (by omega) k _, hB3, Blk.setCell_ne (hZr.only ho2 (by omega)) (by omega) k _, ((ho2.below (B := w.heap.size) hb.size (fun j hj => by omega)) |> hb.trans).setCell (p := ⟨_, k, none⟩) (by show w.heap.size ≤ w.heap.size + 1 + 1; omega) _⟩
      case measure => simp [intOf]; omega
    · obtain rfl : k = 6 := by omega
      have hB : Blk wr (w.heap.size + 1 + 1) #[.int .i64 (f 0 : Nat), .int .i64 (f 1 : Nat), .int .i64 (f 2 : Nat), .int .i64 (f 3 : Nat), .int .i64 (f 4 : Nat), .int .i64 (f 5 : Nat)] 184 := hB
      have hB0 := hB
      have a0 : wr.cell? ⟨w.heap.size + 1 + 1, 0, none⟩ = some (.int .i64 (f 0 : Nat)) := hB.cell 0 _ rfl
      have a1 : wr.cell? ⟨w.heap.size + 1 + 1, 1, none⟩ = some (.int .i64 (f 1 : Nat)) := hB.cell 1 _ rfl
      have a2 : wr.cell? ⟨w.heap.size + 1 + 1, 2, none⟩ = some (.int .i64 (f 2 : Nat)) := hB.cell 2 _ rfl
      have a3 : wr.cell? ⟨w.heap.size + 1 + 1, 3, none⟩ = some (.int .i64 (f 3 : Nat)) := hB.cell 3 _ rfl
      have a4 : wr.cell? ⟨w.heap.size + 1 + 1, 4, none⟩ = some (.int .i64 (f 4 : Nat)) := hB.cell 4 _ rfl
      have a5 : wr.cell? ⟨w.heap.size + 1 + 1, 5, none⟩ = some (.int .i64 (f 5 : Nat)) := hB.cell 5 _ rfl
      have al := hB.lt
      have hr : RdIs wr (w.heap.size + 1) (s.extract (s.size - 12 + 2 * 0) s.size) 0 := by
        have e : s.size - 12 + 2 * 0 = s.size - 36 + 4 * 6 := by omega
        rw [e]; exact hr
      have c1 := hr.lt
      have u1 : IntKind.i64.wrap (R : Int) = (R : Int) := IntWalk.i64_in _ (by omega)
      have u2 : IntKind.i64.wrap (T : Int) = (T : Int) := IntWalk.i64_in _ (by omega)
      clear HU hB hr1 hb1 hs1 hconv hZ bA hw0 hab bB hR1 hA1 hZ1 hpr hcut
      have hwr : w.heap.size + 1 + 1 < wr.heap.size := al
      go_wp2_with fail
      have sD : wr.drew.heap.size = wr.heap.size := rfl
      refine region_tree (S := fun w' => w'.cell? ⟨w.heap.size + 1 + 1, 0, none⟩ = some (.int .i64 (f 0 : Nat)) ∧ w'.cell? ⟨w.heap.size + 1 + 1, 1, none⟩ = some (.int .i64 (f 1 : Nat)) ∧ w'.cell? ⟨w.heap.size + 1 + 1, 2, none⟩ = some (.int .i64 (f 2 : Nat)) ∧ w'.cell? ⟨w.heap.size + 1 + 1, 3, none⟩ = some (.int .i64 (f 3 : Nat)) ∧ w'.cell? ⟨w.heap.size + 1 + 1, 4, none⟩ = some (.int .i64 (f 4 : Nat)) ∧ w'.cell? ⟨w.heap.size + 1 + 1, 5, none⟩ = some (.int .i64 (f 5 : Nat)) ∧ w.heap.size + 1 + 1 < w'.heap.size)
        (.take 0 (.take 1 (.take 2 (.take 3 (.take 4 (.take 5 (.take 6 (.take 7 (.take 8 (.take 9 (.take 10 (.take 11 (.take 12 (.take 15 (.two 13 (.take 14 (.two 16 (.take 17 (.take 18 (.take 19 (.one 20 (.one 21 .nil))))) 20 (.one 16 (.take 17 (.take 18 (.take 19 (.one 21 .nil))))))) 20 (.one 13 (.take 14 (.one 16 (.take 17 (.take 18 (.take 19 (.one 21 .nil))))))))))))))))))))))
        (by kernel_rfl) (by kernel_rfl) (by kernel_rfl) (fun _ _ _ dst _ h => by cases dst <;> exact h) ⟨a0, a1, a2, a3, a4, a5, hwr⟩ (fun hH => ?_)
      (repeat (refine tree_take (v := ?_) (by (simp only [List.getElem?_toArray, List.getElem?_cons_succ, List.getElem?_cons_zero]; exact rfl)) (by rfl) ?_ ?_; rotate_left; (focus (intro wS hS; (try dsimp only at hS); go_split_ands; go_simp; (try with_reducible rfl))); simp only [Act.put, List.setIfInBounds_toArray, List.set_cons_zero, List.set_cons_succ]))
      have st0 : FtSt w f (s.extract (s.size - 12 + 2 * 0) s.size) wr.drew := ⟨hr, hB0, hZr, hb.drew⟩
      clear hr hZr hb hH hB0
      clear a0 a1 a2 a3 a4 a5
      refine tree_two (by (simp only [List.getElem?_toArray, List.getElem?_cons_succ, List.getElem?_cons_zero]; exact rfl)) (by rfl) (by (simp only [List.getElem?_toArray, List.getElem?_cons_succ, List.getElem?_cons_zero]; exact rfl)) (by rfl) ?_ ?_
      · intro K hK
        go_simp
        refine (H0.out _ _ st0.rd).mono ?_
        rintro e w2 ⟨rfl, hr2, ho2⟩
        have st1 := st0.only hr2 ho2
        clear hr2 ho2
        refine hK.out _ _ st1.S (fun hH => ?_)
        clear hK K hH
        (try simp only [Act.put, List.setIfInBounds_toArray, List.set_cons_zero, List.set_cons_succ])
        (repeat (refine tree_take (v := ?_) (by (simp only [List.getElem?_toArray, List.getElem?_cons_succ, List.getElem?_cons_zero]; exact rfl)) (by rfl) ?_ ?_; rotate_left; (focus (intro wS hS; (try dsimp only at hS); go_split_ands; go_simp; (try with_reducible rfl))); simp only [Act.put, List.setIfInBounds_toArray, List.set_cons_zero, List.set_cons_succ]))
        refine tree_two (by (simp only [List.getElem?_toArray, List.getElem?_cons_succ, List.getElem?_cons_zero]; exact rfl)) (by rfl) (by (simp only [List.getElem?_toArray, List.getElem?_cons_succ, List.getElem?_cons_zero]; exact rfl)) (by rfl) ?_ ?_
        · intro K hK
          go_simp
          refine (H1.out _ _ st1.rd).mono ?_
          rintro e w3 ⟨rfl, hr2, ho2⟩
          have st2 := st1.only hr2 ho2
          clear hr2 ho2
          refine hK.out _ _ st2.S (fun hH => ?_)
          clear hK K hH
          (try simp only [Act.put, List.setIfInBounds_toArray, List.set_cons_zero, List.set_cons_succ])
          (repeat (refine tree_take (v := ?_) (by (simp only [List.getElem?_toArray, List.getElem?_cons_succ, List.getElem?_cons_zero]; exact rfl)) (by rfl) ?_ ?_; rotate_left; (focus (intro wS hS; (try dsimp only at hS); go_split_ands; go_simp; (try with_reducible rfl))); simp only [Act.put, List.setIfInBounds_toArray, List.set_cons_zero, List.set_cons_succ]))
          (refine tree_one (by (simp only [List.getElem?_toArray, List.getElem?_cons_succ, List.getElem?_cons_zero]; exact rfl)) (by rfl) ?_; intro K hK; go_simp)
          have st4 := st2.alloc (.cells #[.int .i64 0, .int .i64 0, .int .i64 0, .int .i64 0, .int .i64 0, .int .i64 0, .int .i64 0, .int .i64 0] 147)
          have hq4 := Blk.new w3 #[.int .i64 0, .int .i64 0, .int .i64 0, .int .i64 0, .int .i64 0, .int .i64 0, .int .i64 0, .int .i64 0] 147
          have hqn := st2.arr.lt
          obtain ⟨q, hqd⟩ : ∃ q, w3.heap.size = q := ⟨_, rfl⟩
          rw [hqd] at hq4 hqn ⊢
          refine hK.out _ _ st4.S (fun hH => ?_)
          clear hK K
          (try simp only [Act.put, List.setIfInBounds_toArray, List.set_cons_zero, List.set_cons_succ])
          (repeat (refine tree_take (v := ?_) (by (simp only [List.getElem?_toArray, List.getElem?_cons_succ, List.getElem?_cons_zero]; exact rfl)) (by rfl) ?_ ?_; rotate_left; (focus (intro wS hS; (try dsimp only at hS); go_split_ands; go_simp; (try with_reducible rfl))); simp only [Act.put, List.setIfInBounds_toArray, List.set_cons_zero, List.set_cons_succ]))
          have ql := hq4.lt
          have qf := hq4.frozen
          obtain ⟨z0, z1, z2, z3, z4, z5, z6, z7⟩ := cell8 hq4
          (refine tree_one (by (simp only [List.getElem?_toArray, List.getElem?_cons_succ, List.getElem?_cons_zero]; exact rfl)) (by rfl) ?_; intro K hK; go_simp)
          have st5 := st2.alloc (.cells #[.int .i64 (f 0 : Nat), .int .i64 (f 1 : Nat), .int .i64 (f 2 : Nat), .int .i64 (f 3 : Nat), .int .i64 (f 4 : Nat), .int .i64 (f 5 : Nat), .int .i64 (R : Nat), .int .i64 (T : Nat)] 147)
          have hq5 := Blk.new w3 #[.int .i64 (f 0 : Nat), .int .i64 (f 1 : Nat), .int .i64 (f 2 : Nat), .int .i64 (f 3 : Nat), .int .i64 (f 4 : Nat), .int .i64 (f 5 : Nat), .int .i64 (R : Nat), .int .i64 (T : Nat)] 147
          rw [hqd] at hq5
          refine hK.out _ _ st5.S (fun hH => ?_)
          clear hK K
          (try simp only [Act.put, List.setIfInBounds_toArray, List.set_cons_zero, List.set_cons_succ])
          refine tree_nil ?_
          generalize hW5 : World.alloc _ _ = W5 at st5 hq5 ⊢
          clear hW5 hq4 st4 hH z0 z1 z2 z3 z4 z5 z6 z7 ql qf
          obtain ⟨y0, y1, y2, y3, y4, y5, y6, y7⟩ := cell8 hq5
          have yl := hq5.lt
          have rl := st5.res.lt
          have rf := st5.res.frozen
          obtain ⟨v0, v1, v2, v3, v4, v5, v6, v7⟩ := cell8 st5.res
          have HST := Lib.hid st5
          clear st5 hq5
          have e01 : IntKind.i64.wrap ((f 0 : Int) + (f 1 : Int)) = (f 0 : Int) + (f 1 : Int) := IntWalk.i64_in _ (by omega)
          have e23 : IntKind.i64.wrap ((f 2 : Int) + (f 3 : Int)) = (f 2 : Int) + (f 3 : Int) := IntWalk.i64_in _ (by omega)
          by_cases q1 : f 0 + f 1 = f 2
          · have b1 : ((f 0 : Int) + (f 1 : Int) == (f 2 : Int)) = true := by simp; omega
            by_cases q2 : f 2 + f 3 = z
            · have b2 : ((f 2 : Int) + (f 3 : Int) == (z : Int)) = true := by simp; omega
              have HO2 := Lib.hid (show footOk s = true by rw [HO.out]; simp [q1, q2])
              clear q1 q2
              go_wp2_with fail
              refine bodyPost_ret (v := .tuple #[FootN.val ⟨f 0, f 1, f 2, f 3, f 4, f 5, R, T⟩, .bool true]) ?_ rfl ⟨by rw [HF.out, HO2.out], below8 HST.out.below (Nat.le_refl _) _ _ _ _ _ _ _ _⟩
              obtain ⟨r0, r1, r2, r3, r4, r5, r6, r7⟩ := cell8 (set8 HST.out.res (.int .i64 (f 0 : Nat)) (.int .i64 (f 1 : Nat)) (.int .i64 (f 2 : Nat)) (.int .i64 (f 3 : Nat)) (.int .i64 (f 4 : Nat)) (.int .i64 (f 5 : Nat)) (.int .i64 (R : Nat)) (.int .i64 (T : Nat)))
              simp [results, Try.results117, go_sem, FootN.val, r0, r1, r2, r3, r4, r5, r6, r7]
            · have b2 : ((f 2 : Int) + (f 3 : Int) == (z : Int)) = false := by simp; omega
              have HO2 := Lib.hid (show footOk s = false by rw [HO.out]; simp [q1, q2])
              clear q1 q2
              go_wp2_with fail
              refine bodyPost_ret (v := .tuple #[FootN.val ⟨f 0, f 1, f 2, f 3, f 4, f 5, R, T⟩, .bool false]) ?_ rfl ⟨by rw [HF.out, HO2.out], below8 HST.out.below (Nat.le_refl _) _ _ _ _ _ _ _ _⟩
              obtain ⟨r0, r1, r2, r3, r4, r5, r6, r7⟩ := cell8 (set8 HST.out.res (.int .i64 (f 0 : Nat)) (.int .i64 (f 1 : Nat)) (.int .i64 (f 2 : Nat)) (.int .i64 (f 3 : Nat)) (.int .i64 (f 4 : Nat)) (.int .i64 (f 5 : Nat)) (.int .i64 (R : Nat)) (.int .i64 (T : Nat)))
              simp [results, Try.results117, go_sem, FootN.val, r0, r1, r2, r3, r4, r5, r6, r7]
          · have b1 : ((f 0 : Int) + (f 1 : Int) == (f 2 : Int)) = false := by simp; omega
            have HO2 := Lib.hid (show footOk s = false by rw [HO.out]; simp [q1])
            clear q1
            go_wp2_with fail
            refine bodyPost_ret (v := .tuple #[FootN.val ⟨f 0, f 1, f 2, f 3, f 4, f 5, R, T⟩, .bool false]) ?_ rfl ⟨by rw [HF.out, HO2.out], below8 HST.out.below (Nat.le_refl _) _ _ _ _ _ _ _ _⟩
            obtain ⟨r0, r1, r2, r3, r4, r5, r6, r7⟩ := cell8 (set8 HST.out.res (.int .i64 (f 0 : Nat)) (.int .i64 (f 1 : Nat)) (.int .i64 (f 2 : Nat)) (.int .i64 (f 3 : Nat)) (.int .i64 (f 4 : Nat)) (.int .i64 (f 5 : Nat)) (.int .i64 (R : Nat)) (.int .i64 (T : Nat)))
            simp [results, Try.results117, go_sem, FootN.val, r0, r1, r2, r3, r4, r5, r6, r7]
        · intro K hK
          go_simp
          have st2 := st1.alloc (.cells #[.int .i64 0, .int .i64 0, .int .i64 0, .int .i64 0, .int .i64 0, .int .i64 0, .int .i64 0, .int .i64 0] 147)
          have hq2 := Blk.new w2 #[.int .i64 0, .int .i64 0, .int .i64 0, .int .i64 0, .int .i64 0, .int .i64 0, .int .i64 0, .int .i64 0] 147
          have hqn := st1.arr.lt
          obtain ⟨q, hqd⟩ : ∃ q, w2.heap.size = q := ⟨_, rfl⟩
          rw [hqd] at hq2 hqn ⊢
          refine hK.out _ _ st2.S (fun hH => ?_)
          clear hK K
          (try simp only [Act.put, List.setIfInBounds_toArray, List.set_cons_zero, List.set_cons_succ])
          (repeat (refine tree_take (v := ?_) (by (simp only [List.getElem?_toArray, List.getElem?_cons_succ, List.getElem?_cons_zero]; exact rfl)) (by rfl) ?_ ?_; rotate_left; (focus (intro wS hS; (try dsimp only at hS); go_split_ands; go_simp; (try with_reducible rfl))); simp only [Act.put, List.setIfInBounds_toArray, List.set_cons_zero, List.set_cons_succ]))
          (refine tree_one (by (simp only [List.getElem?_toArray, List.getElem?_cons_succ, List.getElem?_cons_zero]; exact rfl)) (by rfl) ?_; intro K hK; go_simp)
          refine (H1.out _ _ st2.rd).mono ?_
          rintro e w3 ⟨rfl, hr2, ho2⟩
          have st4 := st2.only hr2 ho2
          have hq4 := hq2.only ho2 (by omega)
          clear hr2 ho2 hq2 hH
          refine hK.out _ _ st4.S (fun hH => ?_)
          clear hK K
          (try simp only [Act.put, List.setIfInBounds_toArray, List.set_cons_zero, List.set_cons_succ])
          (repeat (refine tree_take (v := ?_) (by (simp only [List.getElem?_toArray, List.getElem?_cons_succ, List.getElem?_cons_zero]; exact rfl)) (by rfl) ?_ ?_; rotate_left; (focus (intro wS hS; (try dsimp only at hS); go_split_ands; go_simp; (try with_reducible rfl))); simp only [Act.put, List.setIfInBounds_toArray, List.set_cons_zero, List.set_cons_succ]))
          have ql := hq4.lt
          have qf := hq4.frozen
          obtain ⟨z0, z1, z2, z3, z4, z5, z6, z7⟩ := cell8 hq4
          (refine tree_one (by (simp only [List.getElem?_toArray, List.getElem?_cons_succ, List.getElem?_cons_zero]; exact rfl)) (by rfl) ?_; intro K hK; go_simp)
          have st5 := st4.set hqn (.int .i64 (f 0 : Nat)) (.int .i64 (f 1 : Nat)) (.int .i64 (f 2 : Nat)) (.int .i64 (f 3 : Nat)) (.int .i64 (f 4 : Nat)) (.int .i64 (f 5 : Nat)) (.int .i64 (R : Nat)) (.int .i64 (T : Nat))
          have hq5 := set8 hq4 (.int .i64 (f 0 : Nat)) (.int .i64 (f 1 : Nat)) (.int .i64 (f 2 : Nat)) (.int .i64 (f 3 : Nat)) (.int .i64 (f 4 : Nat)) (.int .i64 (f 5 : Nat)) (.int .i64 (R : Nat)) (.int .i64 (T : Nat))
          refine hK.out _ _ st5.S (fun hH => ?_)
          clear hK K
          (try simp only [Act.put, List.setIfInBounds_toArray, List.set_cons_zero, List.set_cons_succ])
          refine tree_nil ?_
          generalize hW5 : World.setCell _ _ _ = W5 at st5 hq5 ⊢
          clear hW5 hq4 st4 hH z0 z1 z2 z3 z4 z5 z6 z7 ql qf
          obtain ⟨y0, y1, y2, y3, y4, y5, y6, y7⟩ := cell8 hq5
          have yl := hq5.lt
          have rl := st5.res.lt
          have rf := st5.res.frozen
          obtain ⟨v0, v1, v2, v3, v4, v5, v6, v7⟩ := cell8 st5.res
          have HST := Lib.hid st5
          clear st5 hq5
          have e01 : IntKind.i64.wrap ((f 0 : Int) + (f 1 : Int)) = (f 0 : Int) + (f 1 : Int) := IntWalk.i64_in _ (by omega)
          have e23 : IntKind.i64.wrap ((f 2 : Int) + (f 3 : Int)) = (f 2 : Int) + (f 3 : Int) := IntWalk.i64_in _ (by omega)
          by_cases q1 : f 0 + f 1 = f 2
          · have b1 : ((f 0 : Int) + (f 1 : Int) == (f 2 : Int)) = true := by simp; omega
            by_cases q2 : f 2 + f 3 = z
            · have b2 : ((f 2 : Int) + (f 3 : Int) == (z : Int)) = true := by simp; omega
              have HO2 := Lib.hid (show footOk s = true by rw [HO.out]; simp [q1, q2])
              clear q1 q2
              go_wp2_with fail
              refine bodyPost_ret (v := .tuple #[FootN.val ⟨f 0, f 1, f 2, f 3, f 4, f 5, R, T⟩, .bool true]) ?_ rfl ⟨by rw [HF.out, HO2.out], below8 HST.out.below (Nat.le_refl _) _ _ _ _ _ _ _ _⟩
              obtain ⟨r0, r1, r2, r3, r4, r5, r6, r7⟩ := cell8 (set8 HST.out.res (.int .i64 (f 0 : Nat)) (.int .i64 (f 1 : Nat)) (.int .i64 (f 2 : Nat)) (.int .i64 (f 3 : Nat)) (.int .i64 (f 4 : Nat)) (.int .i64 (f 5 : Nat)) (.int .i64 (R : Nat)) (.int .i64 (T : Nat)))
              simp [results, Try.results117, go_sem, FootN.val, r0, r1, r2, r3, r4, r5, r6, r7]
            · have b2 : ((f 2 : Int) + (f 3 : Int) == (z : Int)) = false := by simp; omega
              have HO2 := Lib.hid (show footOk s = false by rw [HO.out]; simp [q1, q2])
              clear q1 q2
              go_wp2_with fail
              refine bodyPost_ret (v := .tuple #[FootN.val ⟨f 0, f 1, f 2, f 3, f 4, f 5, R, T⟩, .bool false]) ?_ rfl ⟨by rw [HF.out, HO2.out], below8 HST.out.below (Nat.le_refl _) _ _ _ _ _ _ _ _⟩
              obtain ⟨r0, r1, r2, r3, r4, r5, r6, r7⟩ := cell8 (set8 HST.out.res (.int .i64 (f 0 : Nat)) (.int .i64 (f 1 : Nat)) (.int .i64 (f 2 : Nat)) (.int .i64 (f 3 : Nat)) (.int .i64 (f 4 : Nat)) (.int .i64 (f 5 : Nat)) (.int .i64 (R : Nat)) (.int .i64 (T : Nat)))
              simp [results, Try.results117, go_sem, FootN.val, r0, r1, r2, r3, r4, r5, r6, r7]
          · have b1 : ((f 0 : Int) + (f 1 : Int) == (f 2 : Int)) = false := by simp; omega
            have HO2 := Lib.hid (show footOk s = false by rw [HO.out]; simp [q1])
            clear q1
            go_wp2_with fail
            refine bodyPost_ret (v := .tuple #[FootN.val ⟨f 0, f 1, f 2, f 3, f 4, f 5, R, T⟩, .bool false]) ?_ rfl ⟨by rw [HF.out, HO2.out], below8 HST.out.below (Nat.le_refl _) _ _ _ _ _ _ _ _⟩
            obtain ⟨r0, r1, r2, r3, r4, r5, r6, r7⟩ := cell8 (set8 HST.out.res (.int .i64 (f 0 : Nat)) (.int .i64 (f 1 : Nat)) (.int .i64 (f 2 : Nat)) (.int .i64 (f 3 : Nat)) (.int .i64 (f 4 : Nat)) (.int .i64 (f 5 : Nat)) (.int .i64 (R : Nat)) (.int .i64 (T : Nat)))
            simp [results, Try.results117, go_sem, FootN.val, r0, r1, r2, r3, r4, r5, r6, r7]
      · intro K hK
        go_simp
        have st1 := st0.alloc (.cells #[.int .i64 0, .int .i64 0, .int .i64 0, .int .i64 0, .int .i64 0, .int .i64 0, .int .i64 0, .int .i64 0] 147)
        have hq1 := Blk.new wr.drew #[.int .i64 0, .int .i64 0, .int .i64 0, .int .i64 0, .int .i64 0, .int .i64 0, .int .i64 0, .int .i64 0] 147
        have hqn := st0.arr.lt
        obtain ⟨q, hqd⟩ : ∃ q, wr.heap.size = q := ⟨_, rfl⟩
        rw [sD, hqd] at hq1
        rw [sD, hqd] at hqn
        rw [hqd]
        refine hK.out _ _ st1.S (fun hH => ?_)
        clear hK K
        (try simp only [Act.put, List.setIfInBounds_toArray, List.set_cons_zero, List.set_cons_succ])
        (repeat (refine tree_take (v := ?_) (by (simp only [List.getElem?_toArray, List.getElem?_cons_succ, List.getElem?_cons_zero]; exact rfl)) (by rfl) ?_ ?_; rotate_left; (focus (intro wS hS; (try dsimp only at hS); go_split_ands; go_simp; (try with_reducible rfl))); simp only [Act.put, List.setIfInBounds_toArray, List.set_cons_zero, List.set_cons_succ]))
        (refine tree_one (by (simp only [List.getElem?_toArray, List.getElem?_cons_succ, List.getElem?_cons_zero]; exact rfl)) (by rfl) ?_; intro K hK; go_simp)
        refine (H0.out _ _ st1.rd).mono ?_
        rintro e w2 ⟨rfl, hr2, ho2⟩
        have st2 := st1.only hr2 ho2
        have hq2 := hq1.only ho2 (by omega)
        clear hr2 ho2 hq1 hH
        refine hK.out _ _ st2.S (fun hH => ?_)
        clear hK K
        (try simp only [Act.put, List.setIfInBounds_toArray, List.set_cons_zero, List.set_cons_succ])
        (repeat (refine tree_take (v := ?_) (by (simp only [List.getElem?_toArray, List.getElem?_cons_succ, List.getElem?_cons_zero]; exact rfl)) (by rfl) ?_ ?_; rotate_left; (focus (intro wS hS; (try dsimp only at hS); go_split_ands; go_simp; (try with_reducible rfl))); simp only [Act.put, List.setIfInBounds_toArray, List.set_cons_zero, List.set_cons_succ]))
        (refine tree_one (by (simp only [List.getElem?_toArray, List.getElem?_cons_succ, List.getElem?_cons_zero]; exact rfl)) (by rfl) ?_; intro K hK; go_simp)
        refine (H1.out _ _ st2.rd).mono ?_
        rintro e w3 ⟨rfl, hr2, ho2⟩
        have st4 := st2.only hr2 ho2
        have hq4 := hq2.only ho2 (by omega)
        clear hr2 ho2 hq2 hH
        refine hK.out _ _ st4.S (fun hH => ?_)
        clear hK K
        (try simp only [Act.put, List.setIfInBounds_toArray, List.set_cons_zero, List.set_cons_succ])
        (repeat (refine tree_take (v := ?_) (by (simp only [List.getElem?_toArray, List.getElem?_cons_succ, List.getElem?_cons_zero]; exact rfl)) (by rfl) ?_ ?_; rotate_left; (focus (intro wS hS; (try dsimp only at hS); go_split_ands; go_simp; (try with_reducible rfl))); simp only [Act.put, List.setIfInBounds_toArray, List.set_cons_zero, List.set_cons_succ]))
        have ql := hq4.lt
        have qf := hq4.frozen
        obtain ⟨z0, z1, z2, z3, z4, z5, z6, z7⟩ := cell8 hq4
        (refine tree_one (by (simp only [List.getElem?_toArray, List.getElem?_cons_succ, List.getElem?_cons_zero]; exact rfl)) (by rfl) ?_; intro K hK; go_simp)
        have st5 := st4.set hqn (.int .i64 (f 0 : Nat)) (.int .i64 (f 1 : Nat)) (.int .i64 (f 2 : Nat)) (.int .i64 (f 3 : Nat)) (.int .i64 (f 4 : Nat)) (.int .i64 (f 5 : Nat)) (.int .i64 (R : Nat)) (.int .i64 (T : Nat))
        have hq5 := set8 hq4 (.int .i64 (f 0 : Nat)) (.int .i64 (f 1 : Nat)) (.int .i64 (f 2 : Nat)) (.int .i64 (f 3 : Nat)) (.int .i64 (f 4 : Nat)) (.int .i64 (f 5 : Nat)) (.int .i64 (R : Nat)) (.int .i64 (T : Nat))
        refine hK.out _ _ st5.S (fun hH => ?_)
        clear hK K
        (try simp only [Act.put, List.setIfInBounds_toArray, List.set_cons_zero, List.set_cons_succ])
        refine tree_nil ?_
        generalize hW5 : World.setCell _ _ _ = W5 at st5 hq5 ⊢
        clear hW5 hq4 st4 hH z0 z1 z2 z3 z4 z5 z6 z7 ql qf
        obtain ⟨y0, y1, y2, y3, y4, y5, y6, y7⟩ := cell8 hq5
        have yl := hq5.lt
        have rl := st5.res.lt
        have rf := st5.res.frozen
        obtain ⟨v0, v1, v2, v3, v4, v5, v6, v7⟩ := cell8 st5.res
        have HST := Lib.hid st5
        clear st5 hq5
        have e01 : IntKind.i64.wrap ((f 0 : Int) + (f 1 : Int)) = (f 0 : Int) + (f 1 : Int) := IntWalk.i64_in _ (by omega)
        have e23 : IntKind.i64.wrap ((f 2 : Int) + (f 3 : Int)) = (f 2 : Int) + (f 3 : Int) := IntWalk.i64_in _ (by omega)
        by_cases q1 : f 0 + f 1 = f 2
        · have b1 : ((f 0 : Int) + (f 1 : Int) == (f 2 : Int)) = true := by simp; omega
          by_cases q2 : f 2 + f 3 = z
          · have b2 : ((f 2 : Int) + (f 3 : Int) == (z : Int)) = true := by simp; omega
            have HO2 := Lib.hid (show footOk s = true by rw [HO.out]; simp [q1, q2])
            clear q1 q2
            go_wp2_with fail
            refine bodyPost_ret (v := .tuple #[FootN.val ⟨f 0, f 1, f 2, f 3, f 4, f 5, R, T⟩, .bool true]) ?_ rfl ⟨by rw [HF.out, HO2.out], below8 HST.out.below (Nat.le_refl _) _ _ _ _ _ _ _ _⟩
            obtain ⟨r0, r1, r2, r3, r4, r5, r6, r7⟩ := cell8 (set8 HST.out.res (.int .i64 (f 0 : Nat)) (.int .i64 (f 1 : Nat)) (.int .i64 (f 2 : Nat)) (.int .i64 (f 3 : Nat)) (.int .i64 (f 4 : Nat)) (.int .i64 (f 5 : Nat)) (.int .i64 (R : Nat)) (.int .i64 (T : Nat)))
            simp [results, Try.results117, go_sem, FootN.val, r0, r1, r2, r3, r4, r5, r6, r7]
          · have b2 : ((f 2 : Int) + (f 3 : Int) == (z : Int)) = false := by simp; omega
            have HO2 := Lib.hid (show footOk s = false by rw [HO.out]; simp [q1, q2])
            clear q1 q2
            go_wp2_with fail
            refine bodyPost_ret (v := .tuple #[FootN.val ⟨f 0, f 1, f 2, f 3, f 4, f 5, R, T⟩, .bool false]) ?_ rfl ⟨by rw [HF.out, HO2.out], below8 HST.out.below (Nat.le_refl _) _ _ _ _ _ _ _ _⟩
            obtain ⟨r0, r1, r2, r3, r4, r5, r6, r7⟩ := cell8 (set8 HST.out.res (.int .i64 (f 0 : Nat)) (.int .i64 (f 1 : Nat)) (.int .i64 (f 2 : Nat)) (.int .i64 (f 3 : Nat)) (.int .i64 (f 4 : Nat)) (.int .i64 (f 5 : Nat)) (.int .i64 (R : Nat)) (.int .i64 (T : Nat)))
            simp [results, Try.results117, go_sem, FootN.val, r0, r1, r2, r3, r4, r5, r6, r7]
        · have b1 : ((f 0 : Int) + (f 1 : Int) == (f 2 : Int)) = false := by simp; omega
          have HO2 := Lib.hid (show footOk s = false by rw [HO.out]; simp [q1])
          clear q1
          go_wp2_with fail
          refine bodyPost_ret (v := .tuple #[FootN.val ⟨f 0, f 1, f 2, f 3, f 4, f 5, R, T⟩, .bool false]) ?_ rfl ⟨by rw [HF.out, HO2.out], below8 HST.out.below (Nat.le_refl _) _ _ _ _ _ _ _ _⟩
          obtain ⟨r0, r1, r2, r3, r4, r5, r6, r7⟩ := cell8 (set8 HST.out.res (.int .i64 (f 0 : Nat)) (.int .i64 (f 1 : Nat)) (.int .i64 (f 2 : Nat)) (.int .i64 (f 3 : Nat)) (.int .i64 (f 4 : Nat)) (.int .i64 (f 5 : Nat)) (.int .i64 (R : Nat)) (.int .i64 (T : Nat)))
          simp [results, Try.results117, go_sem, FootN.val, r0, r1, r2, r3, r4, r5, r6, r7]
end Go.Proofs.Ytbcaiegglbdonaa

/-
  slices.BinarySearchFunc over a block's cells: how many cells stand ahead of a place.
-/
namespace Go.Proofs.Ytbcaiegglbdonaa
open Go Go.RowKit
set_option linter.unusedSimpArgs false

def posN (l : List Cell) (k : ByteArray) (s : Int) : Nat := (l.takeWhile fun c => decide (PLt c.key c.seq k s)).length
theorem posN_le (l : List Cell) (k : ByteArray) (s : Int) : posN l k s ≤ l.length := (List.takeWhile_sublist _).length_le
theorem posN_eq : ∀ (l : List Cell) (k : ByteArray) (s : Int) (i : Nat), i ≤ l.length → (∀ j x, j < i → l[j]? = some x → PLt x.key x.seq k s) → (∀ x, l[i]? = some x → ¬ PLt x.key x.seq k s) → posN l k s = i
  | [], k, s, i, hi, _, _ => by simp at hi; subst hi; rfl
  | c :: l, k, s, 0, hi, h1, h2 => by
    unfold posN
    rw [List.takeWhile_cons, if_neg (by simpa using h2 c rfl)]
    rfl
  | c :: l, k, s, i + 1, hi, h1, h2 => by
    unfold posN
    rw [List.takeWhile_cons, if_pos (by simpa using h1 0 c (by omega) rfl)]
    have := posN_eq l k s i (by simpa using hi) (fun j x hj hx => h1 (j + 1) x (by omega) (by simpa using hx)) (fun x hx => h2 x (by simpa using hx))
    unfold posN at this
    rw [List.length_cons, this]
theorem adjC_lt {l : List Cell} (h : adjC l = true) : ∀ (d i : Nat) (x y : Cell), l[i]? = some x → l[i + d + 1]? = some y → PLt x.key x.seq y.key y.seq
  | 0, i, x, y, hx, hy => (adjC_iff l).1 h i x y hx hy
  | d + 1, i, x, y, hx, hy => by
    have hlt := (List.getElem?_eq_some_iff.1 hy).1
    obtain ⟨z, hz⟩ : ∃ z, l[i + d + 1]? = some z := ⟨_, List.getElem?_eq_getElem (by omega)⟩
    exact (adjC_lt h d i x z hx hz).trans ((adjC_iff l).1 h (i + d + 1) z y hz (by rw [show i + d + 1 + 1 = i + (d + 1) + 1 by omega]; exact hy))
theorem adjC_down {l : List Cell} (h : adjC l = true) {i j : Nat} {x y : Cell} {k : ByteArray} {s : Int} (hij : i ≤ j) (hx : l[i]? = some x) (hy : l[j]? = some y) (hp : PLt y.key y.seq k s) : PLt x.key x.seq k s := by
  by_cases he : i = j
  · subst he; rw [hx] at hy; cases hy; exact hp
  · exact (adjC_lt h (j - i - 1) i x y hx (by rw [show i + (j - i - 1) + 1 = j by omega]; exact hy)).trans hp
def SrRel (w : World) (l : List Cell) (k : ByteArray) (s : Int) (a b : Value) (W : World) : Prop :=
  ∃ lo hi : Nat, a = .int .i64 lo ∧ b = .int .i64 hi ∧ lo ≤ hi ∧ hi ≤ l.length ∧ (∀ j x, j < lo → l[j]? = some x → PLt x.key x.seq k s) ∧ (∀ j x, hi ≤ j → l[j]? = some x → ¬ PLt x.key x.seq k s) ∧ Below w.heap.size w W ∧ Blk W w.heap.size #[.string k, .int .u64 s, .string ⟨#[]⟩, .bool false] 25
set_option maxRecDepth 100000 in
set_option maxHeartbeats 4000000 in
theorem search_cells {w : World} {v : Value} {l : List Cell} (h : Reads w v l.length 4 (cellVals l)) (hl : l.length ≤ 65536) (hso : adjC l = true) (k : ByteArray) (s : Int) :
    Calls Try.prog 139 #[v, .agg #[.string k, .int .u64 s, .string ⟨#[]⟩, .bool false], .func (.func 97) #[] #[]] w fun e w' => (∃ b, e = .returned (.tuple #[.int .i64 (posN l k s : Nat), .bool b])) ∧ Below w.heap.size w w' := by
  obtain ⟨A, cap, rfl⟩ := h.form
  have H := Lib.hid h
  have HS := Lib.hid hso
  clear h hso
  go_enter Try.func139, Try.ntmps139
  go_wp2_with fail
  go_loopw [9, 10] (SrRel w l k s) (fun a b _ => (intOf b).toNat - (intOf a).toNat)
  case atStart => exact ⟨0, l.length, rfl, rfl, Nat.zero_le _, Nat.le_refl _, fun j _ hj => by omega, fun j x hj hx => by have := (List.getElem?_eq_some_iff.1 hx).1; omega, (Below.refl _ _).alloc (Nat.le_refl _) _, Blk.new _ _ _⟩
  case round =>
    obtain ⟨lo, hi, rfl, rfl, h3, h4, h5, h6, hb, hZ⟩ := hrel
    obtain ⟨z0, z1, z2, z3⟩ := cell4 hZ
    have HK := Lib.hid (And.intro h5 h6)
    clear h5 h6
    by_cases hlt : lo < hi
    · obtain ⟨m, hm⟩ : ∃ m, (lo + hi) / 2 = m := ⟨_, rfl⟩
      have hmI : ((lo : Int) + (hi : Int)) / 2 = (m : Int) := by omega
      have hm1 : lo ≤ m := by omega
      have hm2 : m < hi := by omega
      clear hm
      obtain ⟨x, hx⟩ : ∃ x, l[m]? = some x := ⟨_, List.getElem?_eq_getElem (by omega)⟩
      obtain ⟨b, o, rfl, hbl, c0, c1, c2, c3⟩ := (H.out.kept hb).cell_at hx
      have HX := Lib.hid hx
      clear hx
      have j0 : (0 : Int) ≤ (m : Int) := by omega
      have j1 : (m : Int) < (l.length : Int) := by omega
      have j2 : (lo : Int) < (hi : Int) := by omega
      by_cases hP : PLt x.key x.seq k s
      · --LT
        have HP := Lib.hid hP
        have hq : (cellCmp x.key x.seq k s < 0) = True := by rw [cellCmp_lt hP]; simp
        clear hP
        go_wp2_with fail
        refine region_plan (S := fun w' => w'.cell? ⟨w.heap.size, 0, none⟩ = some (.string k) ∧ w'.cell? ⟨w.heap.size, 1, none⟩ = some (.int .u64 s) ∧ w'.cell? ⟨w.heap.size, 2, none⟩ = some (.string ⟨#[]⟩) ∧ w'.cell? ⟨w.heap.size, 3, none⟩ = some (.bool false) ∧ w'.cell? ⟨b, o + m * 4, none⟩ = some (.string x.key) ∧ w'.cell? ⟨b, o + m * 4 + 1, none⟩ = some (.int .u64 x.seq) ∧ w'.cell? ⟨b, o + m * 4 + 2, none⟩ = some (.string x.val) ∧ w'.cell? ⟨b, o + m * 4 + 3, none⟩ = some (.bool x.gone))
          ((0, true) :: (1, true) :: (2, true) :: (3, true) :: (4, true) :: (5, true) :: (6, false) :: (7, true) :: [])
          (by kernel_rfl) (by kernel_rfl) (by kernel_rfl) (by kernel_rfl) (fun _ _ _ dst _ h => by cases dst <;> exact h) ⟨z0, z1, z2, z3, c0, c1, c2, c3⟩ (fun hH => ?_)
        (repeat (first | (refine plan_take (v := ?_) (by (simp only [List.getElem?_toArray, List.getElem?_cons_succ, List.getElem?_cons_zero]; exact rfl)) (by rfl) ?_ ?_; rotate_left; (focus (intro wS hS; (try dsimp only at hS); go_split_ands; go_simp; (try with_reducible rfl))); simp only [Act.put, List.setIfInBounds_toArray, List.set_cons_zero, List.set_cons_succ]) | (refine plan_skip (by (simp only [List.getElem?_toArray, List.getElem?_cons_succ, List.getElem?_cons_zero]; exact rfl)) (by rfl) ?_; simp only [Act.put, List.setIfInBounds_toArray, List.set_cons_zero, List.set_cons_succ])))
        (refine plan_solo (by (simp only [List.getElem?_toArray, List.getElem?_cons_succ, List.getElem?_cons_zero]; exact rfl)) (by rfl) ?_; intro K hK; go_simp)
        refine (block_compare x ⟨k, s, ⟨#[]⟩, false⟩ _).mono ?_
        rintro e w5 ⟨rfl, hb5⟩
        refine hK.out _ _ ⟨cell_keep hb5 z0, cell_keep hb5 z1, cell_keep hb5 z2, cell_keep hb5 z3, cell_keep hb5 c0, cell_keep hb5 c1, cell_keep hb5 c2, cell_keep hb5 c3⟩ (fun hH => ?_)
        clear hK K
        try simp only [Act.put, List.setIfInBounds_toArray, List.set_cons_zero, List.set_cons_succ]
        (repeat (first | (refine plan_take (v := ?_) (by (simp only [List.getElem?_toArray, List.getElem?_cons_succ, List.getElem?_cons_zero]; exact rfl)) (by rfl) ?_ ?_; rotate_left; (focus (intro wS hS; (try dsimp only at hS); go_split_ands; go_simp; (try with_reducible rfl))); simp only [Act.put, List.setIfInBounds_toArray, List.set_cons_zero, List.set_cons_succ]) | (refine plan_skip (by (simp only [List.getElem?_toArray, List.getElem?_cons_succ, List.getElem?_cons_zero]; exact rfl)) (by rfl) ?_; simp only [Act.put, List.setIfInBounds_toArray, List.set_cons_zero, List.set_cons_succ])))
        refine plan_nil ?_
        have b6 := hb.drew.trans (hb5.mono (by exact hb.size))
        have hZ2 := hZ.drew.kept hb5
        go_wp2_with fail
        go_roundw
        case rel => exact ⟨m + 1, hi, by go_num, rfl, by omega, h4, fun j y hj hy => adjC_down HS.out (by omega) hy HX.out HP.out, HK.out.2, b6, hZ2⟩
        case measure => simp [intOf]; omega
      · --GE
        have HP := Lib.hid hP
        have hq : (cellCmp x.key x.seq k s < 0) = False := by have := ge_of_not hP; simp; omega
        clear hP
        go_wp2_with fail
        refine region_plan (S := fun w' => w'.cell? ⟨w.heap.size, 0, none⟩ = some (.string k) ∧ w'.cell? ⟨w.heap.size, 1, none⟩ = some (.int .u64 s) ∧ w'.cell? ⟨w.heap.size, 2, none⟩ = some (.string ⟨#[]⟩) ∧ w'.cell? ⟨w.heap.size, 3, none⟩ = some (.bool false) ∧ w'.cell? ⟨b, o + m * 4, none⟩ = some (.string x.key) ∧ w'.cell? ⟨b, o + m * 4 + 1, none⟩ = some (.int .u64 x.seq) ∧ w'.cell? ⟨b, o + m * 4 + 2, none⟩ = some (.string x.val) ∧ w'.cell? ⟨b, o + m * 4 + 3, none⟩ = some (.bool x.gone))
          ((0, true) :: (1, true) :: (2, true) :: (3, true) :: (4, true) :: (5, true) :: (6, false) :: (7, true) :: [])
          (by kernel_rfl) (by kernel_rfl) (by kernel_rfl) (by kernel_rfl) (fun _ _ _ dst _ h => by cases dst <;> exact h) ⟨z0, z1, z2, z3, c0, c1, c2, c3⟩ (fun hH => ?_)
        (repeat (first | (refine plan_take (v := ?_) (by (simp only [List.getElem?_toArray, List.getElem?_cons_succ, List.getElem?_cons_zero]; exact rfl)) (by rfl) ?_ ?_; rotate_left; (focus (intro wS hS; (try dsimp only at hS); go_split_ands; go_simp; (try with_reducible rfl))); simp only [Act.put, List.setIfInBounds_toArray, List.set_cons_zero, List.set_cons_succ]) | (refine plan_skip (by (simp only [List.getElem?_toArray, List.getElem?_cons_succ, List.getElem?_cons_zero]; exact rfl)) (by rfl) ?_; simp only [Act.put, List.setIfInBounds_toArray, List.set_cons_zero, List.set_cons_succ])))
        (refine plan_solo (by (simp only [List.getElem?_toArray, List.getElem?_cons_succ, List.getElem?_cons_zero]; exact rfl)) (by rfl) ?_; intro K hK; go_simp)
        refine (block_compare x ⟨k, s, ⟨#[]⟩, false⟩ _).mono ?_
        rintro e w5 ⟨rfl, hb5⟩
        refine hK.out _ _ ⟨cell_keep hb5 z0, cell_keep hb5 z1, cell_keep hb5 z2, cell_keep hb5 z3, cell_keep hb5 c0, cell_keep hb5 c1, cell_keep hb5 c2, cell_keep hb5 c3⟩ (fun hH => ?_)
        clear hK K
        try simp only [Act.put, List.setIfInBounds_toArray, List.set_cons_zero, List.set_cons_succ]
        (repeat (first | (refine plan_take (v := ?_) (by (simp only [List.getElem?_toArray, List.getElem?_cons_succ, List.getElem?_cons_zero]; exact rfl)) (by rfl) ?_ ?_; rotate_left; (focus (intro wS hS; (try dsimp only at hS); go_split_ands; go_simp; (try with_reducible rfl))); simp only [Act.put, List.setIfInBounds_toArray, List.set_cons_zero, List.set_cons_succ]) | (refine plan_skip (by (simp only [List.getElem?_toArray, List.getElem?_cons_succ, List.getElem?_cons_zero]; exact rfl)) (by rfl) ?_; simp only [Act.put, List.setIfInBounds_toArray, List.set_cons_zero, List.set_cons_succ])))
        refine plan_nil ?_
        have b6 := hb.drew.trans (hb5.mono (by exact hb.size))
        have hZ2 := hZ.drew.kept hb5
        go_wp2_with fail
        go_roundw
        case rel => exact ⟨lo, m, rfl, by go_num, by omega, by omega, HK.out.1, fun j y hj hy hp => HP.out (adjC_down HS.out hj HX.out hy hp), b6, hZ2⟩
        case measure => simp [intOf]; omega
    · obtain rfl : hi = lo := by omega
      have hpos : posN l k s = hi := posN_eq l k s hi h4 HK.out.1 (fun x hx => HK.out.2 hi x (Nat.le_refl _) hx)
      have HP := Lib.hid hpos
      clear hpos
      by_cases he : hi < l.length
      · obtain ⟨m, hm⟩ : ∃ m, m = hi := ⟨_, rfl⟩
        subst hm
        obtain ⟨x, hx⟩ : ∃ x, l[m]? = some x := ⟨_, List.getElem?_eq_getElem he⟩
        obtain ⟨b, o, rfl, hbl, c0, c1, c2, c3⟩ := (H.out.kept hb).cell_at hx
        have j0 : (0 : Int) ≤ (m : Int) := by omega
        have j1 : (m : Int) < (l.length : Int) := by omega
        clear hx
        go_wp2_with fail
        refine region_plan (S := fun w' => w'.cell? ⟨w.heap.size, 0, none⟩ = some (.string k) ∧ w'.cell? ⟨w.heap.size, 1, none⟩ = some (.int .u64 s) ∧ w'.cell? ⟨w.heap.size, 2, none⟩ = some (.string ⟨#[]⟩) ∧ w'.cell? ⟨w.heap.size, 3, none⟩ = some (.bool false) ∧ w'.cell? ⟨b, o + m * 4, none⟩ = some (.string x.key) ∧ w'.cell? ⟨b, o + m * 4 + 1, none⟩ = some (.int .u64 x.seq) ∧ w'.cell? ⟨b, o + m * 4 + 2, none⟩ = some (.string x.val) ∧ w'.cell? ⟨b, o + m * 4 + 3, none⟩ = some (.bool x.gone))
          ((0, true) :: (1, true) :: (2, true) :: (3, true) :: (4, true) :: (5, true) :: (6, true) :: (7, true) :: (8, true) :: (9, true) :: (10, true) :: (11, false) :: (12, true) :: (13, true) :: (14, true) :: (15, true) :: [])
          (by kernel_rfl) (by kernel_rfl) (by kernel_rfl) (by kernel_rfl) (fun _ _ _ dst _ h => by cases dst <;> exact h) ⟨z0, z1, z2, z3, c0, c1, c2, c3⟩ (fun hH => ?_)
        (repeat (first | (refine plan_take (v := ?_) (by (simp only [List.getElem?_toArray, List.getElem?_cons_succ, List.getElem?_cons_zero]; exact rfl)) (by rfl) ?_ ?_; rotate_left; (focus (intro wS hS; (try dsimp only at hS); go_split_ands; go_simp; (try with_reducible rfl))); simp only [Act.put, List.setIfInBounds_toArray, List.set_cons_zero, List.set_cons_succ]) | (refine plan_skip (by (simp only [List.getElem?_toArray, List.getElem?_cons_succ, List.getElem?_cons_zero]; exact rfl)) (by rfl) ?_; simp only [Act.put, List.setIfInBounds_toArray, List.set_cons_zero, List.set_cons_succ])))
        (refine plan_solo (by (simp only [List.getElem?_toArray, List.getElem?_cons_succ, List.getElem?_cons_zero]; exact rfl)) (by rfl) ?_; intro K hK; go_simp)
        refine (block_compare x ⟨k, s, ⟨#[]⟩, false⟩ _).mono ?_
        rintro e w5 ⟨rfl, hb5⟩
        refine hK.out _ _ ⟨cell_keep hb5 z0, cell_keep hb5 z1, cell_keep hb5 z2, cell_keep hb5 z3, cell_keep hb5 c0, cell_keep hb5 c1, cell_keep hb5 c2, cell_keep hb5 c3⟩ (fun hH => ?_)
        clear hK K
        try simp only [Act.put, List.setIfInBounds_toArray, List.set_cons_zero, List.set_cons_succ]
        (repeat (first | (refine plan_take (v := ?_) (by (simp only [List.getElem?_toArray, List.getElem?_cons_succ, List.getElem?_cons_zero]; exact rfl)) (by rfl) ?_ ?_; rotate_left; (focus (intro wS hS; (try dsimp only at hS); go_split_ands; go_simp; (try with_reducible rfl))); simp only [Act.put, List.setIfInBounds_toArray, List.set_cons_zero, List.set_cons_succ]) | (refine plan_skip (by (simp only [List.getElem?_toArray, List.getElem?_cons_succ, List.getElem?_cons_zero]; exact rfl)) (by rfl) ?_; simp only [Act.put, List.setIfInBounds_toArray, List.set_cons_zero, List.set_cons_succ])))
        refine plan_nil ?_
        have b6 := hb.drew.trans (hb5.mono (by exact hb.size))
        go_wp2_with fail
        go_ret2
        exact ⟨⟨_, by rw [HP.out]; rfl⟩, b6⟩
      · obtain rfl : hi = l.length := by omega
        go_wp2_with fail
        refine region_plan (S := fun _ => True)
          ((0, true) :: (1, true) :: (2, true) :: (3, true) :: (4, true) :: (5, true) :: (6, true) :: (7, true) :: (8, true) :: (9, true) :: (10, true) :: (11, false) :: (12, true) :: (13, true) :: (14, true) :: (15, true) :: [])
          (by kernel_rfl) (by kernel_rfl) (by kernel_rfl) (by kernel_rfl) (fun _ _ _ dst _ h => by cases dst <;> exact h) trivial (fun hH => ?_)
        (repeat (first | (refine plan_take (v := ?_) (by (simp only [List.getElem?_toArray, List.getElem?_cons_succ, List.getElem?_cons_zero]; exact rfl)) (by rfl) ?_ ?_; rotate_left; (focus (intro wS hS; (try dsimp only at hS); go_split_ands; go_simp; (try with_reducible rfl))); simp only [Act.put, List.setIfInBounds_toArray, List.set_cons_zero, List.set_cons_succ]) | (refine plan_skip (by (simp only [List.getElem?_toArray, List.getElem?_cons_succ, List.getElem?_cons_zero]; exact rfl)) (by rfl) ?_; simp only [Act.put, List.setIfInBounds_toArray, List.set_cons_zero, List.set_cons_succ])))
        (refine plan_solo_skip (by (simp only [List.getElem?_toArray, List.getElem?_cons_succ, List.getElem?_cons_zero]; exact rfl)) (by rfl) ?_ ?_; rotate_left; simp only [Act.put, List.setIfInBounds_toArray, List.set_cons_zero, List.set_cons_succ])
        · (repeat (first | (refine plan_take (v := ?_) (by (simp only [List.getElem?_toArray, List.getElem?_cons_succ, List.getElem?_cons_zero]; exact rfl)) (by rfl) ?_ ?_; rotate_left; (focus (intro wS hS; (try dsimp only at hS); go_split_ands; go_simp; (try with_reducible rfl))); simp only [Act.put, List.setIfInBounds_toArray, List.set_cons_zero, List.set_cons_succ]) | (refine plan_skip (by (simp only [List.getElem?_toArray, List.getElem?_cons_succ, List.getElem?_cons_zero]; exact rfl)) (by rfl) ?_; simp only [Act.put, List.setIfInBounds_toArray, List.set_cons_zero, List.set_cons_succ])))
          refine plan_nil ?_
          go_wp2_with fail
          go_ret2
          exact ⟨⟨_, by rw [HP.out]; rfl⟩, hb.drew⟩
        · exact trivial
end Go.Proofs.Ytbcaiegglbdonaa
