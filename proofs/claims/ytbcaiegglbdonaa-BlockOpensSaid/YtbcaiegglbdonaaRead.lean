/-
  The program's read: a block's cells out of bytes.
-/
import Derived.Test.YtbcaiegglbdonaaReadSz
import Derived.Test.YtbcaiegglbdonaaRBuild
import Derived.Test.YtbcaiegglbdonaaTree
import Derived.Laws.Concat
namespace Go.Proofs.Ytbcaiegglbdonaa
open Go Go.RowKit

/-- What read leaves: the cells in a row of its own, or nothing. -/
def ReadPost (w : World) (r : Option (List Cell)) (e : Ending) (w' : World) : Prop :=
  Below w.heap.size w w' ∧ match r with
    | some l => ∃ v, e = .returned (.tuple #[v, .bool true]) ∧ w'.ownsRow w.heap.size 25 4 v l.length (cellVals l)
    | none => e = .returned (.tuple #[.slice none 0 0, .bool false])
def ReadRel (w : World) (s : ByteArray) (p : Nat) (out ah : Value) (W : World) : Prop :=
  ∃ (l : List Cell) (t k : ByteArray) (n : Nat), ah = .string k ∧ RdIs W p t 0 ∧ t.size ≤ n ∧ l.length + t.size ≤ s.size ∧ k.size + t.size ≤ s.size ∧ readN s = (readAll n t k).map (l ++ ·) ∧ W.ownsRow w.heap.size 25 4 out l.length (cellVals l) ∧ Below w.heap.size w W ∧ w.heap.size ≤ p
theorem readPost_none {w w' : World} {r : Option (List Cell)} (h : r = none) (hb : Below w.heap.size w w') : ReadPost w r (.returned (.tuple #[.slice none 0 0, .bool false])) w' := by
  subst h
  exact ⟨hb, rfl⟩
/-- Where the two orders of making the cell meet. -/
def CutR (u : World) (p : Nat) (key : ByteArray) (seq : Nat) (gone : Bool) (s6 : ByteArray) (cp : Value) (W : World) : Prop :=
  ∃ pc, cp = .pointer (some ⟨pc, 0, none⟩) ∧ Blk W pc #[.string key, .int .u64 seq, .string ⟨#[]⟩, .bool gone] 25 ∧ RdIs W p s6 0 ∧ Only (fun k => k = p) u W ∧ u.heap.size ≤ pc
/-- How many bytes are left in a Reader. -/
def rdSize (p : Nat) (W : World) : Nat := match W.cell? ⟨p, 0, none⟩ with | some (.string t) => t.size | _ => 0
theorem rdSize_is {p : Nat} {W : World} {t : ByteArray} (h : W.cell? ⟨p, 0, none⟩ = some (.string t)) : rdSize p W = t.size := by unfold rdSize; rw [h]
theorem rd_row {W : World} {B n p : Nat} {v : Value} {xs : List Value} {s : ByteArray} {e : Int} (h : W.ownsRow B 25 4 v n xs) (hr : RdIs W p s e) (g : Nat) (hg : v.ownBlock = some g) : g ≠ p := by
  obtain ⟨cur, hc⟩ := row_type h hg
  intro hp
  subst hp
  have h1 : W.heap[g]? = some (.cells cur 25) := hc
  have h2 : W.heap[g]? = some (.cells #[.string s, .int .i64 e] 167) := hr
  rw [h1] at h2
  injection h2 with h2
  injection h2 with _ h2
  exact absurd h2 (by decide)
theorem blk_set4 {w : World} {b : Nat} {z0 z1 z2 z3 : Value} {t : TypeId} (h : Blk w b #[z0, z1, z2, z3] t) (v0 v1 v2 v3 : Value) :
    Blk ((((w.setCell ⟨b, 0, none⟩ v0).setCell ⟨b, 1, none⟩ v1).setCell ⟨b, 2, none⟩ v2).setCell ⟨b, 3, none⟩ v3) b #[v0, v1, v2, v3] t := (((h.setCell 0 v0).setCell 1 v1).setCell 2 v2).setCell 3 v3
theorem rd_set4 {w : World} {p b : Nat} {s : ByteArray} {e : Int} (h : RdIs w p s e) (hn : p ≠ b) (v0 v1 v2 v3 : Value) :
    RdIs ((((w.setCell ⟨b, 0, none⟩ v0).setCell ⟨b, 1, none⟩ v1).setCell ⟨b, 2, none⟩ v2).setCell ⟨b, 3, none⟩ v3) p s e := (((Blk.setCell_ne h hn 0 v0).setCell_ne hn 1 v1).setCell_ne hn 2 v2).setCell_ne hn 3 v3
theorem cutR_old {u w : World} {p b : Nat} {key s6 : ByteArray} {seq : Nat} {gone : Bool} {z0 z1 z2 z3 : Value} (hr : RdIs w p s6 0) (ho : Only (fun k => k = p) u w) (h : Blk w b #[z0, z1, z2, z3] 25) (hb : u.heap.size ≤ b) (hp : p < u.heap.size) :
    CutR u p key seq gone s6 (.pointer (some ⟨b, 0, none⟩)) ((((w.setCell ⟨b, 0, none⟩ (.string key)).setCell ⟨b, 1, none⟩ (.int .u64 seq)).setCell ⟨b, 2, none⟩ (.string ⟨#[]⟩)).setCell ⟨b, 3, none⟩ (.bool gone)) :=
  ⟨b, rfl, blk_set4 h _ _ _ _, rd_set4 hr (by omega) _ _ _ _, (((ho.setCell (.inr hb) 0 _).setCell (.inr hb) 1 _).setCell (.inr hb) 2 _).setCell (.inr hb) 3 _, hb⟩
theorem cutR_new {u w : World} {p : Nat} {key s6 : ByteArray} {seq : Nat} {gone : Bool} (hr : RdIs w p s6 0) (ho : Only (fun k => k = p) u w) :
    CutR u p key seq gone s6 (.pointer (some ⟨w.heap.size, 0, none⟩)) (w.alloc (.cells #[.string key, .int .u64 seq, .string ⟨#[]⟩, .bool gone] 25)) :=
  ⟨w.heap.size, rfl, Blk.new w _ _, Blk.alloc hr _, ho.alloc _, ho.size⟩
theorem rawR_fit {s : ByteArray} {b : Nat} (h : b ≤ s.size) : (rawR s 0 b).2.2 = 0 := by
  unfold rawR
  rw [if_neg (by simp), if_neg (by omega), if_neg (by omega)]
theorem own_rd {W W' : World} {B n p : Nat} {v : Value} {xs : List Value} {s : ByteArray} {e : Int} (h : W.ownsRow B 25 4 v n xs) (hr : RdIs W p s e) (ho : Only (fun k => k = p) W W') : W'.ownsRow B 25 4 v n xs := by
  refine own_same h fun g hg => ?_
  obtain ⟨cur, hc⟩ := row_type h hg
  refine ho.block g hc.lt fun hp => ?_
  subst hp
  have h1 : W.heap[g]? = some (.cells cur 25) := hc
  have h2 : W.heap[g]? = some (.cells #[.string s, .int .i64 e] 167) := hr
  rw [h1] at h2
  injection h2 with h2
  injection h2 with _ h2
  exact absurd h2 (by decide)

set_option maxRecDepth 100000 in
set_option maxHeartbeats 4000000 in
theorem read_spec (s : ByteArray) (hs : s.size ≤ 65536) (w : World) : Calls Try.prog 101 #[.string s] w (ReadPost w (readN s)) := by
  obtain ⟨i0, hi, hz0, hz1, hz2⟩ := info_parts Try.infoCell
  go_enter Try.func101, Try.ntmps101
  go_wp2_with (go_at_call 98; refine (reader_new _ _).mono ?_; rintro e w1 ⟨rfl, hr, hb1, hs1⟩)
  go_loopw [4, 5] (ReadRel w s w.heap.size) (fun _ _ W => rdSize w.heap.size W)
  case atStart => exact ⟨[], s, ⟨#[]⟩, s.size, rfl, hr, Nat.le_refl _, by simp, by show 0 + _ ≤ _; omega, by unfold readN; simp, World.ownsRow_nil _ _ _ _, hb1, Nat.le_refl _⟩
  case round =>
    obtain ⟨l, t, k, n, rfl, hrd, htn, hln, hkn, heq, hown, hb, hp⟩ := hrel
    have HE := Lib.hid heq
    have HO := Lib.hid hown
    have HRD := Lib.hid hrd
    have c0 : wr.cell? ⟨w.heap.size, 0, none⟩ = some (.string t) := Blk.cell hrd 0 _ rfl
    clear heq hown hrd
    by_cases ht : t.size = 0
    · have hl := reader_left HRD.out
      rw [if_pos rfl, ht] at hl
      have HL := Lib.hid hl
      clear hl
      go_wp2_with (go_at_call 134; refine HL.out.mono ?_; rintro e w2 ⟨rfl, rfl⟩)
      go_ret2
      refine ⟨hb, ?_⟩
      have h0 : readN s = some l := by
        rw [HE.out]
        cases n with
        | zero => simp [readAll, ht]
        | succ n => simp [readAll, ht]
      rw [h0]
      exact ⟨_, rfl, HO.out⟩
    · have hl := reader_left HRD.out
      rw [if_pos rfl] at hl
      have HL := Lib.hid hl
      have htp : (0 : Int) < (t.size : Int) := by omega
      clear hl
      go_wp2_with (go_at_call 134; refine HL.out.mono ?_; rintro e w2 ⟨rfl, rfl⟩)
      have v1 := reader_varint HRD.out (by omega)
      have z1 := varR_size t 0
      obtain ⟨q1, hq1⟩ : ∃ q, varR t 0 = q := ⟨_, rfl⟩
      rw [hq1] at v1 z1
      obtain ⟨a1, s1, e1⟩ := q1
      dsimp only at v1 z1
      have HQ1 := Lib.hid hq1
      clear hq1
      refine v1.mono ?_
      clear v1
      rintro e u1 ⟨rfl, R1, o1⟩
      go_wp2_with fail
      have v2 := reader_varint R1 (by omega)
      have z2 := varR_size s1 e1
      obtain ⟨q2, hq2⟩ : ∃ q, varR s1 e1 = q := ⟨_, rfl⟩
      rw [hq2] at v2 z2
      obtain ⟨a2, s2, e2⟩ := q2
      dsimp only at v2 z2
      have HQ2 := Lib.hid hq2
      clear hq2
      refine v2.mono ?_
      clear v2
      rintro e u2 ⟨rfl, R2, o2⟩
      go_wp2_with fail
      have v3 := reader_varint R2 (by omega)
      have z3 := varR_size s2 e2
      obtain ⟨q3, hq3⟩ : ∃ q, varR s2 e2 = q := ⟨_, rfl⟩
      rw [hq3] at v3 z3
      obtain ⟨a3, s3, e3⟩ := q3
      dsimp only at v3 z3
      have HQ3 := Lib.hid hq3
      clear hq3
      refine v3.mono ?_
      clear v3
      rintro e u3 ⟨rfl, R3, o3⟩
      go_wp2_with fail
      have v4 := reader_u8 R3
      have z4 := rawR_size s3 e3 1
      obtain ⟨q4, hq4⟩ : ∃ q, rawR s3 e3 1 = q := ⟨_, rfl⟩
      rw [hq4] at v4 z4
      obtain ⟨a4, s4, e4⟩ := q4
      dsimp only at v4 z4
      have HQ4 := Lib.hid hq4
      clear hq4
      obtain ⟨gn, hgn⟩ : ∃ gn, numN a4.data.toList % 256 = gn := ⟨_, rfl⟩
      rw [hgn] at v4
      have HGN := Lib.hid hgn
      clear hgn
      refine v4.mono ?_
      clear v4
      rintro e u4 ⟨rfl, R4, o4⟩
      go_wp2_with fail
      have v5 := reader_varint R4 (by omega)
      have z5 := varR_size s4 e4
      obtain ⟨q5, hq5⟩ : ∃ q, varR s4 e4 = q := ⟨_, rfl⟩
      rw [hq5] at v5 z5
      obtain ⟨a5, s5, e5⟩ := q5
      dsimp only at v5 z5
      have HQ5 := Lib.hid hq5
      clear hq5
      refine v5.mono ?_
      clear v5
      rintro e u5 ⟨rfl, R5, o5⟩
      go_wp2_with fail
      have HONE := Lib.hid (show readOne t k = if e5 ≠ 0 ∨ k.size < a1 ∨ s5.size < a2 ∨ s5.size < a3 ∨ 1 < gn then none
          else if (rawR (rawR s5 0 a2).2.1 (rawR s5 0 a2).2.2 a3).2.2 ≠ 0 then none
          else some (⟨⟨(k.extract 0 a1).data ++ (rawR s5 0 a2).1.data⟩, a5, (rawR (rawR s5 0 a2).2.1 (rawR s5 0 a2).2.2 a3).1, gn == 1⟩, (rawR (rawR s5 0 a2).2.1 (rawR s5 0 a2).2.2 a3).2.1) by
        unfold readOne
        simp only []
        rw [HQ1.out]; simp only []
        rw [HQ2.out]; simp only []
        rw [HQ3.out]; simp only []
        rw [HQ4.out]; simp only []
        rw [HQ5.out]; simp only []
        rw [HGN.out])
      have HNO := Lib.hid (show readOne t k = none → readN s = none from fun h => by
        rw [HE.out, readAll_step ht htn, h]; rfl)
      have O5 : Only (fun j => j = w.heap.size) wr u5 := (((o1.trans o2).trans o3).trans o4).trans o5
      have b5 : Below w.heap.size w u5 := hb.trans (O5.below hb.size (fun j hj => by omega))
      have HERR := Lib.hid (reader_err R5)
      have hkz : (k.size : Int) ≤ 65536 := by omega
      have hsz : (s5.size : Int) ≤ 65536 := by omega
      refine HERR.out.mono ?_
      rintro e w8 ⟨rfl, rfl⟩
      by_cases h1 : ¬ e5 = 0
      · have f1 : (e5 == 0) = false := by simpa using h1
        have HN := Lib.hid (HNO.out (by rw [HONE.out, if_pos (.inl h1)]))
        go_wp2_with fail
        go_ret2
        exact readPost_none HN.out b5
      have h1 : e5 = 0 := by omega
      subst h1
      have hl := reader_left R5
      rw [if_pos rfl] at hl
      have HL5 := Lib.hid hl
      clear hl
      by_cases h2 : k.size < a1
      · have f2 : (k.size : Int) < (a1 : Int) := by omega
        have HN := Lib.hid (HNO.out (by rw [HONE.out, if_pos (.inr (.inl h2))]))
        clear h2
        go_wp2_with fail
        go_ret2
        exact readPost_none HN.out b5
      have f2 : (a1 : Int) ≤ (k.size : Int) := by omega
      by_cases h3 : s5.size < a2
      · have f3 : (s5.size : Int) < (a2 : Int) := by omega
        have HN := Lib.hid (HNO.out (by rw [HONE.out, if_pos (.inr (.inr (.inl h3)))]))
        clear h2 h3
        go_wp2_with (go_at_call 134; refine HL5.out.mono ?_; rintro e w8 ⟨rfl, rfl⟩)
        go_ret2
        exact readPost_none HN.out b5
      have f3 : (a2 : Int) ≤ (s5.size : Int) := by omega
      by_cases h4 : s5.size < a3
      · have f4 : (s5.size : Int) < (a3 : Int) := by omega
        have HN := Lib.hid (HNO.out (by rw [HONE.out, if_pos (.inr (.inr (.inr (.inl h4))))]))
        clear h2 h3 h4
        go_wp2_with (go_at_call 134; refine HL5.out.mono ?_; rintro e w8 ⟨rfl, rfl⟩)
        go_ret2
        exact readPost_none HN.out b5
      have f4 : (a3 : Int) ≤ (s5.size : Int) := by omega
      by_cases h5 : 1 < gn
      · have f5 : (1 : Int) < (gn : Int) := by omega
        have HN := Lib.hid (HNO.out (by rw [HONE.out, if_pos (.inr (.inr (.inr (.inr h5))))]))
        clear h2 h3 h4 h5
        go_wp2_with (go_at_call 134; refine HL5.out.mono ?_; rintro e w8 ⟨rfl, rfl⟩)
        go_ret2
        exact readPost_none HN.out b5
      have f5 : (gn : Int) ≤ 1 := by omega
      have HBAR := Lib.hid (show ¬ ((0 : Int) ≠ 0 ∨ k.size < a1 ∨ s5.size < a2 ∨ s5.size < a3 ∨ 1 < gn) by omega)
      go_upto_region 10 with (go_at_call 134; refine HL5.out.mono ?_; rintro e w8 ⟨rfl, rfl⟩)
      have hf := @rawR_fit s5 a2 (by omega)
      have hx6 := (rawR_ok hf).2.2.2.1
      have hzr := rawR_size s5 0 a2
      have hRAW := fun (W : World) (hW : RdIs W w.heap.size s5 0) => reader_raw hW (a2 : Int)
      obtain ⟨q6, hq6⟩ : ∃ q, rawR s5 0 a2 = q := ⟨_, rfl⟩
      rw [hq6] at hf hRAW hzr hx6
      have h7 := HONE.out
      rw [if_neg HBAR.out, hq6] at h7
      obtain ⟨x6, s6, e6⟩ := q6
      dsimp only at hf hRAW h7 hzr hx6
      subst hf
      have HRAW := Lib.hid hRAW
      have hpl := R5.lt
      clear hq6 hRAW
      have hw2 : IntKind.i64.wrap (a2 : Int) = a2 := IntWalk.i64_in _ (by omega)
      have hg1 : ((gn : Int) == 1) = (gn == 1) := by rw [Bool.eq_iff_iff]; simp; omega
      have hx6 : x6.size ≤ 65536 := by omega
      obtain ⟨kk, hkk⟩ : ∃ kk : ByteArray, ⟨(k.extract 0 a1).data ++ x6.data⟩ = kk := ⟨_, rfl⟩
      rw [hkk] at h7
      have hcat : ∀ W, (Op.stringOp .add (k.extract 0 a1) x6).run Try.prog W = .ok (.string kk) W := fun W => by
        have h1 : ((k.extract 0 a1).size : Int) ≤ 8388608 := by have := ex_size_le k 0 a1; omega
        have h2 : (x6.size : Int) ≤ 8388608 := by omega
        have h3 : kk = k.extract 0 a1 ++ x6 := by rw [← hkk]; apply ByteArray.ext; simp [ByteArray.data_append]
        rw [h3]
        exact run_string_add W _ _ h1 h2
      have H7 := Lib.hid h7
      clear h7 hkk
      go_cut [12] from 15 to 81 (CutR u5 w.heap.size kk a5 (gn == 1) s6)
      case first =>
        refine region_tree (S := fun _ => True)
          (.take 0 (.take 1 (.take 2 (.take 3 (.take 4 (.take 5 (.take 8 (.take 9 (.take 10 (.two 6 (.take 7 (.take 11 (.one 12 (.one 13 .nil)))) 12 (.one 6 (.take 7 (.take 11 (.one 13 .nil))))))))))))))
          (by kernel_rfl) (by kernel_rfl) (by kernel_rfl) (fun _ _ _ dst _ h => by cases dst <;> exact h) trivial (fun hH => ?_)
        (repeat (refine tree_take (v := ?_) (by (simp only [List.getElem?_toArray, List.getElem?_cons_succ, List.getElem?_cons_zero]; exact rfl)) (by rfl) ?_ ?_; rotate_left; (focus (intro wS hS; (try dsimp only at hS); go_split_ands; go_simp; (try with_reducible rfl))); simp only [Act.put, List.setIfInBounds_toArray, List.set_cons_zero, List.set_cons_succ]))
        (refine tree_two (by (simp only [List.getElem?_toArray, List.getElem?_cons_succ, List.getElem?_cons_zero]; exact rfl)) (by rfl) (by (simp only [List.getElem?_toArray, List.getElem?_cons_succ, List.getElem?_cons_zero]; exact rfl)) (by rfl) ?_ ?_ <;> (intro K hK; go_simp))
        · refine (HRAW.out _ (Blk.drew R5)).mono ?_
          rintro e w6 ⟨rfl, R6, o6⟩
          refine hK.out _ _ trivial (fun hH => ?_)
          clear hK K
          try simp only [Act.put, List.setIfInBounds_toArray, List.set_cons_zero, List.set_cons_succ]
          (repeat (refine tree_take (v := ?_) (by (simp only [List.getElem?_toArray, List.getElem?_cons_succ, List.getElem?_cons_zero]; exact rfl)) (by rfl) ?_ ?_; rotate_left; (focus (intro wS hS; (try dsimp only at hS); go_split_ands; go_simp; (try with_reducible rfl))); simp only [Act.put, List.setIfInBounds_toArray, List.set_cons_zero, List.set_cons_succ]))
          (refine tree_one (by (simp only [List.getElem?_toArray, List.getElem?_cons_succ, List.getElem?_cons_zero]; exact rfl)) (by rfl) ?_; intro K hK; go_simp)
          refine hK.out _ _ trivial (fun hH => ?_)
          clear hK K
          try simp only [Act.put, List.setIfInBounds_toArray, List.set_cons_zero, List.set_cons_succ]
          (refine tree_one (by (simp only [List.getElem?_toArray, List.getElem?_cons_succ, List.getElem?_cons_zero]; exact rfl)) (by rfl) ?_; intro K hK; go_simp)
          refine hK.out _ _ trivial (fun hH => ?_)
          clear hK K
          try simp only [Act.put, List.setIfInBounds_toArray, List.set_cons_zero, List.set_cons_succ]
          refine tree_nil ?_
          go_wp2_with fail
          go_meet
          case rel => exact cutR_new R6 ((Only.drew (Only.refl _ u5)).trans o6)
        · refine hK.out _ _ trivial (fun hH => ?_)
          clear hK K
          try simp only [Act.put, List.setIfInBounds_toArray, List.set_cons_zero, List.set_cons_succ]
          (refine tree_one (by (simp only [List.getElem?_toArray, List.getElem?_cons_succ, List.getElem?_cons_zero]; exact rfl)) (by rfl) ?_; intro K hK; go_simp)
          refine (HRAW.out _ ((Blk.drew R5).alloc _)).mono ?_
          rintro e w6 ⟨rfl, R6, o6⟩
          refine hK.out _ _ trivial (fun hH => ?_)
          clear hK K
          try simp only [Act.put, List.setIfInBounds_toArray, List.set_cons_zero, List.set_cons_succ]
          (repeat (refine tree_take (v := ?_) (by (simp only [List.getElem?_toArray, List.getElem?_cons_succ, List.getElem?_cons_zero]; exact rfl)) (by rfl) ?_ ?_; rotate_left; (focus (intro wS hS; (try dsimp only at hS); go_split_ands; go_simp; (try with_reducible rfl))); simp only [Act.put, List.setIfInBounds_toArray, List.set_cons_zero, List.set_cons_succ]))
          have hZ : Blk w6 u5.heap.size #[.string ⟨#[]⟩, .int .u64 0, .string ⟨#[]⟩, .bool false] 25 := (Blk.new u5.drew _ _).only o6 (by show ¬ u5.drew.heap.size = _; simp only [World.size_drew]; omega)
          have f0 := hZ.frozen
          have f1 := hZ.lt
          obtain ⟨z0, z1, z2, z3⟩ := cell4 hZ
          (refine tree_one (by (simp only [List.getElem?_toArray, List.getElem?_cons_succ, List.getElem?_cons_zero]; exact rfl)) (by rfl) ?_; intro K hK; go_simp)
          refine hK.out _ _ trivial (fun hH => ?_)
          clear hK K
          try simp only [Act.put, List.setIfInBounds_toArray, List.set_cons_zero, List.set_cons_succ]
          refine tree_nil ?_
          go_wp2_with fail
          go_meet
          case rel => exact cutR_old R6 (((Only.drew (Only.refl _ u5)).alloc _).trans o6) hZ (Nat.le_refl _) hpl
      case rest =>
        obtain ⟨pc, rfl, hC, R6, o6, hpc⟩ := hcut
        have O6 := O5.trans (o6.mono fun j _ hj => hj)
        have v7 := reader_raw R6 (a3 : Int)
        have z7 := rawR_size s6 0 a3
        have hok := @rawR_ok s6 0 a3
        obtain ⟨q7, hq7⟩ : ∃ q, rawR s6 0 a3 = q := ⟨_, rfl⟩
        rw [hq7] at v7 z7 hok
        have h7 := H7.out
        rw [hq7] at h7
        obtain ⟨x7, s7, e7⟩ := q7
        dsimp only at v7 z7 hok h7
        have H8 := Lib.hid h7
        have HOK := Lib.hid hok
        clear hq7 h7 hok
        have hw3 : IntKind.i64.wrap (a3 : Int) = a3 := IntWalk.i64_in _ (by omega)
        have V7 := Lib.hid v7
        clear v7
        go_wp2_with fail
        refine V7.out.mono ?_
        rintro e w7 ⟨rfl, R7, o7⟩
        have hC7 := hC.only o7 (by omega)
        have cf := hC7.frozen
        have cl := hC7.lt
        obtain ⟨z0, z1, z2, z3⟩ := cell4 hC7
        have HER7 := Lib.hid (reader_err (R7.setCell_ne (by omega) 2 (.string x7) : RdIs (w7.setCell ⟨pc, 2, none⟩ (.string x7)) w.heap.size s7 e7))
        have O7 : Only (fun j => j = w.heap.size) u5 (w7.setCell ⟨pc, 2, none⟩ (.string x7)) := (o6.trans o7).setCell (.inr hpc) 2 _
        have b7 : Below w.heap.size w (w7.setCell ⟨pc, 2, none⟩ (.string x7)) := b5.trans (O7.below b5.size (fun j hj => by omega))
        by_cases h8 : e7 = 0
        · subst h8
          have hone : readOne t k = some (⟨kk, a5, x7, gn == 1⟩, s7) := by rw [H8.out, if_neg (by simp)]
          have hsz1 := readOne_size hone
          have hst := readAll_step (ah := k) ht htn
          rw [hone] at hst
          have HE2 := Lib.hid (show readN s = (readAll (n - 1) s7 kk).map (fun x => (l ++ [⟨kk, a5, x7, gn == 1⟩]) ++ x) by
            rw [HE.out, hst]
            show Option.map _ (Option.map _ _) = _
            rw [Option.map_map]
            congr 1
            funext x
            show l ++ (_ :: x) = _
            simp)
          obtain ⟨hs1', hs2', -, -⟩ := hsz1
          have hs2' : kk.size + s7.size ≤ s.size := Nat.le_trans hs2' hkn
          have ho7 := own_rd (own_rd HO.out HRD.out O5) R5 O7
          have hne := fun g hg => rd_row ho7 (R7.setCell_ne (by omega) 2 (.string x7) : RdIs (w7.setCell ⟨pc, 2, none⟩ (.string x7)) w.heap.size s7 0) g hg
          have HO7 := Lib.hid ho7
          have HNE := Lib.hid hne
          have nw := news4 (w7.setCell ⟨pc, 2, none⟩ (.string x7)) ⟨kk, a5, x7, gn == 1⟩
          rw [World.size_setCell] at nw
          have q3 : l.length + 1 ≤ maxLen := by unfold maxLen; omega
          have q4 : (l.length + 1) * 48 ≤ 140737488355328 := by omega
          have q5 : w.heap.size ≤ ((w7.setCell ⟨pc, 2, none⟩ (.string x7)).alloc (.cells #[.string kk, .int .u64 a5, .string x7, .bool (gn == 1)] 25)).heap.size := by have := b7.size; simp only [World.size_alloc]; omega
          clear hone hst ho7 hne
          go_wp2_with (first | (go_at_call 137; refine HER7.out.mono ?_; rintro e w8 ⟨rfl, rfl⟩) | (at_builtin; refine wpList_append_own _ rfl _ _ 22 rfl w.heap.size 25 i0 cellZ 4 48 Try.underlying22 hi hz0 hz1 hz2 rfl (by decide) _ _ _ rfl (HO7.out.alloc _) ⟨w7.heap.size, 0, none⟩ 1 1 [.string kk, .int .u64 a5, .string x7, .bool (gn == 1)] rfl rfl nw (by simp [Value.oneCell']) q3 q4 q5 ?_))
          intro v' w9 hown9 hgr _
          have hb9 : Below w.heap.size w w9 := (b7.alloc b7.size _).grown hgr q5 (fun j hj => (HO7.out.lt j hj).1)
          have R9 : RdIs w9 w.heap.size s7 0 := (hgr.block w.heap.size ((R7.setCell_ne (by omega) 2 (.string x7)).alloc _).lt (fun e => HNE.out _ e.symm rfl)).trans ((R7.setCell_ne (by omega) 2 (.string x7)).alloc _)
          have c9 : w9.cell? ⟨w.heap.size, 0, none⟩ = some (.string s7) := Blk.cell R9 0 _ rfl
          have HW9 := Lib.hid hown9
          clear hown9 hgr
          go_wp2_with fail
          go_roundw
          case rel =>
            exact ⟨l ++ [⟨kk, a5, x7, gn == 1⟩], s7, kk, n - 1, rfl, R9, by omega, by rw [List.length_append]; show l.length + 1 + _ ≤ _; omega, hs2', HE2.out, by rw [List.length_append, cellVals_append]; exact HW9.out, hb9, hp⟩
          case measure => rw [rdSize_is c9, rdSize_is c0]; exact hs1'
        · have HN := Lib.hid (HNO.out (by rw [H8.out, if_pos h8]))
          have f8 : (e7 == 0) = false := by simpa using h8
          go_wp2_with (go_at_call 137; refine HER7.out.mono ?_; rintro e w8 ⟨rfl, rfl⟩)
          go_ret2
          exact readPost_none HN.out b7
end Go.Proofs.Ytbcaiegglbdonaa
