/-
  A block built: the reference's Build.
-/
import Derived.Test.YtbcaiegglbdonaaBuild
import Derived.Test.YtbcaiegglbdonaaRefNum
import Derived.Lib.AppendStr
import Derived.Test.YtbcaiegglbdonaaPlan
namespace Go.Proofs.Ytbcaiegglbdonaa
open Go Go.RowKit

/-- The bytes and the starts, two rows of the call's own. -/
structure RB (w : World) (bs : Value) (L : List UInt8) (st : Value) (S : List Int) (W : World) : Prop where
  own1 : W.ownsRow w.heap.size 5 1 bs L.length (bv L)
  own2 : W.ownsRow w.heap.size 3 1 st S.length (ints S)
  below : Below w.heap.size w W
theorem RB.kept {w W W' : World} {bs st : Value} {L : List UInt8} {S : List Int} (h : RB w bs L st S W) (hb : Below W.heap.size W W') : RB w bs L st S W' :=
  ⟨own_kept h.own1 hb, own_kept h.own2 hb, h.below.trans (hb.mono h.below.size)⟩
theorem row_type {W : World} {B e k n : Nat} {v : Value} {xs : List Value} (h : W.ownsRow B e k v n xs) {g : Nat} (hg : v.ownBlock = some g) : ∃ cur, Blk W g cur e := by
  rcases h.2 with ⟨h1, _⟩ | ⟨g', cap', cur, e1, hb, hg', _⟩
  · rw [h1] at hg; cases hg
  · rw [e1] at hg
    cases hg
    exact ⟨cur, hg'⟩
theorem blk_type {W : World} {b : Nat} {arr arr' : Array Value} {t t' : TypeId} (h : Blk W b arr t) (h' : Blk W b arr' t') : t = t' := by
  have := h.symm.trans h'
  injection this with this
  injection this with _ e _
theorem grown_other {W W' : World} {B e k n : Nat} {v : Value} {xs : List Value} (h : W.ownsRow B e k v n xs) (hgr : W.grownBy W' v.ownBlock) {b : Nat} {arr : Array Value} {t : TypeId} (hb : Blk W b arr t) (hne : t ≠ e) : Blk W' b arr t := by
  refine (hgr.block b hb.lt fun e1 => ?_).trans hb
  obtain ⟨cur, hc⟩ := row_type h e1.symm
  exact hne (blk_type hb hc)
theorem grown_row {W W' : World} {B e k n B' e' k' n' : Nat} {v v' : Value} {xs xs' : List Value} (h : W.ownsRow B e k v n xs) (hgr : W.grownBy W' v.ownBlock) (h' : W.ownsRow B' e' k' v' n' xs') (hne : e' ≠ e) : W'.ownsRow B' e' k' v' n' xs' := by
  refine own_same h' fun g hg => ?_
  obtain ⟨cur, hc⟩ := row_type h' hg
  exact (grown_other h hgr hc hne).trans hc.symm
theorem RB.app {w W W' : World} {bs bs' st : Value} {L d : List UInt8} {S : List Int} {n : Nat} (h : RB w bs L st S W) (how : W'.ownsRow w.heap.size 5 1 bs' n (bv L ++ bv d)) (hn : n = L.length + d.length) (hgr : W.grownBy W' bs.ownBlock) : RB w bs' (L ++ d) st S W' :=
  ⟨by rw [bv_append, List.length_append, ← hn]; exact how, grown_row h.own1 hgr h.own2 (by decide), h.below.grown hgr h.below.size (fun k hk => (h.own1.lt k hk).1)⟩
theorem RB.start {w W W' : World} {bs st st' : Value} {L : List UInt8} {S : List Int} {x : Int} (h : RB w bs L st S W) (how : W'.ownsRow w.heap.size 3 1 st' (S.length + 1) (ints S ++ [.int .i64 x])) (hgr : W.grownBy W' st.ownBlock) : RB w bs L st' (S ++ [x]) W' :=
  ⟨grown_row h.own2 hgr h.own1 (by decide), by rw [List.length_append]; simpa [ints] using how, h.below.grown hgr h.below.size (fun k hk => (h.own2.lt k hk).1)⟩
theorem strCells_bv (s : ByteArray) : Lib.strCells s = bv s.data.toList := rfl
def startsI (l : List Cell) (r k : Nat) : List Int := (startsN l r k).map fun x : Nat => (x : Int)
theorem startsI_yes (l : List Cell) (r k : Nat) (h : k % r = 0) : startsI l r (k + 1) = startsI l r k ++ [((bodyN l r k).length : Int)] := by
  unfold startsI startsN
  rw [List.range_succ, List.filter_append]
  simp [h]
theorem startsI_no (l : List Cell) (r k : Nat) (h : ¬ k % r = 0) : startsI l r (k + 1) = startsI l r k := by
  unfold startsI startsN
  rw [List.range_succ, List.filter_append]
  simp [h]
theorem startsI_len (l : List Cell) (r k : Nat) : (startsI l r k).length ≤ k := by
  unfold startsI startsN
  rw [List.length_map, List.length_map]
  exact Nat.le_trans (List.length_filter_le _ _) (by simp)
theorem body_step {l : List Cell} {r k n m q : Nat} {x : Cell} (hx : l[k]? = some x) (hn : shAt l r k = n) (hm : x.key.size - n = m) (hq : x.seq = (q : Int)) :
    bodyN l r k ++ varN n ++ varN m ++ varN x.val.size ++ [UInt8.ofNat (if x.gone then 1 else 0)] ++ varN q ++ (x.key.extract n x.key.size).data.toList ++ x.val.data.toList = bodyN l r (k + 1) := by
  rw [bodyN_succ, encAt_eq hx, hn]
  unfold encC
  rw [hm, hq, Int.toNat_natCast, extract_drop]
  simp only [List.append_assoc]
theorem rcrc_list (L : List UInt8) (w : World) (h : L.length ≤ 4611686018427387904) : Calls Try.prog 96 #[.string ⟨L.toArray⟩] w fun e w' => e = .returned (.int .u32 ((crcN L : Nat) : Int)) ∧ w' = w :=
  ref_crc ⟨L.toArray⟩ w h
def RBRel (w : World) (l : List Cell) (r : Nat) (bs st i : Value) (W : World) : Prop :=
  ∃ k : Nat, k ≤ l.length ∧ i = .int .i64 k ∧ RB w bs (bodyN l r k) st (startsI l r k) W ∧ (bodyN l r k).length ≤ 65536
def RBRel2 (w : World) (l : List Cell) (r : Nat) (st bs i : Value) (W : World) : Prop :=
  ∃ k : Nat, k ≤ (startsI l r l.length).length ∧ i = .int .i64 k ∧ RB w bs (bodyN l r l.length ++ ((startsN l r l.length).take k).flatMap be4) st (startsI l r l.length) W ∧ (bodyN l r l.length ++ ((startsN l r l.length).take k).flatMap be4).length ≤ 65536 + 4 * k
set_option maxRecDepth 100000 in
set_option maxHeartbeats 4000000 in
theorem rbuild_main {w : World} {v : Value} {l : List Cell} (h : Reads w v l.length 4 (cellVals l)) (hl : l.length ≤ 2932031007402) (hs : ∀ c ∈ l, 0 ≤ c.seq) (r : Nat) (hr1 : 1 ≤ r) (hr2 : r ≤ 64) (hc : checkL l = 0) :
    Calls Try.prog 38 #[v, .int .i64 r] w fun e w' => e = .returned (.tuple #[.string ⟨(buildN l r).1.toArray⟩, .int .i64 (buildN l r).2]) ∧ Below w.heap.size w w' := by
  obtain ⟨A, cap, rfl⟩ := h.form
  obtain ⟨i0, hi, hz0, hz1, hz2⟩ := info_parts Try.infoInt
  obtain ⟨i1, hi', hy0, hy1, hy2⟩ := info_parts Try.infoByte
  have hck := ref_check_list h hl
  rw [hc] at hck
  have HCK := Lib.hid hck
  have H := Lib.hid h
  have HC := Lib.hid hc
  have hBN : buildN l (r : Int) = if (blockN l r).length ≤ 65536 then (blockN l r, 0) else ([], 3) := by
    unfold buildN
    rw [if_neg (by omega), if_neg (by rw [hc]; simp), Int.toNat_natCast]
  have HBN := Lib.hid hBN
  have hr3 : (1 : Int) ≤ (r : Int) := by omega
  have hr4 : (r : Int) ≤ 64 := by omega
  have hr5 : ¬ (r : Int) = 0 := by omega
  clear h hck hc hBN
  go_enter Try.func38, Try.ntmps38
  go_wp2_with (go_at_call 40; refine HCK.out.mono ?_; rintro e w1 ⟨rfl, hb1⟩)
  go_loopw [7, 8, 28] (RBRel w l r) (fun _ _ i _ => l.length - (intOf i).toNat)
  case atStart => exact ⟨0, by omega, rfl, ⟨World.ownsRow_nil _ _ _ _, World.ownsRow_nil _ _ _ _, hb1⟩, by simp [bodyN]⟩
  case round =>
    obtain ⟨k, hk, rfl, hRB, hL⟩ := hrel
    by_cases hlt : k < l.length
    · obtain ⟨x, hx⟩ : ∃ x, l[k]? = some x := ⟨_, List.getElem?_eq_getElem hlt⟩
      obtain ⟨b, o, rfl, hbl, c0, c1, c2, c3⟩ := (H.out.kept hRB.below).cell_at hx
      have j0 : (0 : Int) ≤ (k : Int) := by omega
      have j1 : (k : Int) < (l.length : Int) := by omega
      have hcx := (checkL_ok HC.out).1 x (List.mem_of_getElem? hx)
      obtain ⟨hks, hvs⟩ := check_sizes hcx
      have hsq := check_seq hcx
      obtain ⟨q, hq⟩ : ∃ q : Nat, x.seq = (q : Int) := ⟨x.seq.toNat, by have := hs x (List.mem_of_getElem? hx); omega⟩
      rw [hq] at c1 hsq
      have HQ := Lib.hid hq
      have HX := Lib.hid hx
      clear hx hcx hq
      by_cases hkr : k % r = 0
      · have hm0 : (k : Int) % (r : Int) = 0 := by
          have : ((k % r : Nat) : Int) = 0 := by rw [hkr]; rfl
          simpa using this
        have p1 : (startsI l r k).length + 1 ≤ maxLen := by have := startsI_len l r k; unfold maxLen; omega
        have p2 : ((startsI l r k).length + 1) * 8 ≤ 140737488355328 := by have := startsI_len l r k; omega
        have p3 : w.heap.size ≤ ((wr.alloc (.cells #[.string x.key, .int .u64 q, .string x.val, .bool x.gone] 25)).alloc (.cells #[.int .i64 ((bodyN l r k).length : Int)] 3)).heap.size := by have := hRB.below.size; simp; omega
        have hBx := Blk.new wr #[.string x.key, .int .u64 q, .string x.val, .bool x.gone] 25
        have h0 := hRB.kept ((Below.refl _ _).alloc (Nat.le_refl _) (.cells #[.string x.key, .int .u64 q, .string x.val, .bool x.gone] 25))
        have h0' := h0.kept ((Below.refl _ _).alloc (Nat.le_refl _) (.cells #[.int .i64 ((bodyN l r k).length : Int)] 3))
        obtain ⟨Ab, cb, rfl⟩ := (Reads.of_own hRB.own1).form
        have HG := Lib.hid h0'
        have HBX := Lib.hid (hBx.alloc (.cells #[.int .i64 ((bodyN l r k).length : Int)] 3))
        clear hRB h0 h0' hBx
        go_upto_region 15 with (at_builtin; refine wpList_append_row rfl _ _ 42 rfl w.heap.size 3 i0 (.int .i64 0) 1 8 Try.underlying42 hi hz0 hz1 hz2 rfl (by decide) u8 _ _ rfl HG.out.own2 ⟨wr.heap.size + 1, 0, none⟩ 1 1 [.int .i64 ((bodyN l r k).length : Int)] rfl rfl (by have := cell_one_new (wr.alloc (.cells #[.string x.key, .int .u64 q, .string x.val, .bool x.gone] 25)) (.int .i64 ((bodyN l r k).length : Int)) 3; rw [World.size_alloc] at this; exact this) (by simp [Value.oneCell']) p1 p2 p3 ?_; intro st' w4 own4 hgr hfr)
        have R4 := HG.out.start own4 hgr
        rw [← startsI_yes l r k hkr] at R4
        have B4 := grown_other HG.out.own2 hgr HBX.out (by decide)
        have T4 : shAt l r k = 0 := by unfold shAt; rw [if_pos hkr]
        have hnk : 0 ≤ x.key.size := Nat.zero_le _
        clear own4 hgr hfr p1 p2 p3
        obtain ⟨m, hm⟩ : ∃ m, x.key.size - 0 = m := ⟨_, rfl⟩
        have hsb : (x.key.size : Int) - 0 = (m : Int) := by omega
        have hm1 : m ≤ 128 := by omega
        have hn1 : 0 ≤ 128 := by omega
        have HM := Lib.hid hm
        have HN := Lib.hid T4
        have hl1 := hL
        obtain ⟨L1, hL1⟩ : ∃ L1, bodyN l r k = L1 := ⟨_, rfl⟩
        rw [hL1] at R4 hl1 ⊢
        have HE1 := Lib.hid hL1
        clear hm T4 hL1 hL
        obtain ⟨y0, y1, y2, y3⟩ := cell4 B4
        have R1 := R4
        have B1 := B4
        clear R4 B4
        cases hgn : x.gone with
        | true =>
          rw [hgn] at y3
          go_wp2_with fail
          refine (ref_varint 0 (by omega) _).mono ?_
          rintro e u1 ⟨rfl, hb1⟩
          have Q1 := R1.kept hb1
          have C1 := B1.kept hb1
          have V1 := varN_len 9 (0) (by omega)
          clear y0 y1 y2 y3
          obtain ⟨y0, y1, y2, y3⟩ := cell4 C1
          have P1 : L1.length + (ByteArray.mk (varN 0).toArray).size ≤ maxLen := by have e1 : (ByteArray.mk (varN 0).toArray).size = (varN 0).length := rfl; rw [e1]; unfold maxLen; omega
          have P2 : L1.length + (ByteArray.mk (varN 0).toArray).size ≤ 140737488355328 := by have e1 : (ByteArray.mk (varN 0).toArray).size = (varN 0).length := rfl; rw [e1]; omega
          go_wp2_with (at_builtin; refine Lib.wpList_append_own_string _ rfl _ _ 74 9 rfl w.heap.size 5 i1 Try.underlying74 Try.underlying9 hi' hy0 hy1 hy2 _ L1.length (bv L1) rfl Q1.own1 (ByteArray.mk (varN 0).toArray) rfl P1 P2 Q1.below.size ?_)
          intro vb2 w2 ow hgr _
          have R2 := Q1.app (d := varN 0) ow rfl hgr
          have B2 := grown_other Q1.own1 hgr C1 (by decide)
          obtain ⟨L2, hL2⟩ : ∃ L2, L1 ++ varN 0 = L2 := ⟨_, rfl⟩
          have ll2 := @List.length_append _ L1 (varN 0)
          have hl2 : L2.length ≤ 65546 := by rw [← hL2, ll2]; omega
          rw [hL2] at R2
          clear ow hgr
          obtain ⟨A2, cp2, rfl⟩ := (Reads.of_own R2.own1).form
          have HE2 := Lib.hid hL2
          clear hL2 ll2 y0 y1 y2 y3 P1 P2 Q1 C1 R1 B1
          obtain ⟨y0, y1, y2, y3⟩ := cell4 B2
          go_wp2_with fail
          refine (ref_varint m (by omega) _).mono ?_
          rintro e u2 ⟨rfl, hb2⟩
          have Q2 := R2.kept hb2
          have C2 := B2.kept hb2
          have V2 := varN_len 9 (m) (by omega)
          clear y0 y1 y2 y3
          obtain ⟨y0, y1, y2, y3⟩ := cell4 C2
          have P1 : L2.length + (ByteArray.mk (varN m).toArray).size ≤ maxLen := by have e1 : (ByteArray.mk (varN m).toArray).size = (varN m).length := rfl; rw [e1]; unfold maxLen; omega
          have P2 : L2.length + (ByteArray.mk (varN m).toArray).size ≤ 140737488355328 := by have e1 : (ByteArray.mk (varN m).toArray).size = (varN m).length := rfl; rw [e1]; omega
          go_wp2_with (at_builtin; refine Lib.wpList_append_own_string _ rfl _ _ 74 9 rfl w.heap.size 5 i1 Try.underlying74 Try.underlying9 hi' hy0 hy1 hy2 _ L2.length (bv L2) rfl Q2.own1 (ByteArray.mk (varN m).toArray) rfl P1 P2 Q2.below.size ?_)
          intro vb3 w3 ow hgr _
          have R3 := Q2.app (d := varN m) ow rfl hgr
          have B3 := grown_other Q2.own1 hgr C2 (by decide)
          obtain ⟨L3, hL3⟩ : ∃ L3, L2 ++ varN m = L3 := ⟨_, rfl⟩
          have ll3 := @List.length_append _ L2 (varN m)
          have hl3 : L3.length ≤ 65556 := by rw [← hL3, ll3]; omega
          rw [hL3] at R3
          clear ow hgr
          obtain ⟨A3, cp3, rfl⟩ := (Reads.of_own R3.own1).form
          have HE3 := Lib.hid hL3
          clear hL3 ll3 y0 y1 y2 y3 P1 P2 Q2 C2 R2 B2
          obtain ⟨y0, y1, y2, y3⟩ := cell4 B3
          go_wp2_with fail
          refine (ref_varint x.val.size (by omega) _).mono ?_
          rintro e u3 ⟨rfl, hb3⟩
          have Q3 := R3.kept hb3
          have C3 := B3.kept hb3
          have V3 := varN_len 9 (x.val.size) (by omega)
          clear y0 y1 y2 y3
          obtain ⟨y0, y1, y2, y3⟩ := cell4 C3
          have P1 : L3.length + (ByteArray.mk (varN x.val.size).toArray).size ≤ maxLen := by have e1 : (ByteArray.mk (varN x.val.size).toArray).size = (varN x.val.size).length := rfl; rw [e1]; unfold maxLen; omega
          have P2 : L3.length + (ByteArray.mk (varN x.val.size).toArray).size ≤ 140737488355328 := by have e1 : (ByteArray.mk (varN x.val.size).toArray).size = (varN x.val.size).length := rfl; rw [e1]; omega
          go_wp2_with (at_builtin; refine Lib.wpList_append_own_string _ rfl _ _ 74 9 rfl w.heap.size 5 i1 Try.underlying74 Try.underlying9 hi' hy0 hy1 hy2 _ L3.length (bv L3) rfl Q3.own1 (ByteArray.mk (varN x.val.size).toArray) rfl P1 P2 Q3.below.size ?_)
          intro vb4 w4 ow hgr _
          have R4 := Q3.app (d := varN x.val.size) ow rfl hgr
          have B4 := grown_other Q3.own1 hgr C3 (by decide)
          obtain ⟨L4, hL4⟩ : ∃ L4, L3 ++ varN x.val.size = L4 := ⟨_, rfl⟩
          have ll4 := @List.length_append _ L3 (varN x.val.size)
          have hl4 : L4.length ≤ 65566 := by rw [← hL4, ll4]; omega
          rw [hL4] at R4
          clear ow hgr
          obtain ⟨A4, cp4, rfl⟩ := (Reads.of_own R4.own1).form
          have HE4 := Lib.hid hL4
          clear hL4 ll4 y0 y1 y2 y3 P1 P2 Q3 C3 R3 B3
          obtain ⟨y0, y1, y2, y3⟩ := cell4 B4
          have P1 : L4.length + 1 ≤ maxLen := by unfold maxLen; omega
          have P2 : (L4.length + 1) * 1 ≤ 140737488355328 := by omega
          have Q4 := R4.kept ((Below.refl _ _).alloc (Nat.le_refl _) (.cells #[.int .u8 1] 5))
          have C4 := B4.alloc (.cells #[.int .u8 1] 5)
          have P3 := Q4.below.size
          go_wp2_with (at_builtin; refine wpList_append_row rfl _ _ 74 rfl w.heap.size 5 i1 (.int .u8 0) 1 1 Try.underlying74 hi' hy0 hy1 hy2 rfl (by decide) _ L4.length (bv L4) rfl Q4.own1 ⟨w4.heap.size, 0, none⟩ 1 1 [.int .u8 1] rfl rfl (cell_one_new _ _ _) (by simp [Value.oneCell']) P1 P2 P3 ?_)
          intro vb5 w5 ow hgr _
          have R5 := Q4.app (d := [UInt8.ofNat 1]) ow rfl hgr
          have B5 := grown_other Q4.own1 hgr C4 (by decide)
          obtain ⟨L5, hL5⟩ : ∃ L5, L4 ++ [UInt8.ofNat 1] = L5 := ⟨_, rfl⟩
          have ll5 := @List.length_append _ L4 ([UInt8.ofNat 1])
          have hl5 : L5.length ≤ 65567 := by rw [← hL5, ll5]; simp only [List.length_cons, List.length_nil]; omega
          rw [hL5] at R5
          clear ow hgr
          obtain ⟨A5, cp5, rfl⟩ := (Reads.of_own R5.own1).form
          have HE5 := Lib.hid hL5
          clear hL5 ll5 y0 y1 y2 y3 P1 P2 Q4 C4 R4 B4
          obtain ⟨y0, y1, y2, y3⟩ := cell4 B5
          go_wp2_with fail
          refine (ref_varint q (by omega) _).mono ?_
          rintro e u5 ⟨rfl, hb5⟩
          have Q5 := R5.kept hb5
          have C5 := B5.kept hb5
          have V5 := varN_len 9 (q) (by omega)
          clear y0 y1 y2 y3
          obtain ⟨y0, y1, y2, y3⟩ := cell4 C5
          have P1 : L5.length + (ByteArray.mk (varN q).toArray).size ≤ maxLen := by have e1 : (ByteArray.mk (varN q).toArray).size = (varN q).length := rfl; rw [e1]; unfold maxLen; omega
          have P2 : L5.length + (ByteArray.mk (varN q).toArray).size ≤ 140737488355328 := by have e1 : (ByteArray.mk (varN q).toArray).size = (varN q).length := rfl; rw [e1]; omega
          go_wp2_with (at_builtin; refine Lib.wpList_append_own_string _ rfl _ _ 74 9 rfl w.heap.size 5 i1 Try.underlying74 Try.underlying9 hi' hy0 hy1 hy2 _ L5.length (bv L5) rfl Q5.own1 (ByteArray.mk (varN q).toArray) rfl P1 P2 Q5.below.size ?_)
          intro vb6 w6 ow hgr _
          have R6 := Q5.app (d := varN q) ow rfl hgr
          have B6 := grown_other Q5.own1 hgr C5 (by decide)
          obtain ⟨L6, hL6⟩ : ∃ L6, L5 ++ varN q = L6 := ⟨_, rfl⟩
          have ll6 := @List.length_append _ L5 (varN q)
          have hl6 : L6.length ≤ 65577 := by rw [← hL6, ll6]; omega
          rw [hL6] at R6
          clear ow hgr
          obtain ⟨A6, cp6, rfl⟩ := (Reads.of_own R6.own1).form
          have HE6 := Lib.hid hL6
          clear hL6 ll6 y0 y1 y2 y3 P1 P2 Q5 C5 R5 B5
          obtain ⟨y0, y1, y2, y3⟩ := cell4 B6
          have hsx : (x.key).size ≤ 128 := by omega
          have hsx2 : ((x.key).data.toList).length ≤ 128 := hsx
          have P1 : L6.length + (x.key).size ≤ maxLen := by unfold maxLen; omega
          have P2 : L6.length + (x.key).size ≤ 140737488355328 := by omega
          have Q6 := R6
          have C6 := B6
          go_wp2_with (at_builtin; refine Lib.wpList_append_own_string _ rfl _ _ 74 9 rfl w.heap.size 5 i1 Try.underlying74 Try.underlying9 hi' hy0 hy1 hy2 _ L6.length (bv L6) rfl Q6.own1 (x.key) rfl P1 P2 Q6.below.size ?_)
          intro vb7 w7 ow hgr _
          have R7 := Q6.app (d := (x.key).data.toList) ow (by first | rfl | (rw [extract_drop, List.length_drop]; rfl)) hgr
          have B7 := grown_other Q6.own1 hgr C6 (by decide)
          obtain ⟨L7, hL7⟩ : ∃ L7, L6 ++ (x.key).data.toList = L7 := ⟨_, rfl⟩
          have ll7 := @List.length_append _ L6 ((x.key).data.toList)
          have hl7 : L7.length ≤ 65705 := by rw [← hL7, ll7]; omega
          rw [hL7] at R7
          clear ow hgr
          obtain ⟨A7, cp7, rfl⟩ := (Reads.of_own R7.own1).form
          have HE7 := Lib.hid hL7
          clear hL7 ll7 y0 y1 y2 y3 P1 P2 Q6 C6 R6 B6
          obtain ⟨y0, y1, y2, y3⟩ := cell4 B7
          have hsx : (x.val).size ≤ 1024 := by omega
          have hsx2 : ((x.val).data.toList).length ≤ 1024 := hsx
          have P1 : L7.length + (x.val).size ≤ maxLen := by unfold maxLen; omega
          have P2 : L7.length + (x.val).size ≤ 140737488355328 := by omega
          have Q7 := R7
          have C7 := B7
          go_wp2_with (at_builtin; refine Lib.wpList_append_own_string _ rfl _ _ 74 9 rfl w.heap.size 5 i1 Try.underlying74 Try.underlying9 hi' hy0 hy1 hy2 _ L7.length (bv L7) rfl Q7.own1 (x.val) rfl P1 P2 Q7.below.size ?_)
          intro vb8 w8 ow hgr _
          have R8 := Q7.app (d := (x.val).data.toList) ow (by first | rfl | (rw [extract_drop, List.length_drop]; rfl)) hgr
          have B8 := grown_other Q7.own1 hgr C7 (by decide)
          obtain ⟨L8, hL8⟩ : ∃ L8, L7 ++ (x.val).data.toList = L8 := ⟨_, rfl⟩
          have ll8 := @List.length_append _ L7 ((x.val).data.toList)
          have hl8 : L8.length ≤ 66729 := by rw [← hL8, ll8]; omega
          rw [hL8] at R8
          clear ow hgr
          obtain ⟨A8, cp8, rfl⟩ := (Reads.of_own R8.own1).form
          have HE8 := Lib.hid hL8
          clear hL8 ll8 y0 y1 y2 y3 P1 P2 Q7 C7 R7 B7
          obtain ⟨y0, y1, y2, y3⟩ := cell4 B8
          have hfin : L8 = bodyN l r (k + 1) := by
            have h := body_step HX.out HN.out HM.out HQ.out
            rw [hgn, HE1.out, extract_drop, List.drop_zero] at h
            rw [← h, ← HE8.out, ← HE7.out, ← HE6.out, ← HE5.out, ← HE4.out, ← HE3.out, ← HE2.out]
            rfl
          have HF := Lib.hid hfin
          clear hfin
          by_cases hbig : 65536 < L8.length
          · have hbi : (65536 : Int) < (L8.length : Int) := by omega
            have HB := Lib.hid (show buildN l (r : Int) = ([], 3) by
              rw [HBN.out, if_neg]
              have := bodyN_mono l r (show k + 1 ≤ l.length by omega)
              rw [blockN_len]
              rw [HF.out] at hbig
              omega)
            have hbel := R8.below
            go_wp2_with fail
            go_ret2
            exact ⟨by rw [HB.out]; rfl, hbel⟩
          · have hbi : ¬ (65536 : Int) < (L8.length : Int) := by omega
            have HR8 := Lib.hid R8
            clear R8
            go_wp2_with fail
            go_roundw
            case rel => exact ⟨k + 1, by omega, by go_num, by rw [← HF.out]; exact HR8.out, by rw [← HF.out]; omega⟩
            case measure => simp [intOf]; omega
        | false =>
          rw [hgn] at y3
          go_wp2_with fail
          refine (ref_varint 0 (by omega) _).mono ?_
          rintro e u1 ⟨rfl, hb1⟩
          have Q1 := R1.kept hb1
          have C1 := B1.kept hb1
          have V1 := varN_len 9 (0) (by omega)
          clear y0 y1 y2 y3
          obtain ⟨y0, y1, y2, y3⟩ := cell4 C1
          have P1 : L1.length + (ByteArray.mk (varN 0).toArray).size ≤ maxLen := by have e1 : (ByteArray.mk (varN 0).toArray).size = (varN 0).length := rfl; rw [e1]; unfold maxLen; omega
          have P2 : L1.length + (ByteArray.mk (varN 0).toArray).size ≤ 140737488355328 := by have e1 : (ByteArray.mk (varN 0).toArray).size = (varN 0).length := rfl; rw [e1]; omega
          go_wp2_with (at_builtin; refine Lib.wpList_append_own_string _ rfl _ _ 74 9 rfl w.heap.size 5 i1 Try.underlying74 Try.underlying9 hi' hy0 hy1 hy2 _ L1.length (bv L1) rfl Q1.own1 (ByteArray.mk (varN 0).toArray) rfl P1 P2 Q1.below.size ?_)
          intro vb2 w2 ow hgr _
          have R2 := Q1.app (d := varN 0) ow rfl hgr
          have B2 := grown_other Q1.own1 hgr C1 (by decide)
          obtain ⟨L2, hL2⟩ : ∃ L2, L1 ++ varN 0 = L2 := ⟨_, rfl⟩
          have ll2 := @List.length_append _ L1 (varN 0)
          have hl2 : L2.length ≤ 65546 := by rw [← hL2, ll2]; omega
          rw [hL2] at R2
          clear ow hgr
          obtain ⟨A2, cp2, rfl⟩ := (Reads.of_own R2.own1).form
          have HE2 := Lib.hid hL2
          clear hL2 ll2 y0 y1 y2 y3 P1 P2 Q1 C1 R1 B1
          obtain ⟨y0, y1, y2, y3⟩ := cell4 B2
          go_wp2_with fail
          refine (ref_varint m (by omega) _).mono ?_
          rintro e u2 ⟨rfl, hb2⟩
          have Q2 := R2.kept hb2
          have C2 := B2.kept hb2
          have V2 := varN_len 9 (m) (by omega)
          clear y0 y1 y2 y3
          obtain ⟨y0, y1, y2, y3⟩ := cell4 C2
          have P1 : L2.length + (ByteArray.mk (varN m).toArray).size ≤ maxLen := by have e1 : (ByteArray.mk (varN m).toArray).size = (varN m).length := rfl; rw [e1]; unfold maxLen; omega
          have P2 : L2.length + (ByteArray.mk (varN m).toArray).size ≤ 140737488355328 := by have e1 : (ByteArray.mk (varN m).toArray).size = (varN m).length := rfl; rw [e1]; omega
          go_wp2_with (at_builtin; refine Lib.wpList_append_own_string _ rfl _ _ 74 9 rfl w.heap.size 5 i1 Try.underlying74 Try.underlying9 hi' hy0 hy1 hy2 _ L2.length (bv L2) rfl Q2.own1 (ByteArray.mk (varN m).toArray) rfl P1 P2 Q2.below.size ?_)
          intro vb3 w3 ow hgr _
          have R3 := Q2.app (d := varN m) ow rfl hgr
          have B3 := grown_other Q2.own1 hgr C2 (by decide)
          obtain ⟨L3, hL3⟩ : ∃ L3, L2 ++ varN m = L3 := ⟨_, rfl⟩
          have ll3 := @List.length_append _ L2 (varN m)
          have hl3 : L3.length ≤ 65556 := by rw [← hL3, ll3]; omega
          rw [hL3] at R3
          clear ow hgr
          obtain ⟨A3, cp3, rfl⟩ := (Reads.of_own R3.own1).form
          have HE3 := Lib.hid hL3
          clear hL3 ll3 y0 y1 y2 y3 P1 P2 Q2 C2 R2 B2
          obtain ⟨y0, y1, y2, y3⟩ := cell4 B3
          go_wp2_with fail
          refine (ref_varint x.val.size (by omega) _).mono ?_
          rintro e u3 ⟨rfl, hb3⟩
          have Q3 := R3.kept hb3
          have C3 := B3.kept hb3
          have V3 := varN_len 9 (x.val.size) (by omega)
          clear y0 y1 y2 y3
          obtain ⟨y0, y1, y2, y3⟩ := cell4 C3
          have P1 : L3.length + (ByteArray.mk (varN x.val.size).toArray).size ≤ maxLen := by have e1 : (ByteArray.mk (varN x.val.size).toArray).size = (varN x.val.size).length := rfl; rw [e1]; unfold maxLen; omega
          have P2 : L3.length + (ByteArray.mk (varN x.val.size).toArray).size ≤ 140737488355328 := by have e1 : (ByteArray.mk (varN x.val.size).toArray).size = (varN x.val.size).length := rfl; rw [e1]; omega
          go_wp2_with (at_builtin; refine Lib.wpList_append_own_string _ rfl _ _ 74 9 rfl w.heap.size 5 i1 Try.underlying74 Try.underlying9 hi' hy0 hy1 hy2 _ L3.length (bv L3) rfl Q3.own1 (ByteArray.mk (varN x.val.size).toArray) rfl P1 P2 Q3.below.size ?_)
          intro vb4 w4 ow hgr _
          have R4 := Q3.app (d := varN x.val.size) ow rfl hgr
          have B4 := grown_other Q3.own1 hgr C3 (by decide)
          obtain ⟨L4, hL4⟩ : ∃ L4, L3 ++ varN x.val.size = L4 := ⟨_, rfl⟩
          have ll4 := @List.length_append _ L3 (varN x.val.size)
          have hl4 : L4.length ≤ 65566 := by rw [← hL4, ll4]; omega
          rw [hL4] at R4
          clear ow hgr
          obtain ⟨A4, cp4, rfl⟩ := (Reads.of_own R4.own1).form
          have HE4 := Lib.hid hL4
          clear hL4 ll4 y0 y1 y2 y3 P1 P2 Q3 C3 R3 B3
          obtain ⟨y0, y1, y2, y3⟩ := cell4 B4
          have P1 : L4.length + 1 ≤ maxLen := by unfold maxLen; omega
          have P2 : (L4.length + 1) * 1 ≤ 140737488355328 := by omega
          have Q4 := R4.kept ((Below.refl _ _).alloc (Nat.le_refl _) (.cells #[.int .u8 0] 5))
          have C4 := B4.alloc (.cells #[.int .u8 0] 5)
          have P3 := Q4.below.size
          go_wp2_with (at_builtin; refine wpList_append_row rfl _ _ 74 rfl w.heap.size 5 i1 (.int .u8 0) 1 1 Try.underlying74 hi' hy0 hy1 hy2 rfl (by decide) _ L4.length (bv L4) rfl Q4.own1 ⟨w4.heap.size, 0, none⟩ 1 1 [.int .u8 0] rfl rfl (cell_one_new _ _ _) (by simp [Value.oneCell']) P1 P2 P3 ?_)
          intro vb5 w5 ow hgr _
          have R5 := Q4.app (d := [UInt8.ofNat 0]) ow rfl hgr
          have B5 := grown_other Q4.own1 hgr C4 (by decide)
          obtain ⟨L5, hL5⟩ : ∃ L5, L4 ++ [UInt8.ofNat 0] = L5 := ⟨_, rfl⟩
          have ll5 := @List.length_append _ L4 ([UInt8.ofNat 0])
          have hl5 : L5.length ≤ 65567 := by rw [← hL5, ll5]; simp only [List.length_cons, List.length_nil]; omega
          rw [hL5] at R5
          clear ow hgr
          obtain ⟨A5, cp5, rfl⟩ := (Reads.of_own R5.own1).form
          have HE5 := Lib.hid hL5
          clear hL5 ll5 y0 y1 y2 y3 P1 P2 Q4 C4 R4 B4
          obtain ⟨y0, y1, y2, y3⟩ := cell4 B5
          go_wp2_with fail
          refine (ref_varint q (by omega) _).mono ?_
          rintro e u5 ⟨rfl, hb5⟩
          have Q5 := R5.kept hb5
          have C5 := B5.kept hb5
          have V5 := varN_len 9 (q) (by omega)
          clear y0 y1 y2 y3
          obtain ⟨y0, y1, y2, y3⟩ := cell4 C5
          have P1 : L5.length + (ByteArray.mk (varN q).toArray).size ≤ maxLen := by have e1 : (ByteArray.mk (varN q).toArray).size = (varN q).length := rfl; rw [e1]; unfold maxLen; omega
          have P2 : L5.length + (ByteArray.mk (varN q).toArray).size ≤ 140737488355328 := by have e1 : (ByteArray.mk (varN q).toArray).size = (varN q).length := rfl; rw [e1]; omega
          go_wp2_with (at_builtin; refine Lib.wpList_append_own_string _ rfl _ _ 74 9 rfl w.heap.size 5 i1 Try.underlying74 Try.underlying9 hi' hy0 hy1 hy2 _ L5.length (bv L5) rfl Q5.own1 (ByteArray.mk (varN q).toArray) rfl P1 P2 Q5.below.size ?_)
          intro vb6 w6 ow hgr _
          have R6 := Q5.app (d := varN q) ow rfl hgr
          have B6 := grown_other Q5.own1 hgr C5 (by decide)
          obtain ⟨L6, hL6⟩ : ∃ L6, L5 ++ varN q = L6 := ⟨_, rfl⟩
          have ll6 := @List.length_append _ L5 (varN q)
          have hl6 : L6.length ≤ 65577 := by rw [← hL6, ll6]; omega
          rw [hL6] at R6
          clear ow hgr
          obtain ⟨A6, cp6, rfl⟩ := (Reads.of_own R6.own1).form
          have HE6 := Lib.hid hL6
          clear hL6 ll6 y0 y1 y2 y3 P1 P2 Q5 C5 R5 B5
          obtain ⟨y0, y1, y2, y3⟩ := cell4 B6
          have hsx : (x.key).size ≤ 128 := by omega
          have hsx2 : ((x.key).data.toList).length ≤ 128 := hsx
          have P1 : L6.length + (x.key).size ≤ maxLen := by unfold maxLen; omega
          have P2 : L6.length + (x.key).size ≤ 140737488355328 := by omega
          have Q6 := R6
          have C6 := B6
          go_wp2_with (at_builtin; refine Lib.wpList_append_own_string _ rfl _ _ 74 9 rfl w.heap.size 5 i1 Try.underlying74 Try.underlying9 hi' hy0 hy1 hy2 _ L6.length (bv L6) rfl Q6.own1 (x.key) rfl P1 P2 Q6.below.size ?_)
          intro vb7 w7 ow hgr _
          have R7 := Q6.app (d := (x.key).data.toList) ow (by first | rfl | (rw [extract_drop, List.length_drop]; rfl)) hgr
          have B7 := grown_other Q6.own1 hgr C6 (by decide)
          obtain ⟨L7, hL7⟩ : ∃ L7, L6 ++ (x.key).data.toList = L7 := ⟨_, rfl⟩
          have ll7 := @List.length_append _ L6 ((x.key).data.toList)
          have hl7 : L7.length ≤ 65705 := by rw [← hL7, ll7]; omega
          rw [hL7] at R7
          clear ow hgr
          obtain ⟨A7, cp7, rfl⟩ := (Reads.of_own R7.own1).form
          have HE7 := Lib.hid hL7
          clear hL7 ll7 y0 y1 y2 y3 P1 P2 Q6 C6 R6 B6
          obtain ⟨y0, y1, y2, y3⟩ := cell4 B7
          have hsx : (x.val).size ≤ 1024 := by omega
          have hsx2 : ((x.val).data.toList).length ≤ 1024 := hsx
          have P1 : L7.length + (x.val).size ≤ maxLen := by unfold maxLen; omega
          have P2 : L7.length + (x.val).size ≤ 140737488355328 := by omega
          have Q7 := R7
          have C7 := B7
          go_wp2_with (at_builtin; refine Lib.wpList_append_own_string _ rfl _ _ 74 9 rfl w.heap.size 5 i1 Try.underlying74 Try.underlying9 hi' hy0 hy1 hy2 _ L7.length (bv L7) rfl Q7.own1 (x.val) rfl P1 P2 Q7.below.size ?_)
          intro vb8 w8 ow hgr _
          have R8 := Q7.app (d := (x.val).data.toList) ow (by first | rfl | (rw [extract_drop, List.length_drop]; rfl)) hgr
          have B8 := grown_other Q7.own1 hgr C7 (by decide)
          obtain ⟨L8, hL8⟩ : ∃ L8, L7 ++ (x.val).data.toList = L8 := ⟨_, rfl⟩
          have ll8 := @List.length_append _ L7 ((x.val).data.toList)
          have hl8 : L8.length ≤ 66729 := by rw [← hL8, ll8]; omega
          rw [hL8] at R8
          clear ow hgr
          obtain ⟨A8, cp8, rfl⟩ := (Reads.of_own R8.own1).form
          have HE8 := Lib.hid hL8
          clear hL8 ll8 y0 y1 y2 y3 P1 P2 Q7 C7 R7 B7
          obtain ⟨y0, y1, y2, y3⟩ := cell4 B8
          have hfin : L8 = bodyN l r (k + 1) := by
            have h := body_step HX.out HN.out HM.out HQ.out
            rw [hgn, HE1.out, extract_drop, List.drop_zero] at h
            rw [← h, ← HE8.out, ← HE7.out, ← HE6.out, ← HE5.out, ← HE4.out, ← HE3.out, ← HE2.out]
            rfl
          have HF := Lib.hid hfin
          clear hfin
          by_cases hbig : 65536 < L8.length
          · have hbi : (65536 : Int) < (L8.length : Int) := by omega
            have HB := Lib.hid (show buildN l (r : Int) = ([], 3) by
              rw [HBN.out, if_neg]
              have := bodyN_mono l r (show k + 1 ≤ l.length by omega)
              rw [blockN_len]
              rw [HF.out] at hbig
              omega)
            have hbel := R8.below
            go_wp2_with fail
            go_ret2
            exact ⟨by rw [HB.out]; rfl, hbel⟩
          · have hbi : ¬ (65536 : Int) < (L8.length : Int) := by omega
            have HR8 := Lib.hid R8
            clear R8
            go_wp2_with fail
            go_roundw
            case rel => exact ⟨k + 1, by omega, by go_num, by rw [← HF.out]; exact HR8.out, by rw [← HF.out]; omega⟩
            case measure => simp [intOf]; omega
      · have hm0 : ¬ (k : Int) % (r : Int) = 0 := by
          intro h
          have : ((k % r : Nat) : Int) = 0 := by simpa using h
          omega
        have hk0 : 0 < k := by
          rcases Nat.eq_zero_or_pos k with h | h
          · subst h; exact absurd (Nat.zero_mod r) hkr
          · exact h
        obtain ⟨k1, rfl⟩ : ∃ k1, k = k1 + 1 := ⟨k - 1, by omega⟩
        obtain ⟨y, hy⟩ : ∃ y, l[k1]? = some y := ⟨_, List.getElem?_eq_getElem (by omega)⟩
        obtain ⟨b', o', e', _, d0, d1, d2, d3⟩ := (H.out.kept hRB.below).cell_at hy
        cases e'
        have hy128 := (check_sizes ((checkL_ok HC.out).1 y (List.mem_of_getElem? hy))).1
        have T4' : sharedN y.key.data.toList x.key.data.toList = shAt l r (k1 + 1) := by
          unfold shAt keyAt
          rw [if_neg hkr, Nat.add_sub_cancel, hy, HX.out]
          rfl
        obtain ⟨n, hn⟩ : ∃ n, shAt l r (k1 + 1) = n := ⟨_, rfl⟩
        have hnk : n ≤ x.key.size := by rw [← hn, ← T4']; exact sharedN_le_right _ _
        rw [hn] at T4'
        have T4'' := Lib.hid T4'
        have hm1' : ¬ ((k1 : Int) + 1) % (r : Int) = 0 := by have h := hm0; rw [Int.natCast_add] at h; exact h
        have g0 : (0 : Int) ≤ (k1 : Int) := by omega
        have g1 : (k1 : Int) < (l.length : Int) := by omega
        have hw1 : IntKind.i64.wrap ((k1 : Int) + 1 - 1) = (k1 : Int) := by
          rw [show (k1 : Int) + 1 - 1 = (k1 : Int) by omega]; exact IntWalk.i64_in _ (by omega)
        have hw2 : IntKind.i64.wrap (k1 : Int) = (k1 : Int) := IntWalk.i64_in _ (by omega)
        have hBx := Blk.new wr #[.string x.key, .int .u64 q, .string x.val, .bool x.gone] 25
        have h0 := hRB.kept ((Below.refl _ _).alloc (Nat.le_refl _) (.cells #[.string x.key, .int .u64 q, .string x.val, .bool x.gone] 25))
        obtain ⟨Ab, cb, rfl⟩ := (Reads.of_own hRB.own1).form
        have hba : Below wr.heap.size wr (wr.alloc (.cells #[.string x.key, .int .u64 q, .string x.val, .bool x.gone] 25)).drew := ((Below.refl _ _).alloc (Nat.le_refl _) _).drew
        have e0 := cell_keep hba d0
        have f0 := hBx.drew.cell 0 _ rfl
        have HG := Lib.hid h0
        have HN4 := Lib.hid hn
        clear hRB h0 T4' hy hn
        go_wp2_with fail
        refine region_plan (S := fun w' => w'.cell? ⟨b, o + k1 * 4, none⟩ = some (.string y.key) ∧ w'.cell? ⟨wr.heap.size, 0, none⟩ = some (.string x.key))
          ((0, true) :: (1, true) :: (2, true) :: (3, true) :: (4, true) :: (5, true) :: (6, true) :: (7, true) :: (8, false) :: (9, true) :: [])
          (by kernel_rfl) (by kernel_rfl) (by kernel_rfl) (by kernel_rfl) (fun _ _ _ dst _ h => by cases dst <;> exact h) ⟨e0, f0⟩ (fun hH => ?_)
        (repeat (first | (refine plan_take (v := ?_) (by (simp only [List.getElem?_toArray, List.getElem?_cons_succ, List.getElem?_cons_zero]; exact rfl)) (by rfl) ?_ ?_; rotate_left; (focus (intro wS hS; (try dsimp only at hS); go_split_ands; go_simp; (try with_reducible rfl))); simp only [Act.put, List.setIfInBounds_toArray, List.set_cons_zero, List.set_cons_succ]) | (refine plan_skip (by (simp only [List.getElem?_toArray, List.getElem?_cons_succ, List.getElem?_cons_zero]; exact rfl)) (by rfl) ?_; simp only [Act.put, List.setIfInBounds_toArray, List.set_cons_zero, List.set_cons_succ])))
        (refine plan_solo (by (simp only [List.getElem?_toArray, List.getElem?_cons_succ, List.getElem?_cons_zero]; exact rfl)) (by rfl) ?_; intro K hK; go_simp)
        refine (ref_shared y.key x.key (by omega) _).mono ?_
        rintro e w4 ⟨rfl, hb4⟩
        rw [T4''.out]
        refine hK.out _ _ ⟨cell_keep hb4 e0, cell_keep hb4 f0⟩ (fun hH => ?_)
        clear hK K
        try simp only [Act.put, List.setIfInBounds_toArray, List.set_cons_zero, List.set_cons_succ]
        (repeat (first | (refine plan_take (v := ?_) (by (simp only [List.getElem?_toArray, List.getElem?_cons_succ, List.getElem?_cons_zero]; exact rfl)) (by rfl) ?_ ?_; rotate_left; (focus (intro wS hS; (try dsimp only at hS); go_split_ands; go_simp; (try with_reducible rfl))); simp only [Act.put, List.setIfInBounds_toArray, List.set_cons_zero, List.set_cons_succ]) | (refine plan_skip (by (simp only [List.getElem?_toArray, List.getElem?_cons_succ, List.getElem?_cons_zero]; exact rfl)) (by rfl) ?_; simp only [Act.put, List.setIfInBounds_toArray, List.set_cons_zero, List.set_cons_succ])))
        refine plan_nil ?_
        have R4 := (HG.out.kept (Below.refl _ _).drew).kept hb4
        rw [← startsI_no l r (k1 + 1) hkr] at R4
        have B4 := hBx.drew.kept hb4
        have T4 := HN4.out
        clear d0 d1 d2 d3 e0 f0 hBx c0 c1 c2 c3
        obtain ⟨m, hm⟩ : ∃ m, x.key.size - n = m := ⟨_, rfl⟩
        have hsb : (x.key.size : Int) - (n : Int) = (m : Int) := by omega
        have hm1 : m ≤ 128 := by omega
        have hn1 : n ≤ 128 := by omega
        have HM := Lib.hid hm
        have HN := Lib.hid T4
        have hl1 := hL
        obtain ⟨L1, hL1⟩ : ∃ L1, bodyN l r (k1 + 1) = L1 := ⟨_, rfl⟩
        rw [hL1] at R4 hl1 ⊢
        have HE1 := Lib.hid hL1
        clear hm T4 hL1 hL
        obtain ⟨y0, y1, y2, y3⟩ := cell4 B4
        have R1 := R4
        have B1 := B4
        clear R4 B4
        cases hgn : x.gone with
        | true =>
          rw [hgn] at y3
          go_wp2_with fail
          refine (ref_varint n (by omega) _).mono ?_
          rintro e u1 ⟨rfl, hb1⟩
          have Q1 := R1.kept hb1
          have C1 := B1.kept hb1
          have V1 := varN_len 9 (n) (by omega)
          clear y0 y1 y2 y3
          obtain ⟨y0, y1, y2, y3⟩ := cell4 C1
          have P1 : L1.length + (ByteArray.mk (varN n).toArray).size ≤ maxLen := by have e1 : (ByteArray.mk (varN n).toArray).size = (varN n).length := rfl; rw [e1]; unfold maxLen; omega
          have P2 : L1.length + (ByteArray.mk (varN n).toArray).size ≤ 140737488355328 := by have e1 : (ByteArray.mk (varN n).toArray).size = (varN n).length := rfl; rw [e1]; omega
          go_wp2_with (at_builtin; refine Lib.wpList_append_own_string _ rfl _ _ 74 9 rfl w.heap.size 5 i1 Try.underlying74 Try.underlying9 hi' hy0 hy1 hy2 _ L1.length (bv L1) rfl Q1.own1 (ByteArray.mk (varN n).toArray) rfl P1 P2 Q1.below.size ?_)
          intro vb2 w2 ow hgr _
          have R2 := Q1.app (d := varN n) ow rfl hgr
          have B2 := grown_other Q1.own1 hgr C1 (by decide)
          obtain ⟨L2, hL2⟩ : ∃ L2, L1 ++ varN n = L2 := ⟨_, rfl⟩
          have ll2 := @List.length_append _ L1 (varN n)
          have hl2 : L2.length ≤ 65546 := by rw [← hL2, ll2]; omega
          rw [hL2] at R2
          clear ow hgr
          obtain ⟨A2, cp2, rfl⟩ := (Reads.of_own R2.own1).form
          have HE2 := Lib.hid hL2
          clear hL2 ll2 y0 y1 y2 y3 P1 P2 Q1 C1 R1 B1
          obtain ⟨y0, y1, y2, y3⟩ := cell4 B2
          go_wp2_with fail
          refine (ref_varint m (by omega) _).mono ?_
          rintro e u2 ⟨rfl, hb2⟩
          have Q2 := R2.kept hb2
          have C2 := B2.kept hb2
          have V2 := varN_len 9 (m) (by omega)
          clear y0 y1 y2 y3
          obtain ⟨y0, y1, y2, y3⟩ := cell4 C2
          have P1 : L2.length + (ByteArray.mk (varN m).toArray).size ≤ maxLen := by have e1 : (ByteArray.mk (varN m).toArray).size = (varN m).length := rfl; rw [e1]; unfold maxLen; omega
          have P2 : L2.length + (ByteArray.mk (varN m).toArray).size ≤ 140737488355328 := by have e1 : (ByteArray.mk (varN m).toArray).size = (varN m).length := rfl; rw [e1]; omega
          go_wp2_with (at_builtin; refine Lib.wpList_append_own_string _ rfl _ _ 74 9 rfl w.heap.size 5 i1 Try.underlying74 Try.underlying9 hi' hy0 hy1 hy2 _ L2.length (bv L2) rfl Q2.own1 (ByteArray.mk (varN m).toArray) rfl P1 P2 Q2.below.size ?_)
          intro vb3 w3 ow hgr _
          have R3 := Q2.app (d := varN m) ow rfl hgr
          have B3 := grown_other Q2.own1 hgr C2 (by decide)
          obtain ⟨L3, hL3⟩ : ∃ L3, L2 ++ varN m = L3 := ⟨_, rfl⟩
          have ll3 := @List.length_append _ L2 (varN m)
          have hl3 : L3.length ≤ 65556 := by rw [← hL3, ll3]; omega
          rw [hL3] at R3
          clear ow hgr
          obtain ⟨A3, cp3, rfl⟩ := (Reads.of_own R3.own1).form
          have HE3 := Lib.hid hL3
          clear hL3 ll3 y0 y1 y2 y3 P1 P2 Q2 C2 R2 B2
          obtain ⟨y0, y1, y2, y3⟩ := cell4 B3
          go_wp2_with fail
          refine (ref_varint x.val.size (by omega) _).mono ?_
          rintro e u3 ⟨rfl, hb3⟩
          have Q3 := R3.kept hb3
          have C3 := B3.kept hb3
          have V3 := varN_len 9 (x.val.size) (by omega)
          clear y0 y1 y2 y3
          obtain ⟨y0, y1, y2, y3⟩ := cell4 C3
          have P1 : L3.length + (ByteArray.mk (varN x.val.size).toArray).size ≤ maxLen := by have e1 : (ByteArray.mk (varN x.val.size).toArray).size = (varN x.val.size).length := rfl; rw [e1]; unfold maxLen; omega
          have P2 : L3.length + (ByteArray.mk (varN x.val.size).toArray).size ≤ 140737488355328 := by have e1 : (ByteArray.mk (varN x.val.size).toArray).size = (varN x.val.size).length := rfl; rw [e1]; omega
          go_wp2_with (at_builtin; refine Lib.wpList_append_own_string _ rfl _ _ 74 9 rfl w.heap.size 5 i1 Try.underlying74 Try.underlying9 hi' hy0 hy1 hy2 _ L3.length (bv L3) rfl Q3.own1 (ByteArray.mk (varN x.val.size).toArray) rfl P1 P2 Q3.below.size ?_)
          intro vb4 w4 ow hgr _
          have R4 := Q3.app (d := varN x.val.size) ow rfl hgr
          have B4 := grown_other Q3.own1 hgr C3 (by decide)
          obtain ⟨L4, hL4⟩ : ∃ L4, L3 ++ varN x.val.size = L4 := ⟨_, rfl⟩
          have ll4 := @List.length_append _ L3 (varN x.val.size)
          have hl4 : L4.length ≤ 65566 := by rw [← hL4, ll4]; omega
          rw [hL4] at R4
          clear ow hgr
          obtain ⟨A4, cp4, rfl⟩ := (Reads.of_own R4.own1).form
          have HE4 := Lib.hid hL4
          clear hL4 ll4 y0 y1 y2 y3 P1 P2 Q3 C3 R3 B3
          obtain ⟨y0, y1, y2, y3⟩ := cell4 B4
          have P1 : L4.length + 1 ≤ maxLen := by unfold maxLen; omega
          have P2 : (L4.length + 1) * 1 ≤ 140737488355328 := by omega
          have Q4 := R4.kept ((Below.refl _ _).alloc (Nat.le_refl _) (.cells #[.int .u8 1] 5))
          have C4 := B4.alloc (.cells #[.int .u8 1] 5)
          have P3 := Q4.below.size
          go_wp2_with (at_builtin; refine wpList_append_row rfl _ _ 74 rfl w.heap.size 5 i1 (.int .u8 0) 1 1 Try.underlying74 hi' hy0 hy1 hy2 rfl (by decide) _ L4.length (bv L4) rfl Q4.own1 ⟨w4.heap.size, 0, none⟩ 1 1 [.int .u8 1] rfl rfl (cell_one_new _ _ _) (by simp [Value.oneCell']) P1 P2 P3 ?_)
          intro vb5 w5 ow hgr _
          have R5 := Q4.app (d := [UInt8.ofNat 1]) ow rfl hgr
          have B5 := grown_other Q4.own1 hgr C4 (by decide)
          obtain ⟨L5, hL5⟩ : ∃ L5, L4 ++ [UInt8.ofNat 1] = L5 := ⟨_, rfl⟩
          have ll5 := @List.length_append _ L4 ([UInt8.ofNat 1])
          have hl5 : L5.length ≤ 65567 := by rw [← hL5, ll5]; simp only [List.length_cons, List.length_nil]; omega
          rw [hL5] at R5
          clear ow hgr
          obtain ⟨A5, cp5, rfl⟩ := (Reads.of_own R5.own1).form
          have HE5 := Lib.hid hL5
          clear hL5 ll5 y0 y1 y2 y3 P1 P2 Q4 C4 R4 B4
          obtain ⟨y0, y1, y2, y3⟩ := cell4 B5
          go_wp2_with fail
          refine (ref_varint q (by omega) _).mono ?_
          rintro e u5 ⟨rfl, hb5⟩
          have Q5 := R5.kept hb5
          have C5 := B5.kept hb5
          have V5 := varN_len 9 (q) (by omega)
          clear y0 y1 y2 y3
          obtain ⟨y0, y1, y2, y3⟩ := cell4 C5
          have P1 : L5.length + (ByteArray.mk (varN q).toArray).size ≤ maxLen := by have e1 : (ByteArray.mk (varN q).toArray).size = (varN q).length := rfl; rw [e1]; unfold maxLen; omega
          have P2 : L5.length + (ByteArray.mk (varN q).toArray).size ≤ 140737488355328 := by have e1 : (ByteArray.mk (varN q).toArray).size = (varN q).length := rfl; rw [e1]; omega
          go_wp2_with (at_builtin; refine Lib.wpList_append_own_string _ rfl _ _ 74 9 rfl w.heap.size 5 i1 Try.underlying74 Try.underlying9 hi' hy0 hy1 hy2 _ L5.length (bv L5) rfl Q5.own1 (ByteArray.mk (varN q).toArray) rfl P1 P2 Q5.below.size ?_)
          intro vb6 w6 ow hgr _
          have R6 := Q5.app (d := varN q) ow rfl hgr
          have B6 := grown_other Q5.own1 hgr C5 (by decide)
          obtain ⟨L6, hL6⟩ : ∃ L6, L5 ++ varN q = L6 := ⟨_, rfl⟩
          have ll6 := @List.length_append _ L5 (varN q)
          have hl6 : L6.length ≤ 65577 := by rw [← hL6, ll6]; omega
          rw [hL6] at R6
          clear ow hgr
          obtain ⟨A6, cp6, rfl⟩ := (Reads.of_own R6.own1).form
          have HE6 := Lib.hid hL6
          clear hL6 ll6 y0 y1 y2 y3 P1 P2 Q5 C5 R5 B5
          obtain ⟨y0, y1, y2, y3⟩ := cell4 B6
          have hsx : ((x.key.extract n x.key.size)).size ≤ 128 := by rw [show ((x.key.extract n x.key.size)).size = x.key.size - n by rw [ByteArray.size_extract]; omega]; omega
          have hsx2 : (((x.key.extract n x.key.size)).data.toList).length ≤ 128 := hsx
          have P1 : L6.length + ((x.key.extract n x.key.size)).size ≤ maxLen := by unfold maxLen; omega
          have P2 : L6.length + ((x.key.extract n x.key.size)).size ≤ 140737488355328 := by omega
          have Q6 := R6
          have C6 := B6
          go_wp2_with (at_builtin; refine Lib.wpList_append_own_string _ rfl _ _ 74 9 rfl w.heap.size 5 i1 Try.underlying74 Try.underlying9 hi' hy0 hy1 hy2 _ L6.length (bv L6) rfl Q6.own1 ((x.key.extract n x.key.size)) rfl P1 P2 Q6.below.size ?_)
          intro vb7 w7 ow hgr _
          have R7 := Q6.app (d := ((x.key.extract n x.key.size)).data.toList) ow (by first | rfl | (rw [extract_drop, List.length_drop]; rfl)) hgr
          have B7 := grown_other Q6.own1 hgr C6 (by decide)
          obtain ⟨L7, hL7⟩ : ∃ L7, L6 ++ ((x.key.extract n x.key.size)).data.toList = L7 := ⟨_, rfl⟩
          have ll7 := @List.length_append _ L6 (((x.key.extract n x.key.size)).data.toList)
          have hl7 : L7.length ≤ 65705 := by rw [← hL7, ll7]; omega
          rw [hL7] at R7
          clear ow hgr
          obtain ⟨A7, cp7, rfl⟩ := (Reads.of_own R7.own1).form
          have HE7 := Lib.hid hL7
          clear hL7 ll7 y0 y1 y2 y3 P1 P2 Q6 C6 R6 B6
          obtain ⟨y0, y1, y2, y3⟩ := cell4 B7
          have hsx : (x.val).size ≤ 1024 := by omega
          have hsx2 : ((x.val).data.toList).length ≤ 1024 := hsx
          have P1 : L7.length + (x.val).size ≤ maxLen := by unfold maxLen; omega
          have P2 : L7.length + (x.val).size ≤ 140737488355328 := by omega
          have Q7 := R7
          have C7 := B7
          go_wp2_with (at_builtin; refine Lib.wpList_append_own_string _ rfl _ _ 74 9 rfl w.heap.size 5 i1 Try.underlying74 Try.underlying9 hi' hy0 hy1 hy2 _ L7.length (bv L7) rfl Q7.own1 (x.val) rfl P1 P2 Q7.below.size ?_)
          intro vb8 w8 ow hgr _
          have R8 := Q7.app (d := (x.val).data.toList) ow (by first | rfl | (rw [extract_drop, List.length_drop]; rfl)) hgr
          have B8 := grown_other Q7.own1 hgr C7 (by decide)
          obtain ⟨L8, hL8⟩ : ∃ L8, L7 ++ (x.val).data.toList = L8 := ⟨_, rfl⟩
          have ll8 := @List.length_append _ L7 ((x.val).data.toList)
          have hl8 : L8.length ≤ 66729 := by rw [← hL8, ll8]; omega
          rw [hL8] at R8
          clear ow hgr
          obtain ⟨A8, cp8, rfl⟩ := (Reads.of_own R8.own1).form
          have HE8 := Lib.hid hL8
          clear hL8 ll8 y0 y1 y2 y3 P1 P2 Q7 C7 R7 B7
          obtain ⟨y0, y1, y2, y3⟩ := cell4 B8
          have hfin : L8 = bodyN l r (k1 + 1 + 1) := by
            have h := body_step HX.out HN.out HM.out HQ.out
            rw [hgn, HE1.out] at h
            rw [← h, ← HE8.out, ← HE7.out, ← HE6.out, ← HE5.out, ← HE4.out, ← HE3.out, ← HE2.out]
            rfl
          have HF := Lib.hid hfin
          clear hfin
          by_cases hbig : 65536 < L8.length
          · have hbi : (65536 : Int) < (L8.length : Int) := by omega
            have HB := Lib.hid (show buildN l (r : Int) = ([], 3) by
              rw [HBN.out, if_neg]
              have := bodyN_mono l r (show k1 + 1 + 1 ≤ l.length by omega)
              rw [blockN_len]
              rw [HF.out] at hbig
              omega)
            have hbel := R8.below
            go_wp2_with fail
            go_ret2
            exact ⟨by rw [HB.out]; rfl, hbel⟩
          · have hbi : ¬ (65536 : Int) < (L8.length : Int) := by omega
            have HR8 := Lib.hid R8
            clear R8
            go_wp2_with fail
            go_roundw
            case rel => exact ⟨k1 + 1 + 1, by omega, by go_num, by rw [← HF.out]; exact HR8.out, by rw [← HF.out]; omega⟩
            case measure => simp [intOf]; omega
        | false =>
          rw [hgn] at y3
          go_wp2_with fail
          refine (ref_varint n (by omega) _).mono ?_
          rintro e u1 ⟨rfl, hb1⟩
          have Q1 := R1.kept hb1
          have C1 := B1.kept hb1
          have V1 := varN_len 9 (n) (by omega)
          clear y0 y1 y2 y3
          obtain ⟨y0, y1, y2, y3⟩ := cell4 C1
          have P1 : L1.length + (ByteArray.mk (varN n).toArray).size ≤ maxLen := by have e1 : (ByteArray.mk (varN n).toArray).size = (varN n).length := rfl; rw [e1]; unfold maxLen; omega
          have P2 : L1.length + (ByteArray.mk (varN n).toArray).size ≤ 140737488355328 := by have e1 : (ByteArray.mk (varN n).toArray).size = (varN n).length := rfl; rw [e1]; omega
          go_wp2_with (at_builtin; refine Lib.wpList_append_own_string _ rfl _ _ 74 9 rfl w.heap.size 5 i1 Try.underlying74 Try.underlying9 hi' hy0 hy1 hy2 _ L1.length (bv L1) rfl Q1.own1 (ByteArray.mk (varN n).toArray) rfl P1 P2 Q1.below.size ?_)
          intro vb2 w2 ow hgr _
          have R2 := Q1.app (d := varN n) ow rfl hgr
          have B2 := grown_other Q1.own1 hgr C1 (by decide)
          obtain ⟨L2, hL2⟩ : ∃ L2, L1 ++ varN n = L2 := ⟨_, rfl⟩
          have ll2 := @List.length_append _ L1 (varN n)
          have hl2 : L2.length ≤ 65546 := by rw [← hL2, ll2]; omega
          rw [hL2] at R2
          clear ow hgr
          obtain ⟨A2, cp2, rfl⟩ := (Reads.of_own R2.own1).form
          have HE2 := Lib.hid hL2
          clear hL2 ll2 y0 y1 y2 y3 P1 P2 Q1 C1 R1 B1
          obtain ⟨y0, y1, y2, y3⟩ := cell4 B2
          go_wp2_with fail
          refine (ref_varint m (by omega) _).mono ?_
          rintro e u2 ⟨rfl, hb2⟩
          have Q2 := R2.kept hb2
          have C2 := B2.kept hb2
          have V2 := varN_len 9 (m) (by omega)
          clear y0 y1 y2 y3
          obtain ⟨y0, y1, y2, y3⟩ := cell4 C2
          have P1 : L2.length + (ByteArray.mk (varN m).toArray).size ≤ maxLen := by have e1 : (ByteArray.mk (varN m).toArray).size = (varN m).length := rfl; rw [e1]; unfold maxLen; omega
          have P2 : L2.length + (ByteArray.mk (varN m).toArray).size ≤ 140737488355328 := by have e1 : (ByteArray.mk (varN m).toArray).size = (varN m).length := rfl; rw [e1]; omega
          go_wp2_with (at_builtin; refine Lib.wpList_append_own_string _ rfl _ _ 74 9 rfl w.heap.size 5 i1 Try.underlying74 Try.underlying9 hi' hy0 hy1 hy2 _ L2.length (bv L2) rfl Q2.own1 (ByteArray.mk (varN m).toArray) rfl P1 P2 Q2.below.size ?_)
          intro vb3 w3 ow hgr _
          have R3 := Q2.app (d := varN m) ow rfl hgr
          have B3 := grown_other Q2.own1 hgr C2 (by decide)
          obtain ⟨L3, hL3⟩ : ∃ L3, L2 ++ varN m = L3 := ⟨_, rfl⟩
          have ll3 := @List.length_append _ L2 (varN m)
          have hl3 : L3.length ≤ 65556 := by rw [← hL3, ll3]; omega
          rw [hL3] at R3
          clear ow hgr
          obtain ⟨A3, cp3, rfl⟩ := (Reads.of_own R3.own1).form
          have HE3 := Lib.hid hL3
          clear hL3 ll3 y0 y1 y2 y3 P1 P2 Q2 C2 R2 B2
          obtain ⟨y0, y1, y2, y3⟩ := cell4 B3
          go_wp2_with fail
          refine (ref_varint x.val.size (by omega) _).mono ?_
          rintro e u3 ⟨rfl, hb3⟩
          have Q3 := R3.kept hb3
          have C3 := B3.kept hb3
          have V3 := varN_len 9 (x.val.size) (by omega)
          clear y0 y1 y2 y3
          obtain ⟨y0, y1, y2, y3⟩ := cell4 C3
          have P1 : L3.length + (ByteArray.mk (varN x.val.size).toArray).size ≤ maxLen := by have e1 : (ByteArray.mk (varN x.val.size).toArray).size = (varN x.val.size).length := rfl; rw [e1]; unfold maxLen; omega
          have P2 : L3.length + (ByteArray.mk (varN x.val.size).toArray).size ≤ 140737488355328 := by have e1 : (ByteArray.mk (varN x.val.size).toArray).size = (varN x.val.size).length := rfl; rw [e1]; omega
          go_wp2_with (at_builtin; refine Lib.wpList_append_own_string _ rfl _ _ 74 9 rfl w.heap.size 5 i1 Try.underlying74 Try.underlying9 hi' hy0 hy1 hy2 _ L3.length (bv L3) rfl Q3.own1 (ByteArray.mk (varN x.val.size).toArray) rfl P1 P2 Q3.below.size ?_)
          intro vb4 w4 ow hgr _
          have R4 := Q3.app (d := varN x.val.size) ow rfl hgr
          have B4 := grown_other Q3.own1 hgr C3 (by decide)
          obtain ⟨L4, hL4⟩ : ∃ L4, L3 ++ varN x.val.size = L4 := ⟨_, rfl⟩
          have ll4 := @List.length_append _ L3 (varN x.val.size)
          have hl4 : L4.length ≤ 65566 := by rw [← hL4, ll4]; omega
          rw [hL4] at R4
          clear ow hgr
          obtain ⟨A4, cp4, rfl⟩ := (Reads.of_own R4.own1).form
          have HE4 := Lib.hid hL4
          clear hL4 ll4 y0 y1 y2 y3 P1 P2 Q3 C3 R3 B3
          obtain ⟨y0, y1, y2, y3⟩ := cell4 B4
          have P1 : L4.length + 1 ≤ maxLen := by unfold maxLen; omega
          have P2 : (L4.length + 1) * 1 ≤ 140737488355328 := by omega
          have Q4 := R4.kept ((Below.refl _ _).alloc (Nat.le_refl _) (.cells #[.int .u8 0] 5))
          have C4 := B4.alloc (.cells #[.int .u8 0] 5)
          have P3 := Q4.below.size
          go_wp2_with (at_builtin; refine wpList_append_row rfl _ _ 74 rfl w.heap.size 5 i1 (.int .u8 0) 1 1 Try.underlying74 hi' hy0 hy1 hy2 rfl (by decide) _ L4.length (bv L4) rfl Q4.own1 ⟨w4.heap.size, 0, none⟩ 1 1 [.int .u8 0] rfl rfl (cell_one_new _ _ _) (by simp [Value.oneCell']) P1 P2 P3 ?_)
          intro vb5 w5 ow hgr _
          have R5 := Q4.app (d := [UInt8.ofNat 0]) ow rfl hgr
          have B5 := grown_other Q4.own1 hgr C4 (by decide)
          obtain ⟨L5, hL5⟩ : ∃ L5, L4 ++ [UInt8.ofNat 0] = L5 := ⟨_, rfl⟩
          have ll5 := @List.length_append _ L4 ([UInt8.ofNat 0])
          have hl5 : L5.length ≤ 65567 := by rw [← hL5, ll5]; simp only [List.length_cons, List.length_nil]; omega
          rw [hL5] at R5
          clear ow hgr
          obtain ⟨A5, cp5, rfl⟩ := (Reads.of_own R5.own1).form
          have HE5 := Lib.hid hL5
          clear hL5 ll5 y0 y1 y2 y3 P1 P2 Q4 C4 R4 B4
          obtain ⟨y0, y1, y2, y3⟩ := cell4 B5
          go_wp2_with fail
          refine (ref_varint q (by omega) _).mono ?_
          rintro e u5 ⟨rfl, hb5⟩
          have Q5 := R5.kept hb5
          have C5 := B5.kept hb5
          have V5 := varN_len 9 (q) (by omega)
          clear y0 y1 y2 y3
          obtain ⟨y0, y1, y2, y3⟩ := cell4 C5
          have P1 : L5.length + (ByteArray.mk (varN q).toArray).size ≤ maxLen := by have e1 : (ByteArray.mk (varN q).toArray).size = (varN q).length := rfl; rw [e1]; unfold maxLen; omega
          have P2 : L5.length + (ByteArray.mk (varN q).toArray).size ≤ 140737488355328 := by have e1 : (ByteArray.mk (varN q).toArray).size = (varN q).length := rfl; rw [e1]; omega
          go_wp2_with (at_builtin; refine Lib.wpList_append_own_string _ rfl _ _ 74 9 rfl w.heap.size 5 i1 Try.underlying74 Try.underlying9 hi' hy0 hy1 hy2 _ L5.length (bv L5) rfl Q5.own1 (ByteArray.mk (varN q).toArray) rfl P1 P2 Q5.below.size ?_)
          intro vb6 w6 ow hgr _
          have R6 := Q5.app (d := varN q) ow rfl hgr
          have B6 := grown_other Q5.own1 hgr C5 (by decide)
          obtain ⟨L6, hL6⟩ : ∃ L6, L5 ++ varN q = L6 := ⟨_, rfl⟩
          have ll6 := @List.length_append _ L5 (varN q)
          have hl6 : L6.length ≤ 65577 := by rw [← hL6, ll6]; omega
          rw [hL6] at R6
          clear ow hgr
          obtain ⟨A6, cp6, rfl⟩ := (Reads.of_own R6.own1).form
          have HE6 := Lib.hid hL6
          clear hL6 ll6 y0 y1 y2 y3 P1 P2 Q5 C5 R5 B5
          obtain ⟨y0, y1, y2, y3⟩ := cell4 B6
          have hsx : ((x.key.extract n x.key.size)).size ≤ 128 := by rw [show ((x.key.extract n x.key.size)).size = x.key.size - n by rw [ByteArray.size_extract]; omega]; omega
          have hsx2 : (((x.key.extract n x.key.size)).data.toList).length ≤ 128 := hsx
          have P1 : L6.length + ((x.key.extract n x.key.size)).size ≤ maxLen := by unfold maxLen; omega
          have P2 : L6.length + ((x.key.extract n x.key.size)).size ≤ 140737488355328 := by omega
          have Q6 := R6
          have C6 := B6
          go_wp2_with (at_builtin; refine Lib.wpList_append_own_string _ rfl _ _ 74 9 rfl w.heap.size 5 i1 Try.underlying74 Try.underlying9 hi' hy0 hy1 hy2 _ L6.length (bv L6) rfl Q6.own1 ((x.key.extract n x.key.size)) rfl P1 P2 Q6.below.size ?_)
          intro vb7 w7 ow hgr _
          have R7 := Q6.app (d := ((x.key.extract n x.key.size)).data.toList) ow (by first | rfl | (rw [extract_drop, List.length_drop]; rfl)) hgr
          have B7 := grown_other Q6.own1 hgr C6 (by decide)
          obtain ⟨L7, hL7⟩ : ∃ L7, L6 ++ ((x.key.extract n x.key.size)).data.toList = L7 := ⟨_, rfl⟩
          have ll7 := @List.length_append _ L6 (((x.key.extract n x.key.size)).data.toList)
          have hl7 : L7.length ≤ 65705 := by rw [← hL7, ll7]; omega
          rw [hL7] at R7
          clear ow hgr
          obtain ⟨A7, cp7, rfl⟩ := (Reads.of_own R7.own1).form
          have HE7 := Lib.hid hL7
          clear hL7 ll7 y0 y1 y2 y3 P1 P2 Q6 C6 R6 B6
          obtain ⟨y0, y1, y2, y3⟩ := cell4 B7
          have hsx : (x.val).size ≤ 1024 := by omega
          have hsx2 : ((x.val).data.toList).length ≤ 1024 := hsx
          have P1 : L7.length + (x.val).size ≤ maxLen := by unfold maxLen; omega
          have P2 : L7.length + (x.val).size ≤ 140737488355328 := by omega
          have Q7 := R7
          have C7 := B7
          go_wp2_with (at_builtin; refine Lib.wpList_append_own_string _ rfl _ _ 74 9 rfl w.heap.size 5 i1 Try.underlying74 Try.underlying9 hi' hy0 hy1 hy2 _ L7.length (bv L7) rfl Q7.own1 (x.val) rfl P1 P2 Q7.below.size ?_)
          intro vb8 w8 ow hgr _
          have R8 := Q7.app (d := (x.val).data.toList) ow (by first | rfl | (rw [extract_drop, List.length_drop]; rfl)) hgr
          have B8 := grown_other Q7.own1 hgr C7 (by decide)
          obtain ⟨L8, hL8⟩ : ∃ L8, L7 ++ (x.val).data.toList = L8 := ⟨_, rfl⟩
          have ll8 := @List.length_append _ L7 ((x.val).data.toList)
          have hl8 : L8.length ≤ 66729 := by rw [← hL8, ll8]; omega
          rw [hL8] at R8
          clear ow hgr
          obtain ⟨A8, cp8, rfl⟩ := (Reads.of_own R8.own1).form
          have HE8 := Lib.hid hL8
          clear hL8 ll8 y0 y1 y2 y3 P1 P2 Q7 C7 R7 B7
          obtain ⟨y0, y1, y2, y3⟩ := cell4 B8
          have hfin : L8 = bodyN l r (k1 + 1 + 1) := by
            have h := body_step HX.out HN.out HM.out HQ.out
            rw [hgn, HE1.out] at h
            rw [← h, ← HE8.out, ← HE7.out, ← HE6.out, ← HE5.out, ← HE4.out, ← HE3.out, ← HE2.out]
            rfl
          have HF := Lib.hid hfin
          clear hfin
          by_cases hbig : 65536 < L8.length
          · have hbi : (65536 : Int) < (L8.length : Int) := by omega
            have HB := Lib.hid (show buildN l (r : Int) = ([], 3) by
              rw [HBN.out, if_neg]
              have := bodyN_mono l r (show k1 + 1 + 1 ≤ l.length by omega)
              rw [blockN_len]
              rw [HF.out] at hbig
              omega)
            have hbel := R8.below
            go_wp2_with fail
            go_ret2
            exact ⟨by rw [HB.out]; rfl, hbel⟩
          · have hbi : ¬ (65536 : Int) < (L8.length : Int) := by omega
            have HR8 := Lib.hid R8
            clear R8
            go_wp2_with fail
            go_roundw
            case rel => exact ⟨k1 + 1 + 1, by omega, by go_num, by rw [← HF.out]; exact HR8.out, by rw [← HF.out]; omega⟩
            case measure => simp [intOf]; omega
    · obtain rfl : k = l.length := by omega
      obtain ⟨As, cs, rfl⟩ := (Reads.of_own hRB.own2).form
      have hsl := startsI_len l r l.length
      have hsn : (startsI l r l.length).length = (startsN l r l.length).length := by simp [startsI]
      have HSN := Lib.hid hsn
      clear hsn
      have hL' := hL
      go_wp2_with fail
      go_loopw [7, 99] (RBRel2 w l r (.slice As (startsI l r l.length).length cs)) (fun _ i _ => (startsI l r l.length).length - (intOf i).toNat)
      case atStart => exact ⟨0, by omega, rfl, by simpa using hRB, by simpa using hL⟩
      case round =>
        obtain ⟨k, hk, rfl, hRB, hl1⟩ := hrel
        by_cases hlt : k < (startsI l r l.length).length
        · obtain ⟨q, hqn⟩ : ∃ q, (startsN l r l.length)[k]? = some q := ⟨_, List.getElem?_eq_getElem (by rw [← HSN.out]; exact hlt)⟩
          have hx : (startsI l r l.length)[k]? = some (q : Int) := by unfold startsI; rw [List.getElem?_map, hqn]; rfl
          have hq64 : q ≤ 65536 := by
            unfold startsN at hqn
            rw [List.getElem?_map] at hqn
            obtain ⟨i, hi1, rfl⟩ := Option.map_eq_some_iff.1 hqn
            have hil : i < l.length := by
              have := (List.mem_filter.1 (List.mem_of_getElem? hi1)).1
              simpa using this
            have := bodyN_mono l r (Nat.le_of_lt hil)
            omega
          obtain ⟨b, o, rfl, hbl, c0⟩ := (Reads.of_own hRB.own2).int_at hx
          obtain ⟨A1, cp1, rfl⟩ := (Reads.of_own hRB.own1).form
          have j0 : (0 : Int) ≤ (k : Int) := by omega
          have j1 : (k : Int) < ((startsI l r l.length).length : Int) := by omega
          obtain ⟨L1, hL1⟩ : ∃ L1, bodyN l r l.length ++ ((startsN l r l.length).take k).flatMap be4 = L1 := ⟨_, rfl⟩
          rw [hL1] at hRB hl1 ⊢
          have HE := Lib.hid hL1
          have HX := Lib.hid hqn
          have HR := Lib.hid hRB
          clear hL1 hqn hx hRB
          go_wp2_with fail
          refine (ref_number4 q _).mono ?_
          rintro e u1 ⟨rfl, hb1⟩
          have Q1 := HR.out.kept hb1
          have P1 : L1.length + (ByteArray.mk (be4 q).toArray).size ≤ maxLen := by have e1 : (ByteArray.mk (be4 q).toArray).size = 4 := rfl; rw [e1]; unfold maxLen; omega
          have P2 : L1.length + (ByteArray.mk (be4 q).toArray).size ≤ 140737488355328 := by have e1 : (ByteArray.mk (be4 q).toArray).size = 4 := rfl; rw [e1]; omega
          go_wp2_with (at_builtin; refine Lib.wpList_append_own_string _ rfl _ _ 74 9 rfl w.heap.size 5 i1 Try.underlying74 Try.underlying9 hi' hy0 hy1 hy2 _ L1.length (bv L1) rfl Q1.own1 (ByteArray.mk (be4 q).toArray) rfl P1 P2 Q1.below.size ?_)
          intro vb2 w2 ow hgr _
          have R2 := Q1.app (d := be4 q) ow rfl hgr
          have HR2 := Lib.hid R2
          clear R2 ow hgr Q1
          go_wp2_with fail
          go_roundw
          case rel =>
            have e1 : bodyN l r l.length ++ ((startsN l r l.length).take (k + 1)).flatMap be4 = L1 ++ be4 q := by
              rw [List.take_add_one, HX.out, List.flatMap_append, ← HE.out]
              simp
            exact ⟨k + 1, by omega, by go_num, by rw [e1]; exact HR2.out, by rw [e1, List.length_append, be4_len]; omega⟩
          case measure => simp [intOf]; omega
        · obtain rfl : k = (startsI l r l.length).length := by omega
          obtain ⟨A1, cp1, rfl⟩ := (Reads.of_own hRB.own1).form
          have e0 : (startsN l r l.length).take (startsI l r l.length).length = startsN l r l.length := by rw [HSN.out, List.take_length]
          rw [e0] at hRB hl1 ⊢
          obtain ⟨L1, hL1⟩ : ∃ L1, bodyN l r l.length ++ (startsN l r l.length).flatMap be4 = L1 := ⟨_, rfl⟩
          rw [hL1] at hRB hl1 ⊢
          have HE1 := Lib.hid hL1
          have R1 := hRB
          clear hL1 hRB e0
          go_wp2_with fail
          refine (ref_number4 (startsI l r l.length).length _).mono ?_
          rintro e u1 ⟨rfl, hb1⟩
          have Q1 := R1.kept hb1
          have P1 : L1.length + (ByteArray.mk (be4 (startsI l r l.length).length).toArray).size ≤ maxLen := by have e1 : (ByteArray.mk (be4 (startsI l r l.length).length).toArray).size = (be4 (startsI l r l.length).length).length := rfl; rw [e1]; show L1.length + 4 ≤ _; unfold maxLen; omega
          have P2 : L1.length + (ByteArray.mk (be4 (startsI l r l.length).length).toArray).size ≤ 140737488355328 := by have e1 : (ByteArray.mk (be4 (startsI l r l.length).length).toArray).size = (be4 (startsI l r l.length).length).length := rfl; rw [e1]; show L1.length + 4 ≤ _; omega
          go_wp2_with (at_builtin; refine Lib.wpList_append_own_string _ rfl _ _ 74 9 rfl w.heap.size 5 i1 Try.underlying74 Try.underlying9 hi' hy0 hy1 hy2 _ L1.length (bv L1) rfl Q1.own1 (ByteArray.mk (be4 (startsI l r l.length).length).toArray) rfl P1 P2 Q1.below.size ?_)
          intro vb2 w2' ow hgr _
          have R2 := Q1.app (d := be4 (startsI l r l.length).length) ow rfl hgr
          obtain ⟨L2, hL2⟩ : ∃ L2, L1 ++ be4 (startsI l r l.length).length = L2 := ⟨_, rfl⟩
          have ll2 := @List.length_append _ L1 (be4 (startsI l r l.length).length)
          have hl2 : L2.length ≤ L1.length + 4 := by rw [← hL2, ll2]; show L1.length + 4 ≤ _; omega
          rw [hL2] at R2
          clear ow hgr
          obtain ⟨A2, cp2, rfl⟩ := (Reads.of_own R2.own1).form
          have HE2 := Lib.hid hL2
          clear hL2 ll2 P1 P2 Q1 R1
          go_wp2_with fail
          refine (ref_number2 r _).mono ?_
          rintro e u2 ⟨rfl, hb2⟩
          have Q2 := R2.kept hb2
          have P1 : L2.length + (ByteArray.mk (be2 r).toArray).size ≤ maxLen := by have e1 : (ByteArray.mk (be2 r).toArray).size = (be2 r).length := rfl; rw [e1]; show L2.length + 2 ≤ _; unfold maxLen; omega
          have P2 : L2.length + (ByteArray.mk (be2 r).toArray).size ≤ 140737488355328 := by have e1 : (ByteArray.mk (be2 r).toArray).size = (be2 r).length := rfl; rw [e1]; show L2.length + 2 ≤ _; omega
          go_wp2_with (at_builtin; refine Lib.wpList_append_own_string _ rfl _ _ 74 9 rfl w.heap.size 5 i1 Try.underlying74 Try.underlying9 hi' hy0 hy1 hy2 _ L2.length (bv L2) rfl Q2.own1 (ByteArray.mk (be2 r).toArray) rfl P1 P2 Q2.below.size ?_)
          intro vb3 w3' ow hgr _
          have R3 := Q2.app (d := be2 r) ow rfl hgr
          obtain ⟨L3, hL3⟩ : ∃ L3, L2 ++ be2 r = L3 := ⟨_, rfl⟩
          have ll3 := @List.length_append _ L2 (be2 r)
          have hl3 : L3.length ≤ L2.length + 4 := by rw [← hL3, ll3]; show L2.length + 2 ≤ _; omega
          rw [hL3] at R3
          clear ow hgr
          obtain ⟨A3, cp3, rfl⟩ := (Reads.of_own R3.own1).form
          have HE3 := Lib.hid hL3
          clear hL3 ll3 P1 P2 Q2 R2
          have hcv := conv_own R3.own1
          go_wp2_with fail
          refine (rcrc_list L3 _ (by omega)).mono ?_
          rintro e u9 ⟨rfl, rfl⟩
          have hcl := crcN_lt L3
          have hcl' : (crcN L3 : Int) ≤ 4294967295 := by omega
          clear hcv
          go_wp2_with fail
          refine (ref_number4 (crcN L3) _).mono ?_
          rintro e u3 ⟨rfl, hb3⟩
          have Q3 := R3.kept hb3
          have P1 : L3.length + (ByteArray.mk (be4 (crcN L3)).toArray).size ≤ maxLen := by have e1 : (ByteArray.mk (be4 (crcN L3)).toArray).size = (be4 (crcN L3)).length := rfl; rw [e1]; show L3.length + 4 ≤ _; unfold maxLen; omega
          have P2 : L3.length + (ByteArray.mk (be4 (crcN L3)).toArray).size ≤ 140737488355328 := by have e1 : (ByteArray.mk (be4 (crcN L3)).toArray).size = (be4 (crcN L3)).length := rfl; rw [e1]; show L3.length + 4 ≤ _; omega
          go_wp2_with (at_builtin; refine Lib.wpList_append_own_string _ rfl _ _ 74 9 rfl w.heap.size 5 i1 Try.underlying74 Try.underlying9 hi' hy0 hy1 hy2 _ L3.length (bv L3) rfl Q3.own1 (ByteArray.mk (be4 (crcN L3)).toArray) rfl P1 P2 Q3.below.size ?_)
          intro vb4 w4' ow hgr _
          have R4 := Q3.app (d := be4 (crcN L3)) ow rfl hgr
          obtain ⟨L4, hL4⟩ : ∃ L4, L3 ++ be4 (crcN L3) = L4 := ⟨_, rfl⟩
          have ll4 := @List.length_append _ L3 (be4 (crcN L3))
          have hl4 : L4.length ≤ L3.length + 4 := by rw [← hL4, ll4]; show L3.length + 4 ≤ _; omega
          rw [hL4] at R4
          clear ow hgr
          obtain ⟨A4, cp4, rfl⟩ := (Reads.of_own R4.own1).form
          have HE4 := Lib.hid hL4
          clear hL4 ll4 P1 P2 Q3 R3
          have hfin : L4 = blockN l r := by
            have h1 : L3 = tailN l r := by
              unfold tailN
              rw [← HE3.out, ← HE2.out, ← HE1.out, HSN.out]
              simp only [List.append_assoc]
            rw [← HE4.out, h1]
            rfl
          have HF := Lib.hid hfin
          have hbel := R4.below
          have hcv := conv_own R4.own1
          clear hfin
          by_cases hbig : 65536 < L4.length
          · have hbi : (65536 : Int) < (L4.length : Int) := by omega
            have HB := Lib.hid (show buildN l (r : Int) = ([], 3) by
              rw [HBN.out, if_neg]
              rw [← HF.out]
              omega)
            go_wp2_with fail
            go_ret2
            exact ⟨by rw [HB.out]; rfl, hbel⟩
          · have hbi : ¬ (65536 : Int) < (L4.length : Int) := by omega
            have HB := Lib.hid (show buildN l (r : Int) = (L4, 0) by
              rw [HBN.out, if_pos, HF.out]
              rw [← HF.out]
              omega)
            go_wp2_with fail
            go_ret2
            exact ⟨by rw [HB.out]; rfl, hbel⟩

set_option maxRecDepth 100000 in
set_option maxHeartbeats 1000000 in
theorem ref_build_spec {w : World} {v : Value} {l : List Cell} (h : Reads w v l.length 4 (cellVals l)) (hl : l.length ≤ 2932031007402) (hs : ∀ c ∈ l, 0 ≤ c.seq) (r : Int) :
    Calls Try.prog 38 #[v, .int .i64 r] w fun e w' => e = .returned (.tuple #[.string ⟨(buildN l r).1.toArray⟩, .int .i64 (buildN l r).2]) ∧ Below w.heap.size w w' := by
  by_cases hr1 : r < 1
  · have HB := Lib.hid (show buildN l r = ([], 1) by unfold buildN; rw [if_pos (.inl hr1)])
    clear h
    go_enter Try.func38, Try.ntmps38
    go_wp2_with fail
    go_ret2
    exact ⟨by rw [HB.out]; rfl, Below.refl _ _⟩
  by_cases hr2 : 64 < r
  · have HB := Lib.hid (show buildN l r = ([], 1) by unfold buildN; rw [if_pos (.inr hr2)])
    clear h
    go_enter Try.func38, Try.ntmps38
    go_wp2_with fail
    go_ret2
    exact ⟨by rw [HB.out]; rfl, Below.refl _ _⟩
  by_cases hc : checkL l = 0
  · obtain ⟨q, rfl⟩ : ∃ q : Nat, r = (q : Int) := ⟨r.toNat, by omega⟩
    exact rbuild_main h hl hs q (by omega) (by omega) hc
  · have hck := ref_check_list h hl
    have HCK := Lib.hid hck
    have HB := Lib.hid (show buildN l r = ([], checkL l) by unfold buildN; rw [if_neg (by omega), if_pos hc])
    have hr3 : 1 ≤ r := by omega
    have hr4 : r ≤ 64 := by omega
    have hne : (checkL l == 0) = false := by simpa using hc
    obtain ⟨z, hz⟩ : ∃ z, checkL l = z := ⟨_, rfl⟩
    rw [hz] at HCK HB hne hc
    clear h hck hz
    go_enter Try.func38, Try.ntmps38
    go_wp2_with (go_at_call 40; refine HCK.out.mono ?_; rintro e w1 ⟨rfl, hb1⟩)
    go_ret2
    exact ⟨by rw [HB.out]; rfl, hb1⟩
end Go.Proofs.Ytbcaiegglbdonaa
