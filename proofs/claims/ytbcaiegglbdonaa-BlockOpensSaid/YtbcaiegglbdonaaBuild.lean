/-
  A block built: the program's Build.
-/
import Derived.Test.YtbcaiegglbdonaaBytes8
namespace Go.Proofs.Ytbcaiegglbdonaa
open Go Go.RowKit

theorem WrIs.base {w : World} {base base' p : Nat} {F : Nat → Prop} {st : Option (List UInt8)} (h : WrIs w base p F st) (hb : base' ≤ base) : WrIs w base' p F st := by
  obtain ⟨v, l, h1, h2, h3⟩ := h.ex
  exact ⟨⟨v, l, h1, h2.mono hb, h3⟩, fun k hk => ⟨Nat.le_trans hb (h.lt k hk).1, (h.lt k hk).2⟩⟩
def stN (l : List Cell) (r k : Nat) : Option (List UInt8) := putW (some []) (bodyN l r k)
def startsW (l : List Cell) (r k : Nat) : List Int := ((List.range k).filter fun i => i % r = 0).map fun i => (lenW (stN l r i) : Int)
theorem startsW_len (l : List Cell) (r k : Nat) : (startsW l r k).length ≤ k := by
  unfold startsW
  rw [List.length_map]
  exact Nat.le_trans (List.length_filter_le _ _) (by simp)
theorem startsW_yes (l : List Cell) (r k : Nat) (h : k % r = 0) : startsW l r (k + 1) = startsW l r k ++ [(lenW (stN l r k) : Int)] := by
  unfold startsW
  rw [List.range_succ, List.filter_append]
  simp [h]
theorem startsW_no (l : List Cell) (r k : Nat) (h : ¬ k % r = 0) : startsW l r (k + 1) = startsW l r k := by
  unfold startsW
  rw [List.range_succ, List.filter_append]
  simp [h]
theorem stN_succ (l : List Cell) (r k : Nat) : stN l r (k + 1) = putW (stN l r k) (encAt l r k) := by
  unfold stN
  rw [putW_append, bodyN_succ]
def aheadS (l : List Cell) (k : Nat) : ByteArray := if k = 0 then ⟨#[]⟩ else ((l[k - 1]?).map (·.key)).getD ⟨#[]⟩
def BldRel (w : World) (l : List Cell) (r p : Nat) (rs ah i : Value) (W : World) : Prop :=
  ∃ k : Nat, k ≤ l.length ∧ i = .int .i64 k ∧ ah = .string (aheadS l k) ∧ WrG w p (stN l r k) (fun b => rs.ownBlock = some b) W ∧ W.ownsRow w.heap.size 3 1 rs (startsW l r k).length (ints (startsW l r k))
def BldRel2 (w : World) (l : List Cell) (r p : Nat) (rs : Value) (i : Value) (W : World) : Prop :=
  ∃ k : Nat, k ≤ (startsW l r l.length).length ∧ i = .int .i64 k ∧ WrG w p (putW (stN l r l.length) (((startsW l r l.length).take k).flatMap fun x => be4 (x.toNat % 4294967296))) (fun b => rs.ownBlock = some b) W ∧ W.ownsRow w.heap.size 3 1 rs (startsW l r l.length).length (ints (startsW l r l.length))
theorem crcN_lt (l : List UInt8) : crcN l < 4294967296 := Nat.xor_lt_two_pow (n := 32) (crcFold_lt l (by decide)) (by decide)
theorem WrG.strSize {w0 W : World} {p : Nat} {st : Option (List UInt8)} {G : Nat → Prop} (h : WrG w0 p st G W) : (strW st).size ≤ mostW := by
  obtain ⟨F, h1, _⟩ := h.ex
  obtain ⟨v, l, _, _, h3, h4, _⟩ := h1.ex
  rcases h3 with rfl | rfl
  · exact Nat.zero_le _
  · exact h4
theorem checkL_ok {l : List Cell} (h : checkL l = 0) : (∀ c ∈ l, checkN c = 0) ∧ adjC l = true := by
  unfold checkL at h
  split at h
  · cases h
  · rename_i h1
    split at h
    · rename_i h2
      exact ⟨fun c hc => (check_or c).resolve_right fun h3 => h1 ⟨c, hc, h3⟩, h2⟩
    · cases h
theorem check_seq {c : Cell} (h : checkN c = 0) : c.seq ≤ 72057594037927935 := by
  unfold checkN at h
  split at h
  · rename_i h1
    exact h1.2.2.2.2
  · cases h
theorem encAt_eq {l : List Cell} {r k : Nat} {x : Cell} (h : l[k]? = some x) : encAt l r k = encC (shAt l r k) x := by unfold encAt; rw [h]; rfl
theorem only_grown {G : Nat → Prop} {w w' : World} {row : Option Nat} (hg : w.grownBy w' row) (h : ∀ k, row = some k → G k) : Only G w w' :=
  ⟨hg.os, hg.tape, hg.output, hg.size, fun k hk hn => hg.block k hk (fun e => hn (h k e.symm))⟩
theorem extract_drop (s : ByteArray) (n : Nat) : (s.extract n s.size).data.toList = s.data.toList.drop n := by
  rw [ByteArray.data_extract, Array.toList_extract, List.extract_eq_take_drop]
  have h : s.data.toList.length = s.size := rfl
  rw [List.take_of_length_le (by rw [List.length_drop, h]; omega)]
theorem st_step {l : List Cell} {r k n m q : Nat} {x : Cell} (hx : l[k]? = some x) (hn : shAt l r k = n) (hm : x.key.size - n = m) (hq : x.seq = (q : Int)) :
    putW (putW (putW (putW (putW (putW (putW (stN l r k) (varN n)) (varN m)) (varN x.val.size)) [UInt8.ofNat (if x.gone then 1 else 0)]) (varN q)) (x.key.extract n x.key.size).data.toList) x.val.data.toList = stN l r (k + 1) := by
  rw [stN_succ, encAt_eq hx, hn]
  unfold encC
  rw [hm, hq, Int.toNat_natCast, extract_drop]
  simp only [putW_append, List.append_assoc]
theorem aheadS_succ {l : List Cell} {k : Nat} {x : Cell} (hx : l[k]? = some x) : x.key = aheadS l (k + 1) := by
  unfold aheadS
  rw [if_neg (by omega), Nat.add_sub_cancel, hx]
  rfl
theorem be4_len (n : Nat) : (be4 n).length = 4 := rfl
theorem flat_be4_len (l : List Nat) : (l.flatMap be4).length = l.length * 4 := by
  induction l with
  | nil => rfl
  | cons x l ih => rw [List.flatMap_cons, List.length_append, ih, be4_len, List.length_cons]; omega
theorem startsN_len (l : List Cell) (r k : Nat) : (startsN l r k).length = (startsW l r k).length := by simp [startsN, startsW]
theorem blockN_len (l : List Cell) (r : Nat) : (blockN l r).length = (bodyN l r l.length).length + (startsW l r l.length).length * 4 + 10 := by
  unfold blockN tailN
  simp only [List.length_append, flat_be4_len, be4_len, startsN_len]
  show _ + (_ + (4 + 2)) + 4 = _
  omega
/-- What is put behind the cells. -/
def footW (l : List Cell) (r : Nat) : List UInt8 := (startsW l r l.length).flatMap (fun x => be4 (x.toNat % 4294967296)) ++ (be4 ((startsW l r l.length).length % 4294967296) ++ be2 r)
theorem flat_be4_len' (l : List Int) : (l.flatMap fun x => be4 (x.toNat % 4294967296)).length = l.length * 4 := by
  induction l with
  | nil => rfl
  | cons x l ih => rw [List.flatMap_cons, List.length_append, ih, be4_len, List.length_cons]; omega
theorem footW_len (l : List Cell) (r : Nat) : (footW l r).length = (startsW l r l.length).length * 4 + 6 := by
  unfold footW
  simp only [List.length_append, flat_be4_len', be4_len]
  show _ + (4 + 2) = _
  omega
theorem footW_eq {l : List Cell} {r : Nat} (h : (blockN l r).length ≤ 65536) : footW l r = (startsN l r l.length).flatMap be4 ++ (be4 (startsN l r l.length).length ++ be2 r) := by
  rw [blockN_len] at h
  unfold footW
  rw [startsN_len, Nat.mod_eq_of_lt (show (startsW l r l.length).length < 4294967296 by omega)]
  congr 1
  unfold startsW startsN
  rw [List.flatMap_map, List.flatMap_map]
  rw [List.flatMap_def, List.flatMap_def]
  congr 1
  refine List.map_congr_left fun i hi => ?_
  have hil : i < l.length := by
    have := (List.mem_filter.1 hi).1
    simpa using this
  have hb := bodyN_mono l r (Nat.le_of_lt hil)
  have hst : stN l r i = some (bodyN l r i) := putW_nil _ (by unfold mostW; omega)
  rw [hst]
  show be4 ((((bodyN l r i).length : Nat) : Int).toNat % 4294967296) = be4 (bodyN l r i).length
  rw [Int.toNat_natCast, Nat.mod_eq_of_lt (by omega)]
theorem build_end {l : List Cell} {r : Nat} {st1 st2 : Option (List UInt8)} (h1 : st1 = putW (stN l r l.length) (footW l r)) (h2 : st2 = putW st1 (be4 (crcN (strW st1).data.toList))) :
    (if 65536 < lenW st2 then (([] : List UInt8), (3 : Int)) else (st2.getD [], errW st2)) = if (blockN l r).length ≤ 65536 then (blockN l r, 0) else ([], 3) := by
  have hl := blockN_len l r
  have hf := footW_len l r
  unfold stN at h1
  rw [putW_append] at h1
  have hlen : (bodyN l r l.length ++ footW l r).length + 4 = (blockN l r).length := by rw [List.length_append]; omega
  by_cases h3 : mostW < (bodyN l r l.length ++ footW l r).length
  · rw [putW_over _ h3] at h1
    subst h1
    have : st2 = none := h2
    subst this
    rw [if_neg (show ¬ 65536 < lenW none by decide), if_neg (c := (blockN l r).length ≤ 65536) (by unfold mostW at h3; omega)]
    rfl
  · rw [putW_nil _ (by omega)] at h1
    subst h1
    by_cases h4 : 65536 < (blockN l r).length
    · rw [if_neg (c := (blockN l r).length ≤ 65536) (by omega)]
      rcases hst : st2 with _ | z
      · rw [if_neg (show ¬ 65536 < lenW none by decide)]; rfl
      · have hz : z.length = (blockN l r).length := by
          rw [h2] at hst
          unfold putW at hst
          simp only [Option.bind_some] at hst
          split at hst
          · cases hst
          · cases hst
            rw [List.length_append, be4_len]; omega
        rw [if_pos (show 65536 < lenW (some z) from by show 65536 < z.length; omega)]
    · rw [if_pos (c := (blockN l r).length ≤ 65536) (by omega)]
      have ht : bodyN l r l.length ++ footW l r = tailN l r := by rw [footW_eq (by omega)]; rfl
      have hz : st2 = some (blockN l r) := by
        rw [h2]
        unfold putW
        simp only [Option.bind_some]
        rw [if_neg (by rw [be4_len]; unfold mostW; omega)]
        show some (_ ++ be4 (crcN (bodyN l r l.length ++ footW l r))) = _
        rw [ht]
        rfl
      subst hz
      rw [if_neg (show ¬ 65536 < lenW (some (blockN l r)) from by show ¬ 65536 < (blockN l r).length; omega)]
      rfl
set_option maxRecDepth 100000 in
set_option maxHeartbeats 4000000 in
theorem build_main {w : World} {v : Value} {l : List Cell} (h : Reads w v l.length 4 (cellVals l)) (hl : l.length ≤ 2932031007402) (hs : ∀ c ∈ l, 0 ≤ c.seq) (r : Nat) (hr1 : 1 ≤ r) (hr2 : r ≤ 64) (hc : checkL l = 0) :
    Calls Try.prog 37 #[v, .int .i64 r] w fun e w' => e = .returned (.tuple #[.string ⟨(buildN l r).1.toArray⟩, .int .i64 (buildN l r).2]) ∧ Below w.heap.size w w' := by
  obtain ⟨A, cap, rfl⟩ := h.form
  obtain ⟨i0, hi, hz0, hz1, hz2⟩ := info_parts Try.infoInt
  have hck := block_check h hl
  rw [hc] at hck
  have HCK := Lib.hid hck
  have H := Lib.hid h
  have HC := Lib.hid hc
  have hr3 : (1 : Int) ≤ (r : Int) := by omega
  have hr4 : (r : Int) ≤ 64 := by omega
  have hr5 : ¬ (r : Int) = 0 := by omega
  clear h hck hc
  go_enter Try.func37, Try.ntmps37
  go_wp2_with (first | (go_at_call 39; refine HCK.out.mono ?_; rintro e w1 ⟨rfl, hb1⟩) | (go_at_call 83; refine (writer_new _).mono ?_; rintro e w2 ⟨rfl, hw2, hb2, hs2⟩))
  obtain ⟨p, hp⟩ : ∃ p, w1.heap.size = p := ⟨_, rfl⟩
  rw [hp] at hw2 hb2 hs2 ⊢
  have hG : WrG w p (stN l r 0) (fun b => (Value.slice none 0 0).ownBlock = some b) w2 := ⟨⟨_, hw2.base (by rw [← hp]; exact hb1.size), fun k hk => by cases hk⟩, hb1.trans (hb2.mono (by rw [← hp]; exact hb1.size))⟩
  have HS2 := Lib.hid hs2
  have HP := Lib.hid hp
  clear hw2 hb2 hs2 hp hb1
  go_loopw [8, 9, 31] (BldRel w l r p) (fun _ _ i _ => l.length - (intOf i).toNat)
  case atStart => exact ⟨0, by omega, rfl, rfl, hG, World.ownsRow_nil _ _ _ _⟩
  case round =>
    obtain ⟨k, hk, rfl, rfl, hg, hrow⟩ := hrel
    by_cases hlt : k < l.length
    · obtain ⟨x, hx⟩ : ∃ x, l[k]? = some x := ⟨_, List.getElem?_eq_getElem hlt⟩
      obtain ⟨b, o, rfl, hbl, c0, c1, c2, c3⟩ := (H.out.kept hg.below).cell_at hx
      have j0 : (0 : Int) ≤ (k : Int) := by omega
      have j1 : (k : Int) < (l.length : Int) := by omega
      have hcx := (checkL_ok HC.out).1 x (List.mem_of_getElem? hx)
      obtain ⟨hks, hvs⟩ := check_sizes hcx
      have hsq := check_seq hcx
      obtain ⟨q, hq⟩ : ∃ q : Nat, x.seq = (q : Int) := ⟨x.seq.toNat, by have := hs x (List.mem_of_getElem? hx); omega⟩
      rw [hq] at c1 hsq
      have HQ := Lib.hid hq
      have HX := Lib.hid hx
      clear hx hcx hq
      by_cases hkr : k % r = 0
      · have hm0 : (k : Int) % (r : Int) = 0 := by
          have : ((k % r : Nat) : Int) = 0 := by rw [hkr]; rfl
          simpa using this
        have p1 : (startsW l r k).length + 1 ≤ maxLen := by have := startsW_len l r k; unfold maxLen; omega
        have p2 : ((startsW l r k).length + 1) * 8 ≤ 140737488355328 := by have := startsW_len l r k; omega
        have p3 : w.heap.size ≤ ((wr.alloc (.cells #[.string x.key, .int .u64 q, .string x.val, .bool x.gone] 25)).alloc (.cells #[.int .i64 (lenW (stN l r k) : Int)] 3)).heap.size := by have := hg.below.size; simp; omega
        have HG := Lib.hid hg
        have HR := Lib.hid hrow
        clear hg hrow
        go_upto_region 15 with (first | (go_at_call 84; refine ((HG.out.kept ((Below.refl _ _).alloc (Nat.le_refl _) _)).len).mono ?_; rintro e w4 ⟨rfl, rfl⟩) | (at_builtin; refine wpList_append_row rfl _ _ 42 rfl w.heap.size 3 i0 (.int .i64 0) 1 8 Try.underlying42 hi hz0 hz1 hz2 rfl (by decide) u8 _ _ rfl ((HR.out.alloc _).alloc _) ⟨wr.heap.size + 1, 0, none⟩ 1 1 [.int .i64 (lenW (stN l r k) : Int)] rfl rfl (by have := cell_one_new (wr.alloc (.cells #[.string x.key, .int .u64 q, .string x.val, .bool x.gone] 25)) (.int .i64 (lenW (stN l r k) : Int)) 3; rw [World.size_alloc] at this; exact this) (by simp [Value.oneCell']) p1 p2 p3 ?_; intro rs' w4 own4 hgr hfr))
        have T1 := HG.out.newer (G' := fun z => z = wr.heap.size ∨ rs'.ownBlock = some z) ((Only.of_below (((Below.refl _ _).alloc (Nat.le_refl _) _).alloc (by simp) _)).trans (only_grown hgr (fun k e => e))) (fun z hz => ?_) (fun z hz => (HR.out.lt z hz).1)
        rotate_left
        · rcases hz with rfl | hz
          · exact .inr ⟨Nat.le_refl _, by have := hgr.size; simp at this; omega⟩
          · rcases hfr z hz with h | h
            · exact .inl h
            · exact .inr ⟨by simp at h; omega, (own4.lt z hz).2⟩
        have T2 : Blk w4 wr.heap.size #[.string x.key, .int .u64 q, .string x.val, .bool x.gone] 25 := (hgr.block wr.heap.size (by simp; omega) (fun e => by have := (HR.out.lt _ e.symm).2; omega)).trans ((Blk.new wr _ 25).alloc _)
        have T3 : w4.ownsRow w.heap.size 3 1 rs' (startsW l r (k + 1)).length (ints (startsW l r (k + 1))) := by
          rw [startsW_yes l r k hkr]
          simpa [ints] using own4
        have T4 : sharedN (ByteArray.data ⟨#[]⟩).toList x.key.data.toList = shAt l r k := by unfold shAt; rw [if_pos hkr]; rfl
        clear own4 hgr hfr p1 p2 p3
        have hnk : shAt l r k ≤ x.key.size := by rw [← T4]; exact sharedN_le_right _ _
        have HNK := Lib.hid T4
        obtain ⟨n, hn⟩ : ∃ n, shAt l r k = n := ⟨_, rfl⟩
        rw [hn] at hnk T4
        have HN := Lib.hid hn
        clear hn HNK
        obtain ⟨x0, x1, x2, x3⟩ := cell4 T2
        have T3' := Lib.hid T3
        have HT4 := Lib.hid T4
        clear T3 T4
        go_upto_region 16 with (go_at_call 85; refine (shared_spec ⟨#[]⟩ x.key (by decide) _).mono ?_; rintro e w5 ⟨rfl, hb5⟩)
        rw [HT4.out]
        have U5 := T1.kept hb5
        have B5 := T2.kept hb5
        have R5 := own_kept T3'.out hb5
        obtain ⟨y0, y1, y2, y3⟩ := cell4 B5
        clear x0 x1 x2 x3
        obtain ⟨m, hm⟩ : ∃ m, x.key.size - n = m := ⟨_, rfl⟩
        have hsb : (x.key.size : Int) - (n : Int) = (m : Int) := by omega
        have hm1 : m ≤ 128 := by omega
        have HM := Lib.hid hm
        clear hm
        go_wp2_with fail
        refine (U5.varint n (by omega)).mono ?_
        rintro e w6 ⟨rfl, U6, G6, s6⟩
        have B6 := blk_same B5 (G6 _ (.inl rfl))
        have R6 := own_same R5 (fun g hg => G6 g (.inr hg))
        clear y0 y1 y2 y3
        obtain ⟨y0, y1, y2, y3⟩ := cell4 B6
        go_wp2_with fail
        refine (U6.varint m (by omega)).mono ?_
        rintro e w7 ⟨rfl, U7, G7, s7⟩
        have B7 := blk_same B6 (G7 _ (.inl rfl))
        have R7 := own_same R6 (fun g hg => G7 g (.inr hg))
        clear y0 y1 y2 y3
        obtain ⟨y0, y1, y2, y3⟩ := cell4 B7
        go_wp2_with fail
        refine (U7.varint x.val.size (by omega)).mono ?_
        rintro e w8 ⟨rfl, U8, G8, s8⟩
        have B8 := blk_same B7 (G8 _ (.inl rfl))
        have R8 := own_same R7 (fun g hg => G8 g (.inr hg))
        clear y0 y1 y2 y3
        obtain ⟨y0, y1, y2, y3⟩ := cell4 B8
        cases hgn : x.gone with
        | true =>
          rw [hgn] at y3
          go_wp2_with fail
          refine (U8.u8 1 (by decide)).mono ?_
          rintro e w9 ⟨rfl, U9, G9, s9⟩
          have B9 := blk_same B8 (G9 _ (.inl rfl))
          have R9 := own_same R8 (fun g hg => G9 g (.inr hg))
          clear y0 y1 y2 y3
          obtain ⟨y0, y1, y2, y3⟩ := cell4 B9
          go_wp2_with fail
          refine (U9.varint q (by omega)).mono ?_
          rintro e w10 ⟨rfl, U10, G10, s10⟩
          have B10 := blk_same B9 (G10 _ (.inl rfl))
          have R10 := own_same R9 (fun g hg => G10 g (.inr hg))
          clear y0 y1 y2 y3
          obtain ⟨y0, y1, y2, y3⟩ := cell4 B10
          go_wp2_with fail
          refine (U10.raw (x.key.extract n x.key.size)).mono ?_
          rintro e w11 ⟨rfl, U11, G11, s11⟩
          have B11 := blk_same B10 (G11 _ (.inl rfl))
          have R11 := own_same R10 (fun g hg => G11 g (.inr hg))
          clear y0 y1 y2 y3
          obtain ⟨y0, y1, y2, y3⟩ := cell4 B11
          go_wp2_with fail
          refine (U11.raw x.val).mono ?_
          rintro e w12 ⟨rfl, U12, G12, s12⟩
          have B12 := blk_same B11 (G12 _ (.inl rfl))
          have R12 := own_same R11 (fun g hg => G12 g (.inr hg))
          clear y0 y1 y2 y3
          obtain ⟨y0, y1, y2, y3⟩ := cell4 B12
          have HST := st_step HX.out HN.out HM.out HQ.out
          rw [hgn] at HST
          have HU := Lib.hid (show WrG w p (stN l r (k + 1)) (fun z => rs'.ownBlock = some z) w12 by
            rw [← HST]
            exact U12.less (fun z hz => .inr hz))
          have HR12 := Lib.hid R12
          have HAS := Lib.hid (aheadS_succ HX.out)
          clear HST R12 U5 U6 U7 U8 U9 U10 U11 U12 R5 R6 R7 R8 R9 R10 R11
          go_wp2_with fail
          go_roundw
          case rel => exact ⟨k + 1, by omega, by go_num, by rw [HAS.out], HU.out, HR12.out⟩
          case measure => simp [intOf]; omega
        | false =>
          rw [hgn] at y3
          go_wp2_with fail
          refine (U8.u8 0 (by decide)).mono ?_
          rintro e w9 ⟨rfl, U9, G9, s9⟩
          have B9 := blk_same B8 (G9 _ (.inl rfl))
          have R9 := own_same R8 (fun g hg => G9 g (.inr hg))
          clear y0 y1 y2 y3
          obtain ⟨y0, y1, y2, y3⟩ := cell4 B9
          go_wp2_with fail
          refine (U9.varint q (by omega)).mono ?_
          rintro e w10 ⟨rfl, U10, G10, s10⟩
          have B10 := blk_same B9 (G10 _ (.inl rfl))
          have R10 := own_same R9 (fun g hg => G10 g (.inr hg))
          clear y0 y1 y2 y3
          obtain ⟨y0, y1, y2, y3⟩ := cell4 B10
          go_wp2_with fail
          refine (U10.raw (x.key.extract n x.key.size)).mono ?_
          rintro e w11 ⟨rfl, U11, G11, s11⟩
          have B11 := blk_same B10 (G11 _ (.inl rfl))
          have R11 := own_same R10 (fun g hg => G11 g (.inr hg))
          clear y0 y1 y2 y3
          obtain ⟨y0, y1, y2, y3⟩ := cell4 B11
          go_wp2_with fail
          refine (U11.raw x.val).mono ?_
          rintro e w12 ⟨rfl, U12, G12, s12⟩
          have B12 := blk_same B11 (G12 _ (.inl rfl))
          have R12 := own_same R11 (fun g hg => G12 g (.inr hg))
          clear y0 y1 y2 y3
          obtain ⟨y0, y1, y2, y3⟩ := cell4 B12
          have HST := st_step HX.out HN.out HM.out HQ.out
          rw [hgn] at HST
          have HU := Lib.hid (show WrG w p (stN l r (k + 1)) (fun z => rs'.ownBlock = some z) w12 by
            rw [← HST]
            exact U12.less (fun z hz => .inr hz))
          have HR12 := Lib.hid R12
          have HAS := Lib.hid (aheadS_succ HX.out)
          clear HST R12 U5 U6 U7 U8 U9 U10 U11 U12 R5 R6 R7 R8 R9 R10 R11
          go_wp2_with fail
          go_roundw
          case rel => exact ⟨k + 1, by omega, by go_num, by rw [HAS.out], HU.out, HR12.out⟩
          case measure => simp [intOf]; omega
      · have hm0 : ¬ (k : Int) % (r : Int) = 0 := by
          intro h
          have : ((k % r : Nat) : Int) = 0 := by simpa using h
          omega
        have hk0 : 0 < k := by
          rcases Nat.eq_zero_or_pos k with h | h
          · subst h; exact absurd (Nat.zero_mod r) hkr
          · exact h
        obtain ⟨y, hy⟩ : ∃ y, l[k - 1]? = some y := ⟨_, List.getElem?_eq_getElem (by omega)⟩
        have hya : aheadS l k = y.key := by
          have := aheadS_succ hy
          rw [Nat.sub_add_cancel hk0] at this
          exact this.symm
        have hSz : (aheadS l k).size ≤ 128 := by
          rw [hya]
          exact (check_sizes ((checkL_ok HC.out).1 y (List.mem_of_getElem? hy))).1
        have T4 : sharedN (aheadS l k).data.toList x.key.data.toList = shAt l r k := by
          unfold shAt keyAt
          rw [if_neg hkr, hy, HX.out, hya]
          rfl
        have T1 := hg.newer (G' := fun z => z = wr.heap.size ∨ u8.ownBlock = some z) (W' := wr.alloc (.cells #[.string x.key, .int .u64 q, .string x.val, .bool x.gone] 25)) (Only.of_below ((Below.refl _ _).alloc (Nat.le_refl _) _)) (fun z hz => by
          rcases hz with rfl | hz
          · exact .inr ⟨Nat.le_refl _, by simp⟩
          · exact .inl hz) (fun z hz => (hrow.lt z hz).1)
        have T2 := Blk.new wr #[.string x.key, .int .u64 q, .string x.val, .bool x.gone] 25
        have T3 := hrow.alloc (.cells #[.string x.key, .int .u64 q, .string x.val, .bool x.gone] 25)
        rw [← startsW_no l r k hkr] at T3
        clear hg hrow hy hya
        go_upto_region 15 with fail
        have hnk : shAt l r k ≤ x.key.size := by rw [← T4]; exact sharedN_le_right _ _
        have HNK := Lib.hid T4
        obtain ⟨n, hn⟩ : ∃ n, shAt l r k = n := ⟨_, rfl⟩
        rw [hn] at hnk T4
        have HN := Lib.hid hn
        clear hn HNK
        obtain ⟨x0, x1, x2, x3⟩ := cell4 T2
        have T3' := Lib.hid T3
        have HT4 := Lib.hid T4
        clear T3 T4
        go_upto_region 16 with (go_at_call 85; refine (shared_spec (aheadS l k) x.key (by omega) _).mono ?_; rintro e w5 ⟨rfl, hb5⟩)
        rw [HT4.out]
        have U5 := T1.kept hb5
        have B5 := T2.kept hb5
        have R5 := own_kept T3'.out hb5
        obtain ⟨y0, y1, y2, y3⟩ := cell4 B5
        clear x0 x1 x2 x3
        obtain ⟨m, hm⟩ : ∃ m, x.key.size - n = m := ⟨_, rfl⟩
        have hsb : (x.key.size : Int) - (n : Int) = (m : Int) := by omega
        have hm1 : m ≤ 128 := by omega
        have HM := Lib.hid hm
        clear hm
        go_wp2_with fail
        refine (U5.varint n (by omega)).mono ?_
        rintro e w6 ⟨rfl, U6, G6, s6⟩
        have B6 := blk_same B5 (G6 _ (.inl rfl))
        have R6 := own_same R5 (fun g hg => G6 g (.inr hg))
        clear y0 y1 y2 y3
        obtain ⟨y0, y1, y2, y3⟩ := cell4 B6
        go_wp2_with fail
        refine (U6.varint m (by omega)).mono ?_
        rintro e w7 ⟨rfl, U7, G7, s7⟩
        have B7 := blk_same B6 (G7 _ (.inl rfl))
        have R7 := own_same R6 (fun g hg => G7 g (.inr hg))
        clear y0 y1 y2 y3
        obtain ⟨y0, y1, y2, y3⟩ := cell4 B7
        go_wp2_with fail
        refine (U7.varint x.val.size (by omega)).mono ?_
        rintro e w8 ⟨rfl, U8, G8, s8⟩
        have B8 := blk_same B7 (G8 _ (.inl rfl))
        have R8 := own_same R7 (fun g hg => G8 g (.inr hg))
        clear y0 y1 y2 y3
        obtain ⟨y0, y1, y2, y3⟩ := cell4 B8
        cases hgn : x.gone with
        | true =>
          rw [hgn] at y3
          go_wp2_with fail
          refine (U8.u8 1 (by decide)).mono ?_
          rintro e w9 ⟨rfl, U9, G9, s9⟩
          have B9 := blk_same B8 (G9 _ (.inl rfl))
          have R9 := own_same R8 (fun g hg => G9 g (.inr hg))
          clear y0 y1 y2 y3
          obtain ⟨y0, y1, y2, y3⟩ := cell4 B9
          go_wp2_with fail
          refine (U9.varint q (by omega)).mono ?_
          rintro e w10 ⟨rfl, U10, G10, s10⟩
          have B10 := blk_same B9 (G10 _ (.inl rfl))
          have R10 := own_same R9 (fun g hg => G10 g (.inr hg))
          clear y0 y1 y2 y3
          obtain ⟨y0, y1, y2, y3⟩ := cell4 B10
          go_wp2_with fail
          refine (U10.raw (x.key.extract n x.key.size)).mono ?_
          rintro e w11 ⟨rfl, U11, G11, s11⟩
          have B11 := blk_same B10 (G11 _ (.inl rfl))
          have R11 := own_same R10 (fun g hg => G11 g (.inr hg))
          clear y0 y1 y2 y3
          obtain ⟨y0, y1, y2, y3⟩ := cell4 B11
          go_wp2_with fail
          refine (U11.raw x.val).mono ?_
          rintro e w12 ⟨rfl, U12, G12, s12⟩
          have B12 := blk_same B11 (G12 _ (.inl rfl))
          have R12 := own_same R11 (fun g hg => G12 g (.inr hg))
          clear y0 y1 y2 y3
          obtain ⟨y0, y1, y2, y3⟩ := cell4 B12
          have HST := st_step HX.out HN.out HM.out HQ.out
          rw [hgn] at HST
          have HU := Lib.hid (show WrG w p (stN l r (k + 1)) (fun z => u8.ownBlock = some z) w12 by
            rw [← HST]
            exact U12.less (fun z hz => .inr hz))
          have HR12 := Lib.hid R12
          have HAS := Lib.hid (aheadS_succ HX.out)
          clear HST R12 U5 U6 U7 U8 U9 U10 U11 U12 R5 R6 R7 R8 R9 R10 R11
          go_wp2_with fail
          go_roundw
          case rel => exact ⟨k + 1, by omega, by go_num, by rw [HAS.out], HU.out, HR12.out⟩
          case measure => simp [intOf]; omega
        | false =>
          rw [hgn] at y3
          go_wp2_with fail
          refine (U8.u8 0 (by decide)).mono ?_
          rintro e w9 ⟨rfl, U9, G9, s9⟩
          have B9 := blk_same B8 (G9 _ (.inl rfl))
          have R9 := own_same R8 (fun g hg => G9 g (.inr hg))
          clear y0 y1 y2 y3
          obtain ⟨y0, y1, y2, y3⟩ := cell4 B9
          go_wp2_with fail
          refine (U9.varint q (by omega)).mono ?_
          rintro e w10 ⟨rfl, U10, G10, s10⟩
          have B10 := blk_same B9 (G10 _ (.inl rfl))
          have R10 := own_same R9 (fun g hg => G10 g (.inr hg))
          clear y0 y1 y2 y3
          obtain ⟨y0, y1, y2, y3⟩ := cell4 B10
          go_wp2_with fail
          refine (U10.raw (x.key.extract n x.key.size)).mono ?_
          rintro e w11 ⟨rfl, U11, G11, s11⟩
          have B11 := blk_same B10 (G11 _ (.inl rfl))
          have R11 := own_same R10 (fun g hg => G11 g (.inr hg))
          clear y0 y1 y2 y3
          obtain ⟨y0, y1, y2, y3⟩ := cell4 B11
          go_wp2_with fail
          refine (U11.raw x.val).mono ?_
          rintro e w12 ⟨rfl, U12, G12, s12⟩
          have B12 := blk_same B11 (G12 _ (.inl rfl))
          have R12 := own_same R11 (fun g hg => G12 g (.inr hg))
          clear y0 y1 y2 y3
          obtain ⟨y0, y1, y2, y3⟩ := cell4 B12
          have HST := st_step HX.out HN.out HM.out HQ.out
          rw [hgn] at HST
          have HU := Lib.hid (show WrG w p (stN l r (k + 1)) (fun z => u8.ownBlock = some z) w12 by
            rw [← HST]
            exact U12.less (fun z hz => .inr hz))
          have HR12 := Lib.hid R12
          have HAS := Lib.hid (aheadS_succ HX.out)
          clear HST R12 U5 U6 U7 U8 U9 U10 U11 U12 R5 R6 R7 R8 R9 R10 R11
          go_wp2_with fail
          go_roundw
          case rel => exact ⟨k + 1, by omega, by go_num, by rw [HAS.out], HU.out, HR12.out⟩
          case measure => simp [intOf]; omega
    · obtain rfl : k = l.length := by omega
      obtain ⟨A8, cap8, rfl⟩ := (Reads.of_own hrow).form
      have hsl := startsW_len l r l.length
      have hBN : buildN l (r : Int) = if (blockN l r).length ≤ 65536 then (blockN l r, 0) else ([], 3) := by
        unfold buildN
        rw [if_neg (by omega), if_neg (by rw [HC.out]; simp), Int.toNat_natCast]
      have HBN := Lib.hid hBN
      clear hBN
      go_wp2_with fail
      go_loopw [92] (BldRel2 w l r p (.slice A8 (startsW l r l.length).length cap8)) (fun i _ => (startsW l r l.length).length - (intOf i).toNat)
      case atStart =>
        exact ⟨0, by omega, rfl, by
          have e : putW (stN l r l.length) [] = stN l r l.length := by unfold stN; rw [putW_append, List.append_nil]
          rw [List.take_zero, List.flatMap_nil, e]; exact hg, hrow⟩
      case round =>
        obtain ⟨k, hk, rfl, hg, hrow⟩ := hrel
        by_cases hlt : k < (startsW l r l.length).length
        · obtain ⟨x, hx⟩ : ∃ x, (startsW l r l.length)[k]? = some x := ⟨_, List.getElem?_eq_getElem hlt⟩
          obtain ⟨b, o, rfl, hbl, c0⟩ := (Reads.of_own hrow).int_at hx
          have hx0 : 0 ≤ x := by
            unfold startsW at hx
            rw [List.getElem?_map] at hx
            obtain ⟨i, _, rfl⟩ := Option.map_eq_some_iff.1 hx
            omega
          obtain ⟨q, rfl⟩ : ∃ q : Nat, x = (q : Int) := ⟨x.toNat, by omega⟩
          have j0 : (0 : Int) ≤ (k : Int) := by omega
          have j1 : (k : Int) < ((startsW l r l.length).length : Int) := by omega
          have HX := Lib.hid hx
          have HR := Lib.hid hrow
          clear hx hrow
          go_wp2_with fail
          refine (hg.u32 (q % 4294967296) (Nat.mod_lt _ (by decide))).mono ?_
          rintro e w4 ⟨rfl, U4, G4, s4⟩
          have R4 := own_same HR.out (fun g hg => G4 g hg)
          have HU := Lib.hid U4
          have HR4 := Lib.hid R4
          clear U4 R4 hg
          go_wp2_with fail
          go_roundw
          case rel =>
            refine ⟨k + 1, by omega, by go_num, ?_, HR4.out⟩
            have h := HU.out
            rw [putW_append] at h
            rw [List.take_add_one, HX.out, List.flatMap_append]
            simpa using h
          case measure => simp [intOf]; omega
        · obtain rfl : k = (startsW l r l.length).length := by omega
          rw [List.take_length] at hg
          go_wp2_with fail
          refine (hg.u32 ((startsW l r l.length).length % 4294967296) (Nat.mod_lt _ (by decide))).mono ?_
          rintro e w4 ⟨rfl, U4, G4, s4⟩
          go_wp2_with fail
          refine (U4.u16 r (by omega)).mono ?_
          rintro e w5 ⟨rfl, U5, G5, s5⟩
          obtain ⟨st1, hst1⟩ : ∃ st1, putW (putW (putW (stN l r l.length) ((startsW l r l.length).flatMap fun x => be4 (x.toNat % 4294967296))) (be4 ((startsW l r l.length).length % 4294967296))) (be2 r) = st1 := ⟨_, rfl⟩
          rw [hst1] at U5
          have HS1 := Lib.hid (show st1 = putW (stN l r l.length) (footW l r) by
            rw [← hst1]
            unfold footW
            simp only [putW_append, List.append_assoc])
          have hsz := U5.strSize
          clear U4 hg hst1
          go_wp2_with fail
          refine U5.done.mono ?_
          rintro e w6 ⟨rfl, rfl⟩
          go_wp2_with fail
          refine (crc_spec (strW st1) _ (by unfold mostW at hsz; omega)).mono ?_
          rintro e w7 ⟨rfl, rfl⟩
          go_wp2_with fail
          refine (U5.u32 (crcN (strW st1).data.toList) (crcN_lt _)).mono ?_
          rintro e w8 ⟨rfl, U8, G8, s8⟩
          obtain ⟨st2, hst2⟩ : ∃ st2, putW st1 (be4 (crcN (strW st1).data.toList)) = st2 := ⟨_, rfl⟩
          rw [hst2] at U8
          have HE := Lib.hid (build_end HS1.out hst2.symm)
          have hbel := U8.below
          clear hst2 U5
          go_wp2_with fail
          refine U8.len.mono ?_
          rintro e w9 ⟨rfl, rfl⟩
          by_cases hbig : 65536 < lenW st2
          · have hbi : (65536 : Int) < (lenW st2 : Int) := by omega
            have HF := Lib.hid (show buildN l (r : Int) = ([], 3) by rw [HBN.out, ← HE.out, if_pos hbig])
            go_wp2_with fail
            go_ret2
            exact ⟨by rw [HF.out]; rfl, hbel⟩
          · have hbi : ¬ (65536 : Int) < (lenW st2 : Int) := by omega
            have HF := Lib.hid (show buildN l (r : Int) = (st2.getD [], errW st2) by rw [HBN.out, ← HE.out, if_neg hbig])
            go_wp2_with fail
            refine U8.done.mono ?_
            rintro e w9 ⟨rfl, rfl⟩
            go_wp2_with fail
            go_ret2
            exact ⟨by rw [HF.out]; rfl, hbel⟩

set_option maxRecDepth 100000 in
set_option maxHeartbeats 1000000 in
theorem build_spec {w : World} {v : Value} {l : List Cell} (h : Reads w v l.length 4 (cellVals l)) (hl : l.length ≤ 2932031007402) (hs : ∀ c ∈ l, 0 ≤ c.seq) (r : Int) :
    Calls Try.prog 37 #[v, .int .i64 r] w fun e w' => e = .returned (.tuple #[.string ⟨(buildN l r).1.toArray⟩, .int .i64 (buildN l r).2]) ∧ Below w.heap.size w w' := by
  by_cases hr1 : r < 1
  · have HB := Lib.hid (show buildN l r = ([], 1) by unfold buildN; rw [if_pos (.inl hr1)])
    clear h
    go_enter Try.func37, Try.ntmps37
    go_wp2_with fail
    go_ret2
    exact ⟨by rw [HB.out]; rfl, Below.refl _ _⟩
  by_cases hr2 : 64 < r
  · have HB := Lib.hid (show buildN l r = ([], 1) by unfold buildN; rw [if_pos (.inr hr2)])
    clear h
    go_enter Try.func37, Try.ntmps37
    go_wp2_with fail
    go_ret2
    exact ⟨by rw [HB.out]; rfl, Below.refl _ _⟩
  by_cases hc : checkL l = 0
  · obtain ⟨q, rfl⟩ : ∃ q : Nat, r = (q : Int) := ⟨r.toNat, by omega⟩
    exact build_main h hl hs q (by omega) (by omega) hc
  · have hck := block_check h hl
    have HCK := Lib.hid hck
    have HB := Lib.hid (show buildN l r = ([], checkL l) by unfold buildN; rw [if_neg (by omega), if_pos hc])
    have hr3 : 1 ≤ r := by omega
    have hr4 : r ≤ 64 := by omega
    have hne : (checkL l == 0) = false := by simpa using hc
    obtain ⟨z, hz⟩ : ∃ z, checkL l = z := ⟨_, rfl⟩
    rw [hz] at HCK HB hne hc
    clear h hck hz
    go_enter Try.func37, Try.ntmps37
    go_wp2_with (go_at_call 39; refine HCK.out.mono ?_; rintro e w1 ⟨rfl, hb1⟩)
    go_ret2
    exact ⟨by rw [HB.out]; rfl, hb1⟩
end Go.Proofs.Ytbcaiegglbdonaa
