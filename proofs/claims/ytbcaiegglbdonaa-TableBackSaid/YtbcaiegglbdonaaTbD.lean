/-
  Texts of this seat, part 4: Build, RBuild, Tree.
-/
import Derived.Test.YtbcaiegglbdonaaTbC
import Derived.Lib.AppendStr
/-
  A block built: the program's Build.
-/
namespace Go.Proofs.Ytbcaiegglbdonaa
open Go Go.RowKit

theorem WrIs.base {w : World} {base base' p : Nat} {F : Nat → Prop} {st : Option (List UInt8)} (h : WrIs w base p F st) (hb : base' ≤ base) : WrIs w base' p F st := by
  obtain ⟨v, l, h1, h2, h3⟩ := h.ex
  exact ⟨⟨v, l, h1, h2.mono hb, h3⟩, fun k hk => ⟨Nat.le_trans hb (h.lt k hk).1, (h.lt k hk).2⟩⟩
def stN (l : List Cell) (r k : Nat) : Option (List UInt8) := putW (some []) (bodyN l r k)
def startsW (l : List Cell) (r k : Nat) : List Int := ((List.range k).filter fun i => i % r = 0).map fun i => (lenW (stN l r i) : Int)
theorem startsW_len (l : List Cell) (r k : Nat) : (startsW l r k).length ≤ k := by
  unfold startsW
  rw [List.length_map]
  exact Nat.le_trans (List.length_filter_le _ _) (by simp)
theorem startsW_yes (l : List Cell) (r k : Nat) (h : k % r = 0) : startsW l r (k + 1) = startsW l r k ++ [(lenW (stN l r k) : Int)] := by
  unfold startsW
  rw [List.range_succ, List.filter_append]
  simp [h]
theorem startsW_no (l : List Cell) (r k : Nat) (h : ¬ k % r = 0) : startsW l r (k + 1) = startsW l r k := by
  unfold startsW
  rw [List.range_succ, List.filter_append]
  simp [h]
theorem stN_succ (l : List Cell) (r k : Nat) : stN l r (k + 1) = putW (stN l r k) (encAt l r k) := by
  unfold stN
  rw [putW_append, bodyN_succ]
def aheadS (l : List Cell) (k : Nat) : ByteArray := if k = 0 then ⟨#[]⟩ else ((l[k - 1]?).map (·.key)).getD ⟨#[]⟩
def BldRel (w : World) (l : List Cell) (r p : Nat) (rs ah i : Value) (W : World) : Prop :=
  ∃ k : Nat, k ≤ l.length ∧ i = .int .i64 k ∧ ah = .string (aheadS l k) ∧ WrG w p (stN l r k) (fun b => rs.ownBlock = some b) W ∧ W.ownsRow w.heap.size 3 1 rs (startsW l r k).length (ints (startsW l r k))
def BldRel2 (w : World) (l : List Cell) (r p : Nat) (rs : Value) (i : Value) (W : World) : Prop :=
  ∃ k : Nat, k ≤ (startsW l r l.length).length ∧ i = .int .i64 k ∧ WrG w p (putW (stN l r l.length) (((startsW l r l.length).take k).flatMap fun x => be4 (x.toNat % 4294967296))) (fun b => rs.ownBlock = some b) W ∧ W.ownsRow w.heap.size 3 1 rs (startsW l r l.length).length (ints (startsW l r l.length))
theorem crcN_lt (l : List UInt8) : crcN l < 4294967296 := Nat.xor_lt_two_pow (n := 32) (crcFold_lt l (by decide)) (by decide)
theorem WrG.strSize {w0 W : World} {p : Nat} {st : Option (List UInt8)} {G : Nat → Prop} (h : WrG w0 p st G W) : (strW st).size ≤ mostW := by
  obtain ⟨F, h1, _⟩ := h.ex
  obtain ⟨v, l, _, _, h3, h4, _⟩ := h1.ex
  rcases h3 with rfl | rfl
  · exact Nat.zero_le _
  · exact h4
theorem checkL_ok {l : List Cell} (h : checkL l = 0) : (∀ c ∈ l, checkN c = 0) ∧ adjC l = true := by
  unfold checkL at h
  split at h
  · cases h
  · rename_i h1
    split at h
    · rename_i h2
      exact ⟨fun c hc => (check_or c).resolve_right fun h3 => h1 ⟨c, hc, h3⟩, h2⟩
    · cases h
theorem check_seq {c : Cell} (h : checkN c = 0) : c.seq ≤ 72057594037927935 := by
  unfold checkN at h
  split at h
  · rename_i h1
    exact h1.2.2.2.2
  · cases h
theorem encAt_eq {l : List Cell} {r k : Nat} {x : Cell} (h : l[k]? = some x) : encAt l r k = encC (shAt l r k) x := by unfold encAt; rw [h]; rfl
theorem only_grown {G : Nat → Prop} {w w' : World} {row : Option Nat} (hg : w.grownBy w' row) (h : ∀ k, row = some k → G k) : Only G w w' :=
  ⟨hg.os, hg.tape, hg.output, hg.size, fun k hk hn => hg.block k hk (fun e => hn (h k e.symm))⟩
theorem extract_drop (s : ByteArray) (n : Nat) : (s.extract n s.size).data.toList = s.data.toList.drop n := by
  rw [ByteArray.data_extract, Array.toList_extract, List.extract_eq_take_drop]
  have h : s.data.toList.length = s.size := rfl
  rw [List.take_of_length_le (by rw [List.length_drop, h]; omega)]
theorem st_step {l : List Cell} {r k n m q : Nat} {x : Cell} (hx : l[k]? = some x) (hn : shAt l r k = n) (hm : x.key.size - n = m) (hq : x.seq = (q : Int)) :
    putW (putW (putW (putW (putW (putW (putW (stN l r k) (varN n)) (varN m)) (varN x.val.size)) [UInt8.ofNat (if x.gone then 1 else 0)]) (varN q)) (x.key.extract n x.key.size).data.toList) x.val.data.toList = stN l r (k + 1) := by
  rw [stN_succ, encAt_eq hx, hn]
  unfold encC
  rw [hm, hq, Int.toNat_natCast, extract_drop]
  simp only [putW_append, List.append_assoc]
theorem aheadS_succ {l : List Cell} {k : Nat} {x : Cell} (hx : l[k]? = some x) : x.key = aheadS l (k + 1) := by
  unfold aheadS
  rw [if_neg (by omega), Nat.add_sub_cancel, hx]
  rfl
theorem be4_len (n : Nat) : (be4 n).length = 4 := rfl
theorem flat_be4_len (l : List Nat) : (l.flatMap be4).length = l.length * 4 := by
  induction l with
  | nil => rfl
  | cons x l ih => rw [List.flatMap_cons, List.length_append, ih, be4_len, List.length_cons]; omega
theorem startsN_len (l : List Cell) (r k : Nat) : (startsN l r k).length = (startsW l r k).length := by simp [startsN, startsW]
theorem blockN_len (l : List Cell) (r : Nat) : (blockN l r).length = (bodyN l r l.length).length + (startsW l r l.length).length * 4 + 10 := by
  unfold blockN tailN
  simp only [List.length_append, flat_be4_len, be4_len, startsN_len]
  show _ + (_ + (4 + 2)) + 4 = _
  omega
/-- What is put behind the cells. -/
def footW (l : List Cell) (r : Nat) : List UInt8 := (startsW l r l.length).flatMap (fun x => be4 (x.toNat % 4294967296)) ++ (be4 ((startsW l r l.length).length % 4294967296) ++ be2 r)
theorem flat_be4_len' (l : List Int) : (l.flatMap fun x => be4 (x.toNat % 4294967296)).length = l.length * 4 := by
  induction l with
  | nil => rfl
  | cons x l ih => rw [List.flatMap_cons, List.length_append, ih, be4_len, List.length_cons]; omega
theorem footW_len (l : List Cell) (r : Nat) : (footW l r).length = (startsW l r l.length).length * 4 + 6 := by
  unfold footW
  simp only [List.length_append, flat_be4_len', be4_len]
  show _ + (4 + 2) = _
  omega
theorem footW_eq {l : List Cell} {r : Nat} (h : (blockN l r).length ≤ 65536) : footW l r = (startsN l r l.length).flatMap be4 ++ (be4 (startsN l r l.length).length ++ be2 r) := by
  rw [blockN_len] at h
  unfold footW
  rw [startsN_len, Nat.mod_eq_of_lt (show (startsW l r l.length).length < 4294967296 by omega)]
  congr 1
  unfold startsW startsN
  rw [List.flatMap_map, List.flatMap_map]
  rw [List.flatMap_def, List.flatMap_def]
  congr 1
  refine List.map_congr_left fun i hi => ?_
  have hil : i < l.length := by
    have := (List.mem_filter.1 hi).1
    simpa using this
  have hb := bodyN_mono l r (Nat.le_of_lt hil)
  have hst : stN l r i = some (bodyN l r i) := putW_nil _ (by unfold mostW; omega)
  rw [hst]
  show be4 ((((bodyN l r i).length : Nat) : Int).toNat % 4294967296) = be4 (bodyN l r i).length
  rw [Int.toNat_natCast, Nat.mod_eq_of_lt (by omega)]
theorem build_end {l : List Cell} {r : Nat} {st1 st2 : Option (List UInt8)} (h1 : st1 = putW (stN l r l.length) (footW l r)) (h2 : st2 = putW st1 (be4 (crcN (strW st1).data.toList))) :
    (if 65536 < lenW st2 then (([] : List UInt8), (3 : Int)) else (st2.getD [], errW st2)) = if (blockN l r).length ≤ 65536 then (blockN l r, 0) else ([], 3) := by
  have hl := blockN_len l r
  have hf := footW_len l r
  unfold stN at h1
  rw [putW_append] at h1
  have hlen : (bodyN l r l.length ++ footW l r).length + 4 = (blockN l r).length := by rw [List.length_append]; omega
  by_cases h3 : mostW < (bodyN l r l.length ++ footW l r).length
  · rw [putW_over _ h3] at h1
    subst h1
    have : st2 = none := h2
    subst this
    rw [if_neg (show ¬ 65536 < lenW none by decide), if_neg (c := (blockN l r).length ≤ 65536) (by unfold mostW at h3; omega)]
    rfl
  · rw [putW_nil _ (by omega)] at h1
    subst h1
    by_cases h4 : 65536 < (blockN l r).length
    · rw [if_neg (c := (blockN l r).length ≤ 65536) (by omega)]
      rcases hst : st2 with _ | z
      · rw [if_neg (show ¬ 65536 < lenW none by decide)]; rfl
      · have hz : z.length = (blockN l r).length := by
          rw [h2] at hst
          unfold putW at hst
          simp only [Option.bind_some] at hst
          split at hst
          · cases hst
          · cases hst
            rw [List.length_append, be4_len]; omega
        rw [if_pos (show 65536 < lenW (some z) from by show 65536 < z.length; omega)]
    · rw [if_pos (c := (blockN l r).length ≤ 65536) (by omega)]
      have ht : bodyN l r l.length ++ footW l r = tailN l r := by rw [footW_eq (by omega)]; rfl
      have hz : st2 = some (blockN l r) := by
        rw [h2]
        unfold putW
        simp only [Option.bind_some]
        rw [if_neg (by rw [be4_len]; unfold mostW; omega)]
        show some (_ ++ be4 (crcN (bodyN l r l.length ++ footW l r))) = _
        rw [ht]
        rfl
      subst hz
      rw [if_neg (show ¬ 65536 < lenW (some (blockN l r)) from by show ¬ 65536 < (blockN l r).length; omega)]
      rfl
set_option maxRecDepth 100000 in
set_option maxHeartbeats 4000000 in
theorem build_main {w : World} {v : Value} {l : List Cell} (h : Reads w v l.length 4 (cellVals l)) (hl : l.length ≤ 2932031007402) (hs : ∀ c ∈ l, 0 ≤ c.seq) (r : Nat) (hr1 : 1 ≤ r) (hr2 : r ≤ 64) (hc : checkL l = 0) :
    Calls Try.prog 37 #[v, .int .i64 r] w fun e w' => e = .returned (.tuple #[.string ⟨(buildN l r).1.toArray⟩, .int .i64 (buildN l r).2]) ∧ Below w.heap.size w w' := by
  obtain ⟨A, cap, rfl⟩ := h.form
  obtain ⟨i0, hi, hz0, hz1, hz2⟩ := info_parts Try.infoInt
  have hck := block_check h hl
  rw [hc] at hck
  have HCK := Lib.hid hck
  have H := Lib.hid h
  have HC := Lib.hid hc
  have hr3 : (1 : Int) ≤ (r : Int) := by omega
  have hr4 : (r : Int) ≤ 64 := by omega
  have hr5 : ¬ (r : Int) = 0 := by omega
  clear h hck hc
  go_enter Try.func37, Try.ntmps37
  go_wp2_with (first | (go_at_call 39; refine HCK.out.mono ?_; rintro e w1 ⟨rfl, hb1⟩) | (go_at_call 83; refine (writer_new _).mono ?_; rintro e w2 ⟨rfl, hw2, hb2, hs2⟩))
  obtain ⟨p, hp⟩ : ∃ p, w1.heap.size = p := ⟨_, rfl⟩
  rw [hp] at hw2 hb2 hs2 ⊢
  have hG : WrG w p (stN l r 0) (fun b => (Value.slice none 0 0).ownBlock = some b) w2 := ⟨⟨_, hw2.base (by rw [← hp]; exact hb1.size), fun k hk => by cases hk⟩, hb1.trans (hb2.mono (by rw [← hp]; exact hb1.size))⟩
  have HS2 := Lib.hid hs2
  have HP := Lib.hid hp
  clear hw2 hb2 hs2 hp hb1
  go_loopw [8, 9, 31] (BldRel w l r p) (fun _ _ i _ => l.length - (intOf i).toNat)
  case atStart => exact ⟨0, by omega, rfl, rfl, hG, World.ownsRow_nil _ _ _ _⟩
  case round =>
    obtain ⟨k, hk, rfl, rfl, hg, hrow⟩ := hrel
    by_cases hlt : k < l.length
    · obtain ⟨x, hx⟩ : ∃ x, l[k]? = some x := ⟨_, List.getElem?_eq_getElem hlt⟩
      obtain ⟨b, o, rfl, hbl, c0, c1, c2, c3⟩ := (H.out.kept hg.below).cell_at hx
      have j0 : (0 : Int) ≤ (k : Int) := by omega
      have j1 : (k : Int) < (l.length : Int) := by omega
      have hcx := (checkL_ok HC.out).1 x (List.mem_of_getElem? hx)
      obtain ⟨hks, hvs⟩ := check_sizes hcx
      have hsq := check_seq hcx
      obtain ⟨q, hq⟩ : ∃ q : Nat, x.seq = (q : Int) := ⟨x.seq.toNat, by have := hs x (List.mem_of_getElem? hx); omega⟩
      rw [hq] at c1 hsq
      have HQ := Lib.hid hq
      have HX := Lib.hid hx
      clear hx hcx hq
      by_cases hkr : k % r = 0
      · have hm0 : (k : Int) % (r : Int) = 0 := by
          have : ((k % r : Nat) : Int) = 0 := by rw [hkr]; rfl
          simpa using this
        have p1 : (startsW l r k).length + 1 ≤ maxLen := by have := startsW_len l r k; unfold maxLen; omega
        have p2 : ((startsW l r k).length + 1) * 8 ≤ 140737488355328 := by have := startsW_len l r k; omega
        have p3 : w.heap.size ≤ ((wr.alloc (.cells #[.string x.key, .int .u64 q, .string x.val, .bool x.gone] 25)).alloc (.cells #[.int .i64 (lenW (stN l r k) : Int)] 3)).heap.size := by have := hg.below.size; simp; omega
        have HG := Lib.hid hg
        have HR := Lib.hid hrow
        clear hg hrow
        go_upto_region 15 with (first | (go_at_call 84; refine ((HG.out.kept ((Below.refl _ _).alloc (Nat.le_refl _) _)).len).mono ?_; rintro e w4 ⟨rfl, rfl⟩) | (at_builtin; refine wpList_append_row rfl _ _ 42 rfl w.heap.size 3 i0 (.int .i64 0) 1 8 Try.underlying42 hi hz0 hz1 hz2 rfl (by decide) u8 _ _ rfl ((HR.out.alloc _).alloc _) ⟨wr.heap.size + 1, 0, none⟩ 1 1 [.int .i64 (lenW (stN l r k) : Int)] rfl rfl (by have := cell_one_new (wr.alloc (.cells #[.string x.key, .int .u64 q, .string x.val, .bool x.gone] 25)) (.int .i64 (lenW (stN l r k) : Int)) 3; rw [World.size_alloc] at this; exact this) (by simp [Value.oneCell']) p1 p2 p3 ?_; intro rs' w4 own4 hgr hfr))
        have T1 := HG.out.newer (G' := fun z => z = wr.heap.size ∨ rs'.ownBlock = some z) ((Only.of_below (((Below.refl _ _).alloc (Nat.le_refl _) _).alloc (by simp) _)).trans (only_grown hgr (fun k e => e))) (fun z hz => ?_) (fun z hz => (HR.out.lt z hz).1)
        rotate_left
        · rcases hz with rfl | hz
          · exact .inr ⟨Nat.le_refl _, by have := hgr.size; simp at this; omega⟩
          · rcases hfr z hz with h | h
            · exact .inl h
            · exact .inr ⟨by simp at h; omega, (own4.lt z hz).2⟩
        have T2 : Blk w4 wr.heap.size #[.string x.key, .int .u64 q, .string x.val, .bool x.gone] 25 := (hgr.block wr.heap.size (by simp; omega) (fun e => by have := (HR.out.lt _ e.symm).2; omega)).trans ((Blk.new wr _ 25).alloc _)
        have T3 : w4.ownsRow w.heap.size 3 1 rs' (startsW l r (k + 1)).length (ints (startsW l r (k + 1))) := by
          rw [startsW_yes l r k hkr]
          simpa [ints] using own4
        have T4 : sharedN (ByteArray.data ⟨#[]⟩).toList x.key.data.toList = shAt l r k := by unfold shAt; rw [if_pos hkr]; rfl
        clear own4 hgr hfr p1 p2 p3
        have hnk : shAt l r k ≤ x.key.size := by rw [← T4]; exact sharedN_le_right _ _
        have HNK := Lib.hid T4
        obtain ⟨n, hn⟩ : ∃ n, shAt l r k = n := ⟨_, rfl⟩
        rw [hn] at hnk T4
        have HN := Lib.hid hn
        clear hn HNK
        obtain ⟨x0, x1, x2, x3⟩ := cell4 T2
        have T3' := Lib.hid T3
        have HT4 := Lib.hid T4
        clear T3 T4
        go_upto_region 16 with (go_at_call 85; refine (shared_spec ⟨#[]⟩ x.key (by decide) _).mono ?_; rintro e w5 ⟨rfl, hb5⟩)
        rw [HT4.out]
        have U5 := T1.kept hb5
        have B5 := T2.kept hb5
        have R5 := own_kept T3'.out hb5
        obtain ⟨y0, y1, y2, y3⟩ := cell4 B5
        clear x0 x1 x2 x3
        obtain ⟨m, hm⟩ : ∃ m, x.key.size - n = m := ⟨_, rfl⟩
        have hsb : (x.key.size : Int) - (n : Int) = (m : Int) := by omega
        have hm1 : m ≤ 128 := by omega
        have HM := Lib.hid hm
        clear hm
        go_wp2_with fail
        refine (U5.varint n (by omega)).mono ?_
        rintro e w6 ⟨rfl, U6, G6, s6⟩
        have B6 := blk_same B5 (G6 _ (.inl rfl))
        have R6 := own_same R5 (fun g hg => G6 g (.inr hg))
        clear y0 y1 y2 y3
        obtain ⟨y0, y1, y2, y3⟩ := cell4 B6
        go_wp2_with fail
        refine (U6.varint m (by omega)).mono ?_
        rintro e w7 ⟨rfl, U7, G7, s7⟩
        have B7 := blk_same B6 (G7 _ (.inl rfl))
        have R7 := own_same R6 (fun g hg => G7 g (.inr hg))
        clear y0 y1 y2 y3
        obtain ⟨y0, y1, y2, y3⟩ := cell4 B7
        go_wp2_with fail
        refine (U7.varint x.val.size (by omega)).mono ?_
        rintro e w8 ⟨rfl, U8, G8, s8⟩
        have B8 := blk_same B7 (G8 _ (.inl rfl))
        have R8 := own_same R7 (fun g hg => G8 g (.inr hg))
        clear y0 y1 y2 y3
        obtain ⟨y0, y1, y2, y3⟩ := cell4 B8
        cases hgn : x.gone with
        | true =>
          rw [hgn] at y3
          go_wp2_with fail
          refine (U8.u8 1 (by decide)).mono ?_
          rintro e w9 ⟨rfl, U9, G9, s9⟩
          have B9 := blk_same B8 (G9 _ (.inl rfl))
          have R9 := own_same R8 (fun g hg => G9 g (.inr hg))
          clear y0 y1 y2 y3
          obtain ⟨y0, y1, y2, y3⟩ := cell4 B9
          go_wp2_with fail
          refine (U9.varint q (by omega)).mono ?_
          rintro e w10 ⟨rfl, U10, G10, s10⟩
          have B10 := blk_same B9 (G10 _ (.inl rfl))
          have R10 := own_same R9 (fun g hg => G10 g (.inr hg))
          clear y0 y1 y2 y3
          obtain ⟨y0, y1, y2, y3⟩ := cell4 B10
          go_wp2_with fail
          refine (U10.raw (x.key.extract n x.key.size)).mono ?_
          rintro e w11 ⟨rfl, U11, G11, s11⟩
          have B11 := blk_same B10 (G11 _ (.inl rfl))
          have R11 := own_same R10 (fun g hg => G11 g (.inr hg))
          clear y0 y1 y2 y3
          obtain ⟨y0, y1, y2, y3⟩ := cell4 B11
          go_wp2_with fail
          refine (U11.raw x.val).mono ?_
          rintro e w12 ⟨rfl, U12, G12, s12⟩
          have B12 := blk_same B11 (G12 _ (.inl rfl))
          have R12 := own_same R11 (fun g hg => G12 g (.inr hg))
          clear y0 y1 y2 y3
          obtain ⟨y0, y1, y2, y3⟩ := cell4 B12
          have HST := st_step HX.out HN.out HM.out HQ.out
          rw [hgn] at HST
          have HU := Lib.hid (show WrG w p (stN l r (k + 1)) (fun z => rs'.ownBlock = some z) w12 by
            rw [← HST]
            exact U12.less (fun z hz => .inr hz))
          have HR12 := Lib.hid R12
          have HAS := Lib.hid (aheadS_succ HX.out)
          clear HST R12 U5 U6 U7 U8 U9 U10 U11 U12 R5 R6 R7 R8 R9 R10 R11
          go_wp2_with fail
          go_roundw
          case rel => exact ⟨k + 1, by omega, by go_num, by rw [HAS.out], HU.out, HR12.out⟩
          case measure => simp [intOf]; omega
        | false =>
          rw [hgn] at y3
          go_wp2_with fail
          refine (U8.u8 0 (by decide)).mono ?_
          rintro e w9 ⟨rfl, U9, G9, s9⟩
          have B9 := blk_same B8 (G9 _ (.inl rfl))
          have R9 := own_same R8 (fun g hg => G9 g (.inr hg))
          clear y0 y1 y2 y3
          obtain ⟨y0, y1, y2, y3⟩ := cell4 B9
          go_wp2_with fail
          refine (U9.varint q (by omega)).mono ?_
          rintro e w10 ⟨rfl, U10, G10, s10⟩
          have B10 := blk_same B9 (G10 _ (.inl rfl))
          have R10 := own_same R9 (fun g hg => G10 g (.inr hg))
          clear y0 y1 y2 y3
          obtain ⟨y0, y1, y2, y3⟩ := cell4 B10
          go_wp2_with fail
          refine (U10.raw (x.key.extract n x.key.size)).mono ?_
          rintro e w11 ⟨rfl, U11, G11, s11⟩
          have B11 := blk_same B10 (G11 _ (.inl rfl))
          have R11 := own_same R10 (fun g hg => G11 g (.inr hg))
          clear y0 y1 y2 y3
          obtain ⟨y0, y1, y2, y3⟩ := cell4 B11
          go_wp2_with fail
          refine (U11.raw x.val).mono ?_
          rintro e w12 ⟨rfl, U12, G12, s12⟩
          have B12 := blk_same B11 (G12 _ (.inl rfl))
          have R12 := own_same R11 (fun g hg => G12 g (.inr hg))
          clear y0 y1 y2 y3
          obtain ⟨y0, y1, y2, y3⟩ := cell4 B12
          have HST := st_step HX.out HN.out HM.out HQ.out
          rw [hgn] at HST
          have HU := Lib.hid (show WrG w p (stN l r (k + 1)) (fun z => rs'.ownBlock = some z) w12 by
            rw [← HST]
            exact U12.less (fun z hz => .inr hz))
          have HR12 := Lib.hid R12
          have HAS := Lib.hid (aheadS_succ HX.out)
          clear HST R12 U5 U6 U7 U8 U9 U10 U11 U12 R5 R6 R7 R8 R9 R10 R11
          go_wp2_with fail
          go_roundw
          case rel => exact ⟨k + 1, by omega, by go_num, by rw [HAS.out], HU.out, HR12.out⟩
          case measure => simp [intOf]; omega
      · have hm0 : ¬ (k : Int) % (r : Int) = 0 := by
          intro h
          have : ((k % r : Nat) : Int) = 0 := by simpa using h
          omega
        have hk0 : 0 < k := by
          rcases Nat.eq_zero_or_pos k with h | h
          · subst h; exact absurd (Nat.zero_mod r) hkr
          · exact h
        obtain ⟨y, hy⟩ : ∃ y, l[k - 1]? = some y := ⟨_, List.getElem?_eq_getElem (by omega)⟩
        have hya : aheadS l k = y.key := by
          have := aheadS_succ hy
          rw [Nat.sub_add_cancel hk0] at this
          exact this.symm
        have hSz : (aheadS l k).size ≤ 128 := by
          rw [hya]
          exact (check_sizes ((checkL_ok HC.out).1 y (List.mem_of_getElem? hy))).1
        have T4 : sharedN (aheadS l k).data.toList x.key.data.toList = shAt l r k := by
          unfold shAt keyAt
          rw [if_neg hkr, hy, HX.out, hya]
          rfl
        have T1 := hg.newer (G' := fun z => z = wr.heap.size ∨ u8.ownBlock = some z) (W' := wr.alloc (.cells #[.string x.key, .int .u64 q, .string x.val, .bool x.gone] 25)) (Only.of_below ((Below.refl _ _).alloc (Nat.le_refl _) _)) (fun z hz => by
          rcases hz with rfl | hz
          · exact .inr ⟨Nat.le_refl _, by simp⟩
          · exact .inl hz) (fun z hz => (hrow.lt z hz).1)
        have T2 := Blk.new wr #[.string x.key, .int .u64 q, .string x.val, .bool x.gone] 25
        have T3 := hrow.alloc (.cells #[.string x.key, .int .u64 q, .string x.val, .bool x.gone] 25)
        rw [← startsW_no l r k hkr] at T3
        clear hg hrow hy hya
        go_upto_region 15 with fail
        have hnk : shAt l r k ≤ x.key.size := by rw [← T4]; exact sharedN_le_right _ _
        have HNK := Lib.hid T4
        obtain ⟨n, hn⟩ : ∃ n, shAt l r k = n := ⟨_, rfl⟩
        rw [hn] at hnk T4
        have HN := Lib.hid hn
        clear hn HNK
        obtain ⟨x0, x1, x2, x3⟩ := cell4 T2
        have T3' := Lib.hid T3
        have HT4 := Lib.hid T4
        clear T3 T4
        go_upto_region 16 with (go_at_call 85; refine (shared_spec (aheadS l k) x.key (by omega) _).mono ?_; rintro e w5 ⟨rfl, hb5⟩)
        rw [HT4.out]
        have U5 := T1.kept hb5
        have B5 := T2.kept hb5
        have R5 := own_kept T3'.out hb5
        obtain ⟨y0, y1, y2, y3⟩ := cell4 B5
        clear x0 x1 x2 x3
        obtain ⟨m, hm⟩ : ∃ m, x.key.size - n = m := ⟨_, rfl⟩
        have hsb : (x.key.size : Int) - (n : Int) = (m : Int) := by omega
        have hm1 : m ≤ 128 := by omega
        have HM := Lib.hid hm
        clear hm
        go_wp2_with fail
        refine (U5.varint n (by omega)).mono ?_
        rintro e w6 ⟨rfl, U6, G6, s6⟩
        have B6 := blk_same B5 (G6 _ (.inl rfl))
        have R6 := own_same R5 (fun g hg => G6 g (.inr hg))
        clear y0 y1 y2 y3
        obtain ⟨y0, y1, y2, y3⟩ := cell4 B6
        go_wp2_with fail
        refine (U6.varint m (by omega)).mono ?_
        rintro e w7 ⟨rfl, U7, G7, s7⟩
        have B7 := blk_same B6 (G7 _ (.inl rfl))
        have R7 := own_same R6 (fun g hg => G7 g (.inr hg))
        clear y0 y1 y2 y3
        obtain ⟨y0, y1, y2, y3⟩ := cell4 B7
        go_wp2_with fail
        refine (U7.varint x.val.size (by omega)).mono ?_
        rintro e w8 ⟨rfl, U8, G8, s8⟩
        have B8 := blk_same B7 (G8 _ (.inl rfl))
        have R8 := own_same R7 (fun g hg => G8 g (.inr hg))
        clear y0 y1 y2 y3
        obtain ⟨y0, y1, y2, y3⟩ := cell4 B8
        cases hgn : x.gone with
        | true =>
          rw [hgn] at y3
          go_wp2_with fail
          refine (U8.u8 1 (by decide)).mono ?_
          rintro e w9 ⟨rfl, U9, G9, s9⟩
          have B9 := blk_same B8 (G9 _ (.inl rfl))
          have R9 := own_same R8 (fun g hg => G9 g (.inr hg))
          clear y0 y1 y2 y3
          obtain ⟨y0, y1, y2, y3⟩ := cell4 B9
          go_wp2_with fail
          refine (U9.varint q (by omega)).mono ?_
          rintro e w10 ⟨rfl, U10, G10, s10⟩
          have B10 := blk_same B9 (G10 _ (.inl rfl))
          have R10 := own_same R9 (fun g hg => G10 g (.inr hg))
          clear y0 y1 y2 y3
          obtain ⟨y0, y1, y2, y3⟩ := cell4 B10
          go_wp2_with fail
          refine (U10.raw (x.key.extract n x.key.size)).mono ?_
          rintro e w11 ⟨rfl, U11, G11, s11⟩
          have B11 := blk_same B10 (G11 _ (.inl rfl))
          have R11 := own_same R10 (fun g hg => G11 g (.inr hg))
          clear y0 y1 y2 y3
          obtain ⟨y0, y1, y2, y3⟩ := cell4 B11
          go_wp2_with fail
          refine (U11.raw x.val).mono ?_
          rintro e w12 ⟨rfl, U12, G12, s12⟩
          have B12 := blk_same B11 (G12 _ (.inl rfl))
          have R12 := own_same R11 (fun g hg => G12 g (.inr hg))
          clear y0 y1 y2 y3
          obtain ⟨y0, y1, y2, y3⟩ := cell4 B12
          have HST := st_step HX.out HN.out HM.out HQ.out
          rw [hgn] at HST
          have HU := Lib.hid (show WrG w p (stN l r (k + 1)) (fun z => u8.ownBlock = some z) w12 by
            rw [← HST]
            exact U12.less (fun z hz => .inr hz))
          have HR12 := Lib.hid R12
          have HAS := Lib.hid (aheadS_succ HX.out)
          clear HST R12 U5 U6 U7 U8 U9 U10 U11 U12 R5 R6 R7 R8 R9 R10 R11
          go_wp2_with fail
          go_roundw
          case rel => exact ⟨k + 1, by omega, by go_num, by rw [HAS.out], HU.out, HR12.out⟩
          case measure => simp [intOf]; omega
        | false =>
          rw [hgn] at y3
          go_wp2_with fail
          refine (U8.u8 0 (by decide)).mono ?_
          rintro e w9 ⟨rfl, U9, G9, s9⟩
          have B9 := blk_same B8 (G9 _ (.inl rfl))
          have R9 := own_same R8 (fun g hg => G9 g (.inr hg))
          clear y0 y1 y2 y3
          obtain ⟨y0, y1, y2, y3⟩ := cell4 B9
          go_wp2_with fail
          refine (U9.varint q (by omega)).mono ?_
          rintro e w10 ⟨rfl, U10, G10, s10⟩
          have B10 := blk_same B9 (G10 _ (.inl rfl))
          have R10 := own_same R9 (fun g hg => G10 g (.inr hg))
          clear y0 y1 y2 y3
          obtain ⟨y0, y1, y2, y3⟩ := cell4 B10
          go_wp2_with fail
          refine (U10.raw (x.key.extract n x.key.size)).mono ?_
          rintro e w11 ⟨rfl, U11, G11, s11⟩
          have B11 := blk_same B10 (G11 _ (.inl rfl))
          have R11 := own_same R10 (fun g hg => G11 g (.inr hg))
          clear y0 y1 y2 y3
          obtain ⟨y0, y1, y2, y3⟩ := cell4 B11
          go_wp2_with fail
          refine (U11.raw x.val).mono ?_
          rintro e w12 ⟨rfl, U12, G12, s12⟩
          have B12 := blk_same B11 (G12 _ (.inl rfl))
          have R12 := own_same R11 (fun g hg => G12 g (.inr hg))
          clear y0 y1 y2 y3
          obtain ⟨y0, y1, y2, y3⟩ := cell4 B12
          have HST := st_step HX.out HN.out HM.out HQ.out
          rw [hgn] at HST
          have HU := Lib.hid (show WrG w p (stN l r (k + 1)) (fun z => u8.ownBlock = some z) w12 by
            rw [← HST]
            exact U12.less (fun z hz => .inr hz))
          have HR12 := Lib.hid R12
          have HAS := Lib.hid (aheadS_succ HX.out)
          clear HST R12 U5 U6 U7 U8 U9 U10 U11 U12 R5 R6 R7 R8 R9 R10 R11
          go_wp2_with fail
          go_roundw
          case rel => exact ⟨k + 1, by omega, by go_num, by rw [HAS.out], HU.out, HR12.out⟩
          case measure => simp [intOf]; omega
    · obtain rfl : k = l.length := by omega
      obtain ⟨A8, cap8, rfl⟩ := (Reads.of_own hrow).form
      have hsl := startsW_len l r l.length
      have hBN : buildN l (r : Int) = if (blockN l r).length ≤ 65536 then (blockN l r, 0) else ([], 3) := by
        unfold buildN
        rw [if_neg (by omega), if_neg (by rw [HC.out]; simp), Int.toNat_natCast]
      have HBN := Lib.hid hBN
      clear hBN
      go_wp2_with fail
      go_loopw [92] (BldRel2 w l r p (.slice A8 (startsW l r l.length).length cap8)) (fun i _ => (startsW l r l.length).length - (intOf i).toNat)
      case atStart =>
        exact ⟨0, by omega, rfl, by
          have e : putW (stN l r l.length) [] = stN l r l.length := by unfold stN; rw [putW_append, List.append_nil]
          rw [List.take_zero, List.flatMap_nil, e]; exact hg, hrow⟩
      case round =>
        obtain ⟨k, hk, rfl, hg, hrow⟩ := hrel
        by_cases hlt : k < (startsW l r l.length).length
        · obtain ⟨x, hx⟩ : ∃ x, (startsW l r l.length)[k]? = some x := ⟨_, List.getElem?_eq_getElem hlt⟩
          obtain ⟨b, o, rfl, hbl, c0⟩ := (Reads.of_own hrow).int_at hx
          have hx0 : 0 ≤ x := by
            unfold startsW at hx
            rw [List.getElem?_map] at hx
            obtain ⟨i, _, rfl⟩ := Option.map_eq_some_iff.1 hx
            omega
          obtain ⟨q, rfl⟩ : ∃ q : Nat, x = (q : Int) := ⟨x.toNat, by omega⟩
          have j0 : (0 : Int) ≤ (k : Int) := by omega
          have j1 : (k : Int) < ((startsW l r l.length).length : Int) := by omega
          have HX := Lib.hid hx
          have HR := Lib.hid hrow
          clear hx hrow
          go_wp2_with fail
          refine (hg.u32 (q % 4294967296) (Nat.mod_lt _ (by decide))).mono ?_
          rintro e w4 ⟨rfl, U4, G4, s4⟩
          have R4 := own_same HR.out (fun g hg => G4 g hg)
          have HU := Lib.hid U4
          have HR4 := Lib.hid R4
          clear U4 R4 hg
          go_wp2_with fail
          go_roundw
          case rel =>
            refine ⟨k + 1, by omega, by go_num, ?_, HR4.out⟩
            have h := HU.out
            rw [putW_append] at h
            rw [List.take_add_one, HX.out, List.flatMap_append]
            simpa using h
          case measure => simp [intOf]; omega
        · obtain rfl : k = (startsW l r l.length).length := by omega
          rw [List.take_length] at hg
          go_wp2_with fail
          refine (hg.u32 ((startsW l r l.length).length % 4294967296) (Nat.mod_lt _ (by decide))).mono ?_
          rintro e w4 ⟨rfl, U4, G4, s4⟩
          go_wp2_with fail
          refine (U4.u16 r (by omega)).mono ?_
          rintro e w5 ⟨rfl, U5, G5, s5⟩
          obtain ⟨st1, hst1⟩ : ∃ st1, putW (putW (putW (stN l r l.length) ((startsW l r l.length).flatMap fun x => be4 (x.toNat % 4294967296))) (be4 ((startsW l r l.length).length % 4294967296))) (be2 r) = st1 := ⟨_, rfl⟩
          rw [hst1] at U5
          have HS1 := Lib.hid (show st1 = putW (stN l r l.length) (footW l r) by
            rw [← hst1]
            unfold footW
            simp only [putW_append, List.append_assoc])
          have hsz := U5.strSize
          clear U4 hg hst1
          go_wp2_with fail
          refine U5.done.mono ?_
          rintro e w6 ⟨rfl, rfl⟩
          go_wp2_with fail
          refine (crc_spec (strW st1) _ (by unfold mostW at hsz; omega)).mono ?_
          rintro e w7 ⟨rfl, rfl⟩
          go_wp2_with fail
          refine (U5.u32 (crcN (strW st1).data.toList) (crcN_lt _)).mono ?_
          rintro e w8 ⟨rfl, U8, G8, s8⟩
          obtain ⟨st2, hst2⟩ : ∃ st2, putW st1 (be4 (crcN (strW st1).data.toList)) = st2 := ⟨_, rfl⟩
          rw [hst2] at U8
          have HE := Lib.hid (build_end HS1.out hst2.symm)
          have hbel := U8.below
          clear hst2 U5
          go_wp2_with fail
          refine U8.len.mono ?_
          rintro e w9 ⟨rfl, rfl⟩
          by_cases hbig : 65536 < lenW st2
          · have hbi : (65536 : Int) < (lenW st2 : Int) := by omega
            have HF := Lib.hid (show buildN l (r : Int) = ([], 3) by rw [HBN.out, ← HE.out, if_pos hbig])
            go_wp2_with fail
            go_ret2
            exact ⟨by rw [HF.out]; rfl, hbel⟩
          · have hbi : ¬ (65536 : Int) < (lenW st2 : Int) := by omega
            have HF := Lib.hid (show buildN l (r : Int) = (st2.getD [], errW st2) by rw [HBN.out, ← HE.out, if_neg hbig])
            go_wp2_with fail
            refine U8.done.mono ?_
            rintro e w9 ⟨rfl, rfl⟩
            go_wp2_with fail
            go_ret2
            exact ⟨by rw [HF.out]; rfl, hbel⟩

set_option maxRecDepth 100000 in
set_option maxHeartbeats 1000000 in
theorem build_spec {w : World} {v : Value} {l : List Cell} (h : Reads w v l.length 4 (cellVals l)) (hl : l.length ≤ 2932031007402) (hs : ∀ c ∈ l, 0 ≤ c.seq) (r : Int) :
    Calls Try.prog 37 #[v, .int .i64 r] w fun e w' => e = .returned (.tuple #[.string ⟨(buildN l r).1.toArray⟩, .int .i64 (buildN l r).2]) ∧ Below w.heap.size w w' := by
  by_cases hr1 : r < 1
  · have HB := Lib.hid (show buildN l r = ([], 1) by unfold buildN; rw [if_pos (.inl hr1)])
    clear h
    go_enter Try.func37, Try.ntmps37
    go_wp2_with fail
    go_ret2
    exact ⟨by rw [HB.out]; rfl, Below.refl _ _⟩
  by_cases hr2 : 64 < r
  · have HB := Lib.hid (show buildN l r = ([], 1) by unfold buildN; rw [if_pos (.inr hr2)])
    clear h
    go_enter Try.func37, Try.ntmps37
    go_wp2_with fail
    go_ret2
    exact ⟨by rw [HB.out]; rfl, Below.refl _ _⟩
  by_cases hc : checkL l = 0
  · obtain ⟨q, rfl⟩ : ∃ q : Nat, r = (q : Int) := ⟨r.toNat, by omega⟩
    exact build_main h hl hs q (by omega) (by omega) hc
  · have hck := block_check h hl
    have HCK := Lib.hid hck
    have HB := Lib.hid (show buildN l r = ([], checkL l) by unfold buildN; rw [if_neg (by omega), if_pos hc])
    have hr3 : 1 ≤ r := by omega
    have hr4 : r ≤ 64 := by omega
    have hne : (checkL l == 0) = false := by simpa using hc
    obtain ⟨z, hz⟩ : ∃ z, checkL l = z := ⟨_, rfl⟩
    rw [hz] at HCK HB hne hc
    clear h hck hz
    go_enter Try.func37, Try.ntmps37
    go_wp2_with (go_at_call 39; refine HCK.out.mono ?_; rintro e w1 ⟨rfl, hb1⟩)
    go_ret2
    exact ⟨by rw [HB.out]; rfl, hb1⟩
end Go.Proofs.Ytbcaiegglbdonaa

/-
  A block built: the reference's Build.
-/
namespace Go.Proofs.Ytbcaiegglbdonaa
open Go Go.RowKit

/-- The bytes and the starts, two rows of the call's own. -/
structure RB (w : World) (bs : Value) (L : List UInt8) (st : Value) (S : List Int) (W : World) : Prop where
  own1 : W.ownsRow w.heap.size 5 1 bs L.length (bv L)
  own2 : W.ownsRow w.heap.size 3 1 st S.length (ints S)
  below : Below w.heap.size w W
theorem RB.kept {w W W' : World} {bs st : Value} {L : List UInt8} {S : List Int} (h : RB w bs L st S W) (hb : Below W.heap.size W W') : RB w bs L st S W' :=
  ⟨own_kept h.own1 hb, own_kept h.own2 hb, h.below.trans (hb.mono h.below.size)⟩
theorem row_type {W : World} {B e k n : Nat} {v : Value} {xs : List Value} (h : W.ownsRow B e k v n xs) {g : Nat} (hg : v.ownBlock = some g) : ∃ cur, Blk W g cur e := by
  rcases h.2 with ⟨h1, _⟩ | ⟨g', cap', cur, e1, hb, hg', _⟩
  · rw [h1] at hg; cases hg
  · rw [e1] at hg
    cases hg
    exact ⟨cur, hg'⟩
theorem blk_type {W : World} {b : Nat} {arr arr' : Array Value} {t t' : TypeId} (h : Blk W b arr t) (h' : Blk W b arr' t') : t = t' := by
  have := h.symm.trans h'
  injection this with this
  injection this with _ e _
theorem grown_other {W W' : World} {B e k n : Nat} {v : Value} {xs : List Value} (h : W.ownsRow B e k v n xs) (hgr : W.grownBy W' v.ownBlock) {b : Nat} {arr : Array Value} {t : TypeId} (hb : Blk W b arr t) (hne : t ≠ e) : Blk W' b arr t := by
  refine (hgr.block b hb.lt fun e1 => ?_).trans hb
  obtain ⟨cur, hc⟩ := row_type h e1.symm
  exact hne (blk_type hb hc)
theorem grown_row {W W' : World} {B e k n B' e' k' n' : Nat} {v v' : Value} {xs xs' : List Value} (h : W.ownsRow B e k v n xs) (hgr : W.grownBy W' v.ownBlock) (h' : W.ownsRow B' e' k' v' n' xs') (hne : e' ≠ e) : W'.ownsRow B' e' k' v' n' xs' := by
  refine own_same h' fun g hg => ?_
  obtain ⟨cur, hc⟩ := row_type h' hg
  exact (grown_other h hgr hc hne).trans hc.symm
theorem RB.app {w W W' : World} {bs bs' st : Value} {L d : List UInt8} {S : List Int} {n : Nat} (h : RB w bs L st S W) (how : W'.ownsRow w.heap.size 5 1 bs' n (bv L ++ bv d)) (hn : n = L.length + d.length) (hgr : W.grownBy W' bs.ownBlock) : RB w bs' (L ++ d) st S W' :=
  ⟨by rw [bv_append, List.length_append, ← hn]; exact how, grown_row h.own1 hgr h.own2 (by decide), h.below.grown hgr h.below.size (fun k hk => (h.own1.lt k hk).1)⟩
theorem RB.start {w W W' : World} {bs st st' : Value} {L : List UInt8} {S : List Int} {x : Int} (h : RB w bs L st S W) (how : W'.ownsRow w.heap.size 3 1 st' (S.length + 1) (ints S ++ [.int .i64 x])) (hgr : W.grownBy W' st.ownBlock) : RB w bs L st' (S ++ [x]) W' :=
  ⟨grown_row h.own2 hgr h.own1 (by decide), by rw [List.length_append]; simpa [ints] using how, h.below.grown hgr h.below.size (fun k hk => (h.own2.lt k hk).1)⟩
theorem strCells_bv (s : ByteArray) : Lib.strCells s = bv s.data.toList := rfl
def startsI (l : List Cell) (r k : Nat) : List Int := (startsN l r k).map fun x : Nat => (x : Int)
theorem startsI_yes (l : List Cell) (r k : Nat) (h : k % r = 0) : startsI l r (k + 1) = startsI l r k ++ [((bodyN l r k).length : Int)] := by
  unfold startsI startsN
  rw [List.range_succ, List.filter_append]
  simp [h]
theorem startsI_no (l : List Cell) (r k : Nat) (h : ¬ k % r = 0) : startsI l r (k + 1) = startsI l r k := by
  unfold startsI startsN
  rw [List.range_succ, List.filter_append]
  simp [h]
theorem startsI_len (l : List Cell) (r k : Nat) : (startsI l r k).length ≤ k := by
  unfold startsI startsN
  rw [List.length_map, List.length_map]
  exact Nat.le_trans (List.length_filter_le _ _) (by simp)
theorem body_step {l : List Cell} {r k n m q : Nat} {x : Cell} (hx : l[k]? = some x) (hn : shAt l r k = n) (hm : x.key.size - n = m) (hq : x.seq = (q : Int)) :
    bodyN l r k ++ varN n ++ varN m ++ varN x.val.size ++ [UInt8.ofNat (if x.gone then 1 else 0)] ++ varN q ++ (x.key.extract n x.key.size).data.toList ++ x.val.data.toList = bodyN l r (k + 1) := by
  rw [bodyN_succ, encAt_eq hx, hn]
  unfold encC
  rw [hm, hq, Int.toNat_natCast, extract_drop]
  simp only [List.append_assoc]
theorem rcrc_list (L : List UInt8) (w : World) (h : L.length ≤ 4611686018427387904) : Calls Try.prog 96 #[.string ⟨L.toArray⟩] w fun e w' => e = .returned (.int .u32 ((crcN L : Nat) : Int)) ∧ w' = w :=
  ref_crc ⟨L.toArray⟩ w h
def RBRel (w : World) (l : List Cell) (r : Nat) (bs st i : Value) (W : World) : Prop :=
  ∃ k : Nat, k ≤ l.length ∧ i = .int .i64 k ∧ RB w bs (bodyN l r k) st (startsI l r k) W ∧ (bodyN l r k).length ≤ 65536
def RBRel2 (w : World) (l : List Cell) (r : Nat) (st bs i : Value) (W : World) : Prop :=
  ∃ k : Nat, k ≤ (startsI l r l.length).length ∧ i = .int .i64 k ∧ RB w bs (bodyN l r l.length ++ ((startsN l r l.length).take k).flatMap be4) st (startsI l r l.length) W ∧ (bodyN l r l.length ++ ((startsN l r l.length).take k).flatMap be4).length ≤ 65536 + 4 * k
set_option maxRecDepth 100000 in
set_option maxHeartbeats 4000000 in
theorem rbuild_main {w : World} {v : Value} {l : List Cell} (h : Reads w v l.length 4 (cellVals l)) (hl : l.length ≤ 2932031007402) (hs : ∀ c ∈ l, 0 ≤ c.seq) (r : Nat) (hr1 : 1 ≤ r) (hr2 : r ≤ 64) (hc : checkL l = 0) :
    Calls Try.prog 38 #[v, .int .i64 r] w fun e w' => e = .returned (.tuple #[.string ⟨(buildN l r).1.toArray⟩, .int .i64 (buildN l r).2]) ∧ Below w.heap.size w w' := by
  obtain ⟨A, cap, rfl⟩ := h.form
  obtain ⟨i0, hi, hz0, hz1, hz2⟩ := info_parts Try.infoInt
  obtain ⟨i1, hi', hy0, hy1, hy2⟩ := info_parts Try.infoByte
  have hck := ref_check_list h hl
  rw [hc] at hck
  have HCK := Lib.hid hck
  have H := Lib.hid h
  have HC := Lib.hid hc
  have hBN : buildN l (r : Int) = if (blockN l r).length ≤ 65536 then (blockN l r, 0) else ([], 3) := by
    unfold buildN
    rw [if_neg (by omega), if_neg (by rw [hc]; simp), Int.toNat_natCast]
  have HBN := Lib.hid hBN
  have hr3 : (1 : Int) ≤ (r : Int) := by omega
  have hr4 : (r : Int) ≤ 64 := by omega
  have hr5 : ¬ (r : Int) = 0 := by omega
  clear h hck hc hBN
  go_enter Try.func38, Try.ntmps38
  go_wp2_with (go_at_call 40; refine HCK.out.mono ?_; rintro e w1 ⟨rfl, hb1⟩)
  go_loopw [7, 8, 28] (RBRel w l r) (fun _ _ i _ => l.length - (intOf i).toNat)
  case atStart => exact ⟨0, by omega, rfl, ⟨World.ownsRow_nil _ _ _ _, World.ownsRow_nil _ _ _ _, hb1⟩, by simp [bodyN]⟩
  case round =>
    obtain ⟨k, hk, rfl, hRB, hL⟩ := hrel
    by_cases hlt : k < l.length
    · obtain ⟨x, hx⟩ : ∃ x, l[k]? = some x := ⟨_, List.getElem?_eq_getElem hlt⟩
      obtain ⟨b, o, rfl, hbl, c0, c1, c2, c3⟩ := (H.out.kept hRB.below).cell_at hx
      have j0 : (0 : Int) ≤ (k : Int) := by omega
      have j1 : (k : Int) < (l.length : Int) := by omega
      have hcx := (checkL_ok HC.out).1 x (List.mem_of_getElem? hx)
      obtain ⟨hks, hvs⟩ := check_sizes hcx
      have hsq := check_seq hcx
      obtain ⟨q, hq⟩ : ∃ q : Nat, x.seq = (q : Int) := ⟨x.seq.toNat, by have := hs x (List.mem_of_getElem? hx); omega⟩
      rw [hq] at c1 hsq
      have HQ := Lib.hid hq
      have HX := Lib.hid hx
      clear hx hcx hq
      by_cases hkr : k % r = 0
      · have hm0 : (k : Int) % (r : Int) = 0 := by
          have : ((k % r : Nat) : Int) = 0 := by rw [hkr]; rfl
          simpa using this
        have p1 : (startsI l r k).length + 1 ≤ maxLen := by have := startsI_len l r k; unfold maxLen; omega
        have p2 : ((startsI l r k).length + 1) * 8 ≤ 140737488355328 := by have := startsI_len l r k; omega
        have p3 : w.heap.size ≤ ((wr.alloc (.cells #[.string x.key, .int .u64 q, .string x.val, .bool x.gone] 25)).alloc (.cells #[.int .i64 ((bodyN l r k).length : Int)] 3)).heap.size := by have := hRB.below.size; simp; omega
        have hBx := Blk.new wr #[.string x.key, .int .u64 q, .string x.val, .bool x.gone] 25
        have h0 := hRB.kept ((Below.refl _ _).alloc (Nat.le_refl _) (.cells #[.string x.key, .int .u64 q, .string x.val, .bool x.gone] 25))
        have h0' := h0.kept ((Below.refl _ _).alloc (Nat.le_refl _) (.cells #[.int .i64 ((bodyN l r k).length : Int)] 3))
        obtain ⟨Ab, cb, rfl⟩ := (Reads.of_own hRB.own1).form
        have HG := Lib.hid h0'
        have HBX := Lib.hid (hBx.alloc (.cells #[.int .i64 ((bodyN l r k).length : Int)] 3))
        clear hRB h0 h0' hBx
        go_upto_region 15 with (at_builtin; refine wpList_append_row rfl _ _ 42 rfl w.heap.size 3 i0 (.int .i64 0) 1 8 Try.underlying42 hi hz0 hz1 hz2 rfl (by decide) u8 _ _ rfl HG.out.own2 ⟨wr.heap.size + 1, 0, none⟩ 1 1 [.int .i64 ((bodyN l r k).length : Int)] rfl rfl (by have := cell_one_new (wr.alloc (.cells #[.string x.key, .int .u64 q, .string x.val, .bool x.gone] 25)) (.int .i64 ((bodyN l r k).length : Int)) 3; rw [World.size_alloc] at this; exact this) (by simp [Value.oneCell']) p1 p2 p3 ?_; intro st' w4 own4 hgr hfr)
        have R4 := HG.out.start own4 hgr
        rw [← startsI_yes l r k hkr] at R4
        have B4 := grown_other HG.out.own2 hgr HBX.out (by decide)
        have T4 : shAt l r k = 0 := by unfold shAt; rw [if_pos hkr]
        have hnk : 0 ≤ x.key.size := Nat.zero_le _
        clear own4 hgr hfr p1 p2 p3
        obtain ⟨m, hm⟩ : ∃ m, x.key.size - 0 = m := ⟨_, rfl⟩
        have hsb : (x.key.size : Int) - 0 = (m : Int) := by omega
        have hm1 : m ≤ 128 := by omega
        have hn1 : 0 ≤ 128 := by omega
        have HM := Lib.hid hm
        have HN := Lib.hid T4
        have hl1 := hL
        obtain ⟨L1, hL1⟩ : ∃ L1, bodyN l r k = L1 := ⟨_, rfl⟩
        rw [hL1] at R4 hl1 ⊢
        have HE1 := Lib.hid hL1
        clear hm T4 hL1 hL
        obtain ⟨y0, y1, y2, y3⟩ := cell4 B4
        have R1 := R4
        have B1 := B4
        clear R4 B4
        cases hgn : x.gone with
        | true =>
          rw [hgn] at y3
          go_wp2_with fail
          refine (ref_varint 0 (by omega) _).mono ?_
          rintro e u1 ⟨rfl, hb1⟩
          have Q1 := R1.kept hb1
          have C1 := B1.kept hb1
          have V1 := varN_len 9 (0) (by omega)
          clear y0 y1 y2 y3
          obtain ⟨y0, y1, y2, y3⟩ := cell4 C1
          have P1 : L1.length + (ByteArray.mk (varN 0).toArray).size ≤ maxLen := by have e1 : (ByteArray.mk (varN 0).toArray).size = (varN 0).length := rfl; rw [e1]; unfold maxLen; omega
          have P2 : L1.length + (ByteArray.mk (varN 0).toArray).size ≤ 140737488355328 := by have e1 : (ByteArray.mk (varN 0).toArray).size = (varN 0).length := rfl; rw [e1]; omega
          go_wp2_with (at_builtin; refine Lib.wpList_append_own_string _ rfl _ _ 74 9 rfl w.heap.size 5 i1 Try.underlying74 Try.underlying9 hi' hy0 hy1 hy2 _ L1.length (bv L1) rfl Q1.own1 (ByteArray.mk (varN 0).toArray) rfl P1 P2 Q1.below.size ?_)
          intro vb2 w2 ow hgr _
          have R2 := Q1.app (d := varN 0) ow rfl hgr
          have B2 := grown_other Q1.own1 hgr C1 (by decide)
          obtain ⟨L2, hL2⟩ : ∃ L2, L1 ++ varN 0 = L2 := ⟨_, rfl⟩
          have ll2 := @List.length_append _ L1 (varN 0)
          have hl2 : L2.length ≤ 65546 := by rw [← hL2, ll2]; omega
          rw [hL2] at R2
          clear ow hgr
          obtain ⟨A2, cp2, rfl⟩ := (Reads.of_own R2.own1).form
          have HE2 := Lib.hid hL2
          clear hL2 ll2 y0 y1 y2 y3 P1 P2 Q1 C1 R1 B1
          obtain ⟨y0, y1, y2, y3⟩ := cell4 B2
          go_wp2_with fail
          refine (ref_varint m (by omega) _).mono ?_
          rintro e u2 ⟨rfl, hb2⟩
          have Q2 := R2.kept hb2
          have C2 := B2.kept hb2
          have V2 := varN_len 9 (m) (by omega)
          clear y0 y1 y2 y3
          obtain ⟨y0, y1, y2, y3⟩ := cell4 C2
          have P1 : L2.length + (ByteArray.mk (varN m).toArray).size ≤ maxLen := by have e1 : (ByteArray.mk (varN m).toArray).size = (varN m).length := rfl; rw [e1]; unfold maxLen; omega
          have P2 : L2.length + (ByteArray.mk (varN m).toArray).size ≤ 140737488355328 := by have e1 : (ByteArray.mk (varN m).toArray).size = (varN m).length := rfl; rw [e1]; omega
          go_wp2_with (at_builtin; refine Lib.wpList_append_own_string _ rfl _ _ 74 9 rfl w.heap.size 5 i1 Try.underlying74 Try.underlying9 hi' hy0 hy1 hy2 _ L2.length (bv L2) rfl Q2.own1 (ByteArray.mk (varN m).toArray) rfl P1 P2 Q2.below.size ?_)
          intro vb3 w3 ow hgr _
          have R3 := Q2.app (d := varN m) ow rfl hgr
          have B3 := grown_other Q2.own1 hgr C2 (by decide)
          obtain ⟨L3, hL3⟩ : ∃ L3, L2 ++ varN m = L3 := ⟨_, rfl⟩
          have ll3 := @List.length_append _ L2 (varN m)
          have hl3 : L3.length ≤ 65556 := by rw [← hL3, ll3]; omega
          rw [hL3] at R3
          clear ow hgr
          obtain ⟨A3, cp3, rfl⟩ := (Reads.of_own R3.own1).form
          have HE3 := Lib.hid hL3
          clear hL3 ll3 y0 y1 y2 y3 P1 P2 Q2 C2 R2 B2
          obtain ⟨y0, y1, y2, y3⟩ := cell4 B3
          go_wp2_with fail
          refine (ref_varint x.val.size (by omega) _).mono ?_
          rintro e u3 ⟨rfl, hb3⟩
          have Q3 := R3.kept hb3
          have C3 := B3.kept hb3
          have V3 := varN_len 9 (x.val.size) (by omega)
          clear y0 y1 y2 y3
          obtain ⟨y0, y1, y2, y3⟩ := cell4 C3
          have P1 : L3.length + (ByteArray.mk (varN x.val.size).toArray).size ≤ maxLen := by have e1 : (ByteArray.mk (varN x.val.size).toArray).size = (varN x.val.size).length := rfl; rw [e1]; unfold maxLen; omega
          have P2 : L3.length + (ByteArray.mk (varN x.val.size).toArray).size ≤ 140737488355328 := by have e1 : (ByteArray.mk (varN x.val.size).toArray).size = (varN x.val.size).length := rfl; rw [e1]; omega
          go_wp2_with (at_builtin; refine Lib.wpList_append_own_string _ rfl _ _ 74 9 rfl w.heap.size 5 i1 Try.underlying74 Try.underlying9 hi' hy0 hy1 hy2 _ L3.length (bv L3) rfl Q3.own1 (ByteArray.mk (varN x.val.size).toArray) rfl P1 P2 Q3.below.size ?_)
          intro vb4 w4 ow hgr _
          have R4 := Q3.app (d := varN x.val.size) ow rfl hgr
          have B4 := grown_other Q3.own1 hgr C3 (by decide)
          obtain ⟨L4, hL4⟩ : ∃ L4, L3 ++ varN x.val.size = L4 := ⟨_, rfl⟩
          have ll4 := @List.length_append _ L3 (varN x.val.size)
          have hl4 : L4.length ≤ 65566 := by rw [← hL4, ll4]; omega
          rw [hL4] at R4
          clear ow hgr
          obtain ⟨A4, cp4, rfl⟩ := (Reads.of_own R4.own1).form
          have HE4 := Lib.hid hL4
          clear hL4 ll4 y0 y1 y2 y3 P1 P2 Q3 C3 R3 B3
          obtain ⟨y0, y1, y2, y3⟩ := cell4 B4
          have P1 : L4.length + 1 ≤ maxLen := by unfold maxLen; omega
          have P2 : (L4.length + 1) * 1 ≤ 140737488355328 := by omega
          have Q4 := R4.kept ((Below.refl _ _).alloc (Nat.le_refl _) (.cells #[.int .u8 1] 5))
          have C4 := B4.alloc (.cells #[.int .u8 1] 5)
          have P3 := Q4.below.size
          go_wp2_with (at_builtin; refine wpList_append_row rfl _ _ 74 rfl w.heap.size 5 i1 (.int .u8 0) 1 1 Try.underlying74 hi' hy0 hy1 hy2 rfl (by decide) _ L4.length (bv L4) rfl Q4.own1 ⟨w4.heap.size, 0, none⟩ 1 1 [.int .u8 1] rfl rfl (cell_one_new _ _ _) (by simp [Value.oneCell']) P1 P2 P3 ?_)
          intro vb5 w5 ow hgr _
          have R5 := Q4.app (d := [UInt8.ofNat 1]) ow rfl hgr
          have B5 := grown_other Q4.own1 hgr C4 (by decide)
          obtain ⟨L5, hL5⟩ : ∃ L5, L4 ++ [UInt8.ofNat 1] = L5 := ⟨_, rfl⟩
          have ll5 := @List.length_append _ L4 ([UInt8.ofNat 1])
          have hl5 : L5.length ≤ 65567 := by rw [← hL5, ll5]; simp only [List.length_cons, List.length_nil]; omega
          rw [hL5] at R5
          clear ow hgr
          obtain ⟨A5, cp5, rfl⟩ := (Reads.of_own R5.own1).form
          have HE5 := Lib.hid hL5
          clear hL5 ll5 y0 y1 y2 y3 P1 P2 Q4 C4 R4 B4
          obtain ⟨y0, y1, y2, y3⟩ := cell4 B5
          go_wp2_with fail
          refine (ref_varint q (by omega) _).mono ?_
          rintro e u5 ⟨rfl, hb5⟩
          have Q5 := R5.kept hb5
          have C5 := B5.kept hb5
          have V5 := varN_len 9 (q) (by omega)
          clear y0 y1 y2 y3
          obtain ⟨y0, y1, y2, y3⟩ := cell4 C5
          have P1 : L5.length + (ByteArray.mk (varN q).toArray).size ≤ maxLen := by have e1 : (ByteArray.mk (varN q).toArray).size = (varN q).length := rfl; rw [e1]; unfold maxLen; omega
          have P2 : L5.length + (ByteArray.mk (varN q).toArray).size ≤ 140737488355328 := by have e1 : (ByteArray.mk (varN q).toArray).size = (varN q).length := rfl; rw [e1]; omega
          go_wp2_with (at_builtin; refine Lib.wpList_append_own_string _ rfl _ _ 74 9 rfl w.heap.size 5 i1 Try.underlying74 Try.underlying9 hi' hy0 hy1 hy2 _ L5.length (bv L5) rfl Q5.own1 (ByteArray.mk (varN q).toArray) rfl P1 P2 Q5.below.size ?_)
          intro vb6 w6 ow hgr _
          have R6 := Q5.app (d := varN q) ow rfl hgr
          have B6 := grown_other Q5.own1 hgr C5 (by decide)
          obtain ⟨L6, hL6⟩ : ∃ L6, L5 ++ varN q = L6 := ⟨_, rfl⟩
          have ll6 := @List.length_append _ L5 (varN q)
          have hl6 : L6.length ≤ 65577 := by rw [← hL6, ll6]; omega
          rw [hL6] at R6
          clear ow hgr
          obtain ⟨A6, cp6, rfl⟩ := (Reads.of_own R6.own1).form
          have HE6 := Lib.hid hL6
          clear hL6 ll6 y0 y1 y2 y3 P1 P2 Q5 C5 R5 B5
          obtain ⟨y0, y1, y2, y3⟩ := cell4 B6
          have hsx : (x.key).size ≤ 128 := by omega
          have hsx2 : ((x.key).data.toList).length ≤ 128 := hsx
          have P1 : L6.length + (x.key).size ≤ maxLen := by unfold maxLen; omega
          have P2 : L6.length + (x.key).size ≤ 140737488355328 := by omega
          have Q6 := R6
          have C6 := B6
          go_wp2_with (at_builtin; refine Lib.wpList_append_own_string _ rfl _ _ 74 9 rfl w.heap.size 5 i1 Try.underlying74 Try.underlying9 hi' hy0 hy1 hy2 _ L6.length (bv L6) rfl Q6.own1 (x.key) rfl P1 P2 Q6.below.size ?_)
          intro vb7 w7 ow hgr _
          have R7 := Q6.app (d := (x.key).data.toList) ow (by first | rfl | (rw [extract_drop, List.length_drop]; rfl)) hgr
          have B7 := grown_other Q6.own1 hgr C6 (by decide)
          obtain ⟨L7, hL7⟩ : ∃ L7, L6 ++ (x.key).data.toList = L7 := ⟨_, rfl⟩
          have ll7 := @List.length_append _ L6 ((x.key).data.toList)
          have hl7 : L7.length ≤ 65705 := by rw [← hL7, ll7]; omega
          rw [hL7] at R7
          clear ow hgr
          obtain ⟨A7, cp7, rfl⟩ := (Reads.of_own R7.own1).form
          have HE7 := Lib.hid hL7
          clear hL7 ll7 y0 y1 y2 y3 P1 P2 Q6 C6 R6 B6
          obtain ⟨y0, y1, y2, y3⟩ := cell4 B7
          have hsx : (x.val).size ≤ 1024 := by omega
          have hsx2 : ((x.val).data.toList).length ≤ 1024 := hsx
          have P1 : L7.length + (x.val).size ≤ maxLen := by unfold maxLen; omega
          have P2 : L7.length + (x.val).size ≤ 140737488355328 := by omega
          have Q7 := R7
          have C7 := B7
          go_wp2_with (at_builtin; refine Lib.wpList_append_own_string _ rfl _ _ 74 9 rfl w.heap.size 5 i1 Try.underlying74 Try.underlying9 hi' hy0 hy1 hy2 _ L7.length (bv L7) rfl Q7.own1 (x.val) rfl P1 P2 Q7.below.size ?_)
          intro vb8 w8 ow hgr _
          have R8 := Q7.app (d := (x.val).data.toList) ow (by first | rfl | (rw [extract_drop, List.length_drop]; rfl)) hgr
          have B8 := grown_other Q7.own1 hgr C7 (by decide)
          obtain ⟨L8, hL8⟩ : ∃ L8, L7 ++ (x.val).data.toList = L8 := ⟨_, rfl⟩
          have ll8 := @List.length_append _ L7 ((x.val).data.toList)
          have hl8 : L8.length ≤ 66729 := by rw [← hL8, ll8]; omega
          rw [hL8] at R8
          clear ow hgr
          obtain ⟨A8, cp8, rfl⟩ := (Reads.of_own R8.own1).form
          have HE8 := Lib.hid hL8
          clear hL8 ll8 y0 y1 y2 y3 P1 P2 Q7 C7 R7 B7
          obtain ⟨y0, y1, y2, y3⟩ := cell4 B8
          have hfin : L8 = bodyN l r (k + 1) := by
            have h := body_step HX.out HN.out HM.out HQ.out
            rw [hgn, HE1.out, extract_drop, List.drop_zero] at h
            rw [← h, ← HE8.out, ← HE7.out, ← HE6.out, ← HE5.out, ← HE4.out, ← HE3.out, ← HE2.out]
            rfl
          have HF := Lib.hid hfin
          clear hfin
          by_cases hbig : 65536 < L8.length
          · have hbi : (65536 : Int) < (L8.length : Int) := by omega
            have HB := Lib.hid (show buildN l (r : Int) = ([], 3) by
              rw [HBN.out, if_neg]
              have := bodyN_mono l r (show k + 1 ≤ l.length by omega)
              rw [blockN_len]
              rw [HF.out] at hbig
              omega)
            have hbel := R8.below
            go_wp2_with fail
            go_ret2
            exact ⟨by rw [HB.out]; rfl, hbel⟩
          · have hbi : ¬ (65536 : Int) < (L8.length : Int) := by omega
            have HR8 := Lib.hid R8
            clear R8
            go_wp2_with fail
            go_roundw
            case rel => exact ⟨k + 1, by omega, by go_num, by rw [← HF.out]; exact HR8.out, by rw [← HF.out]; omega⟩
            case measure => simp [intOf]; omega
        | false =>
          rw [hgn] at y3
          go_wp2_with fail
          refine (ref_varint 0 (by omega) _).mono ?_
          rintro e u1 ⟨rfl, hb1⟩
          have Q1 := R1.kept hb1
          have C1 := B1.kept hb1
          have V1 := varN_len 9 (0) (by omega)
          clear y0 y1 y2 y3
          obtain ⟨y0, y1, y2, y3⟩ := cell4 C1
          have P1 : L1.length + (ByteArray.mk (varN 0).toArray).size ≤ maxLen := by have e1 : (ByteArray.mk (varN 0).toArray).size = (varN 0).length := rfl; rw [e1]; unfold maxLen; omega
          have P2 : L1.length + (ByteArray.mk (varN 0).toArray).size ≤ 140737488355328 := by have e1 : (ByteArray.mk (varN 0).toArray).size = (varN 0).length := rfl; rw [e1]; omega
          go_wp2_with (at_builtin; refine Lib.wpList_append_own_string _ rfl _ _ 74 9 rfl w.heap.size 5 i1 Try.underlying74 Try.underlying9 hi' hy0 hy1 hy2 _ L1.length (bv L1) rfl Q1.own1 (ByteArray.mk (varN 0).toArray) rfl P1 P2 Q1.below.size ?_)
          intro vb2 w2 ow hgr _
          have R2 := Q1.app (d := varN 0) ow rfl hgr
          have B2 := grown_other Q1.own1 hgr C1 (by decide)
          obtain ⟨L2, hL2⟩ : ∃ L2, L1 ++ varN 0 = L2 := ⟨_, rfl⟩
          have ll2 := @List.length_append _ L1 (varN 0)
          have hl2 : L2.length ≤ 65546 := by rw [← hL2, ll2]; omega
          rw [hL2] at R2
          clear ow hgr
          obtain ⟨A2, cp2, rfl⟩ := (Reads.of_own R2.own1).form
          have HE2 := Lib.hid hL2
          clear hL2 ll2 y0 y1 y2 y3 P1 P2 Q1 C1 R1 B1
          obtain ⟨y0, y1, y2, y3⟩ := cell4 B2
          go_wp2_with fail
          refine (ref_varint m (by omega) _).mono ?_
          rintro e u2 ⟨rfl, hb2⟩
          have Q2 := R2.kept hb2
          have C2 := B2.kept hb2
          have V2 := varN_len 9 (m) (by omega)
          clear y0 y1 y2 y3
          obtain ⟨y0, y1, y2, y3⟩ := cell4 C2
          have P1 : L2.length + (ByteArray.mk (varN m).toArray).size ≤ maxLen := by have e1 : (ByteArray.mk (varN m).toArray).size = (varN m).length := rfl; rw [e1]; unfold maxLen; omega
          have P2 : L2.length + (ByteArray.mk (varN m).toArray).size ≤ 140737488355328 := by have e1 : (ByteArray.mk (varN m).toArray).size = (varN m).length := rfl; rw [e1]; omega
          go_wp2_with (at_builtin; refine Lib.wpList_append_own_string _ rfl _ _ 74 9 rfl w.heap.size 5 i1 Try.underlying74 Try.underlying9 hi' hy0 hy1 hy2 _ L2.length (bv L2) rfl Q2.own1 (ByteArray.mk (varN m).toArray) rfl P1 P2 Q2.below.size ?_)
          intro vb3 w3 ow hgr _
          have R3 := Q2.app (d := varN m) ow rfl hgr
          have B3 := grown_other Q2.own1 hgr C2 (by decide)
          obtain ⟨L3, hL3⟩ : ∃ L3, L2 ++ varN m = L3 := ⟨_, rfl⟩
          have ll3 := @List.length_append _ L2 (varN m)
          have hl3 : L3.length ≤ 65556 := by rw [← hL3, ll3]; omega
          rw [hL3] at R3
          clear ow hgr
          obtain ⟨A3, cp3, rfl⟩ := (Reads.of_own R3.own1).form
          have HE3 := Lib.hid hL3
          clear hL3 ll3 y0 y1 y2 y3 P1 P2 Q2 C2 R2 B2
          obtain ⟨y0, y1, y2, y3⟩ := cell4 B3
          go_wp2_with fail
          refine (ref_varint x.val.size (by omega) _).mono ?_
          rintro e u3 ⟨rfl, hb3⟩
          have Q3 := R3.kept hb3
          have C3 := B3.kept hb3
          have V3 := varN_len 9 (x.val.size) (by omega)
          clear y0 y1 y2 y3
          obtain ⟨y0, y1, y2, y3⟩ := cell4 C3
          have P1 : L3.length + (ByteArray.mk (varN x.val.size).toArray).size ≤ maxLen := by have e1 : (ByteArray.mk (varN x.val.size).toArray).size = (varN x.val.size).length := rfl; rw [e1]; unfold maxLen; omega
          have P2 : L3.length + (ByteArray.mk (varN x.val.size).toArray).size ≤ 140737488355328 := by have e1 : (ByteArray.mk (varN x.val.size).toArray).size = (varN x.val.size).length := rfl; rw [e1]; omega
          go_wp2_with (at_builtin; refine Lib.wpList_append_own_string _ rfl _ _ 74 9 rfl w.heap.size 5 i1 Try.underlying74 Try.underlying9 hi' hy0 hy1 hy2 _ L3.length (bv L3) rfl Q3.own1 (ByteArray.mk (varN x.val.size).toArray) rfl P1 P2 Q3.below.size ?_)
          intro vb4 w4 ow hgr _
          have R4 := Q3.app (d := varN x.val.size) ow rfl hgr
          have B4 := grown_other Q3.own1 hgr C3 (by decide)
          obtain ⟨L4, hL4⟩ : ∃ L4, L3 ++ varN x.val.size = L4 := ⟨_, rfl⟩
          have ll4 := @List.length_append _ L3 (varN x.val.size)
          have hl4 : L4.length ≤ 65566 := by rw [← hL4, ll4]; omega
          rw [hL4] at R4
          clear ow hgr
          obtain ⟨A4, cp4, rfl⟩ := (Reads.of_own R4.own1).form
          have HE4 := Lib.hid hL4
          clear hL4 ll4 y0 y1 y2 y3 P1 P2 Q3 C3 R3 B3
          obtain ⟨y0, y1, y2, y3⟩ := cell4 B4
          have P1 : L4.length + 1 ≤ maxLen := by unfold maxLen; omega
          have P2 : (L4.length + 1) * 1 ≤ 140737488355328 := by omega
          have Q4 := R4.kept ((Below.refl _ _).alloc (Nat.le_refl _) (.cells #[.int .u8 0] 5))
          have C4 := B4.alloc (.cells #[.int .u8 0] 5)
          have P3 := Q4.below.size
          go_wp2_with (at_builtin; refine wpList_append_row rfl _ _ 74 rfl w.heap.size 5 i1 (.int .u8 0) 1 1 Try.underlying74 hi' hy0 hy1 hy2 rfl (by decide) _ L4.length (bv L4) rfl Q4.own1 ⟨w4.heap.size, 0, none⟩ 1 1 [.int .u8 0] rfl rfl (cell_one_new _ _ _) (by simp [Value.oneCell']) P1 P2 P3 ?_)
          intro vb5 w5 ow hgr _
          have R5 := Q4.app (d := [UInt8.ofNat 0]) ow rfl hgr
          have B5 := grown_other Q4.own1 hgr C4 (by decide)
          obtain ⟨L5, hL5⟩ : ∃ L5, L4 ++ [UInt8.ofNat 0] = L5 := ⟨_, rfl⟩
          have ll5 := @List.length_append _ L4 ([UInt8.ofNat 0])
          have hl5 : L5.length ≤ 65567 := by rw [← hL5, ll5]; simp only [List.length_cons, List.length_nil]; omega
          rw [hL5] at R5
          clear ow hgr
          obtain ⟨A5, cp5, rfl⟩ := (Reads.of_own R5.own1).form
          have HE5 := Lib.hid hL5
          clear hL5 ll5 y0 y1 y2 y3 P1 P2 Q4 C4 R4 B4
          obtain ⟨y0, y1, y2, y3⟩ := cell4 B5
          go_wp2_with fail
          refine (ref_varint q (by omega) _).mono ?_
          rintro e u5 ⟨rfl, hb5⟩
          have Q5 := R5.kept hb5
          have C5 := B5.kept hb5
          have V5 := varN_len 9 (q) (by omega)
          clear y0 y1 y2 y3
          obtain ⟨y0, y1, y2, y3⟩ := cell4 C5
          have P1 : L5.length + (ByteArray.mk (varN q).toArray).size ≤ maxLen := by have e1 : (ByteArray.mk (varN q).toArray).size = (varN q).length := rfl; rw [e1]; unfold maxLen; omega
          have P2 : L5.length + (ByteArray.mk (varN q).toArray).size ≤ 140737488355328 := by have e1 : (ByteArray.mk (varN q).toArray).size = (varN q).length := rfl; rw [e1]; omega
          go_wp2_with (at_builtin; refine Lib.wpList_append_own_string _ rfl _ _ 74 9 rfl w.heap.size 5 i1 Try.underlying74 Try.underlying9 hi' hy0 hy1 hy2 _ L5.length (bv L5) rfl Q5.own1 (ByteArray.mk (varN q).toArray) rfl P1 P2 Q5.below.size ?_)
          intro vb6 w6 ow hgr _
          have R6 := Q5.app (d := varN q) ow rfl hgr
          have B6 := grown_other Q5.own1 hgr C5 (by decide)
          obtain ⟨L6, hL6⟩ : ∃ L6, L5 ++ varN q = L6 := ⟨_, rfl⟩
          have ll6 := @List.length_append _ L5 (varN q)
          have hl6 : L6.length ≤ 65577 := by rw [← hL6, ll6]; omega
          rw [hL6] at R6
          clear ow hgr
          obtain ⟨A6, cp6, rfl⟩ := (Reads.of_own R6.own1).form
          have HE6 := Lib.hid hL6
          clear hL6 ll6 y0 y1 y2 y3 P1 P2 Q5 C5 R5 B5
          obtain ⟨y0, y1, y2, y3⟩ := cell4 B6
          have hsx : (x.key).size ≤ 128 := by omega
          have hsx2 : ((x.key).data.toList).length ≤ 128 := hsx
          have P1 : L6.length + (x.key).size ≤ maxLen := by unfold maxLen; omega
          have P2 : L6.length + (x.key).size ≤ 140737488355328 := by omega
          have Q6 := R6
          have C6 := B6
          go_wp2_with (at_builtin; refine Lib.wpList_append_own_string _ rfl _ _ 74 9 rfl w.heap.size 5 i1 Try.underlying74 Try.underlying9 hi' hy0 hy1 hy2 _ L6.length (bv L6) rfl Q6.own1 (x.key) rfl P1 P2 Q6.below.size ?_)
          intro vb7 w7 ow hgr _
          have R7 := Q6.app (d := (x.key).data.toList) ow (by first | rfl | (rw [extract_drop, List.length_drop]; rfl)) hgr
          have B7 := grown_other Q6.own1 hgr C6 (by decide)
          obtain ⟨L7, hL7⟩ : ∃ L7, L6 ++ (x.key).data.toList = L7 := ⟨_, rfl⟩
          have ll7 := @List.length_append _ L6 ((x.key).data.toList)
          have hl7 : L7.length ≤ 65705 := by rw [← hL7, ll7]; omega
          rw [hL7] at R7
          clear ow hgr
          obtain ⟨A7, cp7, rfl⟩ := (Reads.of_own R7.own1).form
          have HE7 := Lib.hid hL7
          clear hL7 ll7 y0 y1 y2 y3 P1 P2 Q6 C6 R6 B6
          obtain ⟨y0, y1, y2, y3⟩ := cell4 B7
          have hsx : (x.val).size ≤ 1024 := by omega
          have hsx2 : ((x.val).data.toList).length ≤ 1024 := hsx
          have P1 : L7.length + (x.val).size ≤ maxLen := by unfold maxLen; omega
          have P2 : L7.length + (x.val).size ≤ 140737488355328 := by omega
          have Q7 := R7
          have C7 := B7
          go_wp2_with (at_builtin; refine Lib.wpList_append_own_string _ rfl _ _ 74 9 rfl w.heap.size 5 i1 Try.underlying74 Try.underlying9 hi' hy0 hy1 hy2 _ L7.length (bv L7) rfl Q7.own1 (x.val) rfl P1 P2 Q7.below.size ?_)
          intro vb8 w8 ow hgr _
          have R8 := Q7.app (d := (x.val).data.toList) ow (by first | rfl | (rw [extract_drop, List.length_drop]; rfl)) hgr
          have B8 := grown_other Q7.own1 hgr C7 (by decide)
          obtain ⟨L8, hL8⟩ : ∃ L8, L7 ++ (x.val).data.toList = L8 := ⟨_, rfl⟩
          have ll8 := @List.length_append _ L7 ((x.val).data.toList)
          have hl8 : L8.length ≤ 66729 := by rw [← hL8, ll8]; omega
          rw [hL8] at R8
          clear ow hgr
          obtain ⟨A8, cp8, rfl⟩ := (Reads.of_own R8.own1).form
          have HE8 := Lib.hid hL8
          clear hL8 ll8 y0 y1 y2 y3 P1 P2 Q7 C7 R7 B7
          obtain ⟨y0, y1, y2, y3⟩ := cell4 B8
          have hfin : L8 = bodyN l r (k + 1) := by
            have h := body_step HX.out HN.out HM.out HQ.out
            rw [hgn, HE1.out, extract_drop, List.drop_zero] at h
            rw [← h, ← HE8.out, ← HE7.out, ← HE6.out, ← HE5.out, ← HE4.out, ← HE3.out, ← HE2.out]
            rfl
          have HF := Lib.hid hfin
          clear hfin
          by_cases hbig : 65536 < L8.length
          · have hbi : (65536 : Int) < (L8.length : Int) := by omega
            have HB := Lib.hid (show buildN l (r : Int) = ([], 3) by
              rw [HBN.out, if_neg]
              have := bodyN_mono l r (show k + 1 ≤ l.length by omega)
              rw [blockN_len]
              rw [HF.out] at hbig
              omega)
            have hbel := R8.below
            go_wp2_with fail
            go_ret2
            exact ⟨by rw [HB.out]; rfl, hbel⟩
          · have hbi : ¬ (65536 : Int) < (L8.length : Int) := by omega
            have HR8 := Lib.hid R8
            clear R8
            go_wp2_with fail
            go_roundw
            case rel => exact ⟨k + 1, by omega, by go_num, by rw [← HF.out]; exact HR8.out, by rw [← HF.out]; omega⟩
            case measure => simp [intOf]; omega
      · have hm0 : ¬ (k : Int) % (r : Int) = 0 := by
          intro h
          have : ((k % r : Nat) : Int) = 0 := by simpa using h
          omega
        have hk0 : 0 < k := by
          rcases Nat.eq_zero_or_pos k with h | h
          · subst h; exact absurd (Nat.zero_mod r) hkr
          · exact h
        obtain ⟨k1, rfl⟩ : ∃ k1, k = k1 + 1 := ⟨k - 1, by omega⟩
        obtain ⟨y, hy⟩ : ∃ y, l[k1]? = some y := ⟨_, List.getElem?_eq_getElem (by omega)⟩
        obtain ⟨b', o', e', _, d0, d1, d2, d3⟩ := (H.out.kept hRB.below).cell_at hy
        cases e'
        have hy128 := (check_sizes ((checkL_ok HC.out).1 y (List.mem_of_getElem? hy))).1
        have T4' : sharedN y.key.data.toList x.key.data.toList = shAt l r (k1 + 1) := by
          unfold shAt keyAt
          rw [if_neg hkr, Nat.add_sub_cancel, hy, HX.out]
          rfl
        obtain ⟨n, hn⟩ : ∃ n, shAt l r (k1 + 1) = n := ⟨_, rfl⟩
        have hnk : n ≤ x.key.size := by rw [← hn, ← T4']; exact sharedN_le_right _ _
        rw [hn] at T4'
        have T4'' := Lib.hid T4'
        have hm1' : ¬ ((k1 : Int) + 1) % (r : Int) = 0 := by have h := hm0; rw [Int.natCast_add] at h; exact h
        have g0 : (0 : Int) ≤ (k1 : Int) := by omega
        have g1 : (k1 : Int) < (l.length : Int) := by omega
        have hw1 : IntKind.i64.wrap ((k1 : Int) + 1 - 1) = (k1 : Int) := by
          rw [show (k1 : Int) + 1 - 1 = (k1 : Int) by omega]; exact IntWalk.i64_in _ (by omega)
        have hw2 : IntKind.i64.wrap (k1 : Int) = (k1 : Int) := IntWalk.i64_in _ (by omega)
        have hBx := Blk.new wr #[.string x.key, .int .u64 q, .string x.val, .bool x.gone] 25
        have h0 := hRB.kept ((Below.refl _ _).alloc (Nat.le_refl _) (.cells #[.string x.key, .int .u64 q, .string x.val, .bool x.gone] 25))
        obtain ⟨Ab, cb, rfl⟩ := (Reads.of_own hRB.own1).form
        have hba : Below wr.heap.size wr (wr.alloc (.cells #[.string x.key, .int .u64 q, .string x.val, .bool x.gone] 25)).drew := ((Below.refl _ _).alloc (Nat.le_refl _) _).drew
        have e0 := cell_keep hba d0
        have f0 := hBx.drew.cell 0 _ rfl
        have HG := Lib.hid h0
        have HN4 := Lib.hid hn
        clear hRB h0 T4' hy hn
        go_wp2_with fail
        refine region_plan (S := fun w' => w'.cell? ⟨b, o + k1 * 4, none⟩ = some (.string y.key) ∧ w'.cell? ⟨wr.heap.size, 0, none⟩ = some (.string x.key))
          ((0, true) :: (1, true) :: (2, true) :: (3, true) :: (4, true) :: (5, true) :: (6, true) :: (7, true) :: (8, false) :: (9, true) :: [])
          (by kernel_rfl) (by kernel_rfl) (by kernel_rfl) (by kernel_rfl) (fun _ _ _ dst _ h => by cases dst <;> exact h) ⟨e0, f0⟩ (fun hH => ?_)
        (repeat (first | (refine plan_take (v := ?_) (by (simp only [List.getElem?_toArray, List.getElem?_cons_succ, List.getElem?_cons_zero]; exact rfl)) (by rfl) ?_ ?_; rotate_left; (focus (intro wS hS; (try dsimp only at hS); go_split_ands; go_simp; (try with_reducible rfl))); simp only [Act.put, List.setIfInBounds_toArray, List.set_cons_zero, List.set_cons_succ]) | (refine plan_skip (by (simp only [List.getElem?_toArray, List.getElem?_cons_succ, List.getElem?_cons_zero]; exact rfl)) (by rfl) ?_; simp only [Act.put, List.setIfInBounds_toArray, List.set_cons_zero, List.set_cons_succ])))
        (refine plan_solo (by (simp only [List.getElem?_toArray, List.getElem?_cons_succ, List.getElem?_cons_zero]; exact rfl)) (by rfl) ?_; intro K hK; go_simp)
        refine (ref_shared y.key x.key (by omega) _).mono ?_
        rintro e w4 ⟨rfl, hb4⟩
        rw [T4''.out]
        refine hK.out _ _ ⟨cell_keep hb4 e0, cell_keep hb4 f0⟩ (fun hH => ?_)
        clear hK K
        try simp only [Act.put, List.setIfInBounds_toArray, List.set_cons_zero, List.set_cons_succ]
        (repeat (first | (refine plan_take (v := ?_) (by (simp only [List.getElem?_toArray, List.getElem?_cons_succ, List.getElem?_cons_zero]; exact rfl)) (by rfl) ?_ ?_; rotate_left; (focus (intro wS hS; (try dsimp only at hS); go_split_ands; go_simp; (try with_reducible rfl))); simp only [Act.put, List.setIfInBounds_toArray, List.set_cons_zero, List.set_cons_succ]) | (refine plan_skip (by (simp only [List.getElem?_toArray, List.getElem?_cons_succ, List.getElem?_cons_zero]; exact rfl)) (by rfl) ?_; simp only [Act.put, List.setIfInBounds_toArray, List.set_cons_zero, List.set_cons_succ])))
        refine plan_nil ?_
        have R4 := (HG.out.kept (Below.refl _ _).drew).kept hb4
        rw [← startsI_no l r (k1 + 1) hkr] at R4
        have B4 := hBx.drew.kept hb4
        have T4 := HN4.out
        clear d0 d1 d2 d3 e0 f0 hBx c0 c1 c2 c3
        obtain ⟨m, hm⟩ : ∃ m, x.key.size - n = m := ⟨_, rfl⟩
        have hsb : (x.key.size : Int) - (n : Int) = (m : Int) := by omega
        have hm1 : m ≤ 128 := by omega
        have hn1 : n ≤ 128 := by omega
        have HM := Lib.hid hm
        have HN := Lib.hid T4
        have hl1 := hL
        obtain ⟨L1, hL1⟩ : ∃ L1, bodyN l r (k1 + 1) = L1 := ⟨_, rfl⟩
        rw [hL1] at R4 hl1 ⊢
        have HE1 := Lib.hid hL1
        clear hm T4 hL1 hL
        obtain ⟨y0, y1, y2, y3⟩ := cell4 B4
        have R1 := R4
        have B1 := B4
        clear R4 B4
        cases hgn : x.gone with
        | true =>
          rw [hgn] at y3
          go_wp2_with fail
          refine (ref_varint n (by omega) _).mono ?_
          rintro e u1 ⟨rfl, hb1⟩
          have Q1 := R1.kept hb1
          have C1 := B1.kept hb1
          have V1 := varN_len 9 (n) (by omega)
          clear y0 y1 y2 y3
          obtain ⟨y0, y1, y2, y3⟩ := cell4 C1
          have P1 : L1.length + (ByteArray.mk (varN n).toArray).size ≤ maxLen := by have e1 : (ByteArray.mk (varN n).toArray).size = (varN n).length := rfl; rw [e1]; unfold maxLen; omega
          have P2 : L1.length + (ByteArray.mk (varN n).toArray).size ≤ 140737488355328 := by have e1 : (ByteArray.mk (varN n).toArray).size = (varN n).length := rfl; rw [e1]; omega
          go_wp2_with (at_builtin; refine Lib.wpList_append_own_string _ rfl _ _ 74 9 rfl w.heap.size 5 i1 Try.underlying74 Try.underlying9 hi' hy0 hy1 hy2 _ L1.length (bv L1) rfl Q1.own1 (ByteArray.mk (varN n).toArray) rfl P1 P2 Q1.below.size ?_)
          intro vb2 w2 ow hgr _
          have R2 := Q1.app (d := varN n) ow rfl hgr
          have B2 := grown_other Q1.own1 hgr C1 (by decide)
          obtain ⟨L2, hL2⟩ : ∃ L2, L1 ++ varN n = L2 := ⟨_, rfl⟩
          have ll2 := @List.length_append _ L1 (varN n)
          have hl2 : L2.length ≤ 65546 := by rw [← hL2, ll2]; omega
          rw [hL2] at R2
          clear ow hgr
          obtain ⟨A2, cp2, rfl⟩ := (Reads.of_own R2.own1).form
          have HE2 := Lib.hid hL2
          clear hL2 ll2 y0 y1 y2 y3 P1 P2 Q1 C1 R1 B1
          obtain ⟨y0, y1, y2, y3⟩ := cell4 B2
          go_wp2_with fail
          refine (ref_varint m (by omega) _).mono ?_
          rintro e u2 ⟨rfl, hb2⟩
          have Q2 := R2.kept hb2
          have C2 := B2.kept hb2
          have V2 := varN_len 9 (m) (by omega)
          clear y0 y1 y2 y3
          obtain ⟨y0, y1, y2, y3⟩ := cell4 C2
          have P1 : L2.length + (ByteArray.mk (varN m).toArray).size ≤ maxLen := by have e1 : (ByteArray.mk (varN m).toArray).size = (varN m).length := rfl; rw [e1]; unfold maxLen; omega
          have P2 : L2.length + (ByteArray.mk (varN m).toArray).size ≤ 140737488355328 := by have e1 : (ByteArray.mk (varN m).toArray).size = (varN m).length := rfl; rw [e1]; omega
          go_wp2_with (at_builtin; refine Lib.wpList_append_own_string _ rfl _ _ 74 9 rfl w.heap.size 5 i1 Try.underlying74 Try.underlying9 hi' hy0 hy1 hy2 _ L2.length (bv L2) rfl Q2.own1 (ByteArray.mk (varN m).toArray) rfl P1 P2 Q2.below.size ?_)
          intro vb3 w3 ow hgr _
          have R3 := Q2.app (d := varN m) ow rfl hgr
          have B3 := grown_other Q2.own1 hgr C2 (by decide)
          obtain ⟨L3, hL3⟩ : ∃ L3, L2 ++ varN m = L3 := ⟨_, rfl⟩
          have ll3 := @List.length_append _ L2 (varN m)
          have hl3 : L3.length ≤ 65556 := by rw [← hL3, ll3]; omega
          rw [hL3] at R3
          clear ow hgr
          obtain ⟨A3, cp3, rfl⟩ := (Reads.of_own R3.own1).form
          have HE3 := Lib.hid hL3
          clear hL3 ll3 y0 y1 y2 y3 P1 P2 Q2 C2 R2 B2
          obtain ⟨y0, y1, y2, y3⟩ := cell4 B3
          go_wp2_with fail
          refine (ref_varint x.val.size (by omega) _).mono ?_
          rintro e u3 ⟨rfl, hb3⟩
          have Q3 := R3.kept hb3
          have C3 := B3.kept hb3
          have V3 := varN_len 9 (x.val.size) (by omega)
          clear y0 y1 y2 y3
          obtain ⟨y0, y1, y2, y3⟩ := cell4 C3
          have P1 : L3.length + (ByteArray.mk (varN x.val.size).toArray).size ≤ maxLen := by have e1 : (ByteArray.mk (varN x.val.size).toArray).size = (varN x.val.size).length := rfl; rw [e1]; unfold maxLen; omega
          have P2 : L3.length + (ByteArray.mk (varN x.val.size).toArray).size ≤ 140737488355328 := by have e1 : (ByteArray.mk (varN x.val.size).toArray).size = (varN x.val.size).length := rfl; rw [e1]; omega
          go_wp2_with (at_builtin; refine Lib.wpList_append_own_string _ rfl _ _ 74 9 rfl w.heap.size 5 i1 Try.underlying74 Try.underlying9 hi' hy0 hy1 hy2 _ L3.length (bv L3) rfl Q3.own1 (ByteArray.mk (varN x.val.size).toArray) rfl P1 P2 Q3.below.size ?_)
          intro vb4 w4 ow hgr _
          have R4 := Q3.app (d := varN x.val.size) ow rfl hgr
          have B4 := grown_other Q3.own1 hgr C3 (by decide)
          obtain ⟨L4, hL4⟩ : ∃ L4, L3 ++ varN x.val.size = L4 := ⟨_, rfl⟩
          have ll4 := @List.length_append _ L3 (varN x.val.size)
          have hl4 : L4.length ≤ 65566 := by rw [← hL4, ll4]; omega
          rw [hL4] at R4
          clear ow hgr
          obtain ⟨A4, cp4, rfl⟩ := (Reads.of_own R4.own1).form
          have HE4 := Lib.hid hL4
          clear hL4 ll4 y0 y1 y2 y3 P1 P2 Q3 C3 R3 B3
          obtain ⟨y0, y1, y2, y3⟩ := cell4 B4
          have P1 : L4.length + 1 ≤ maxLen := by unfold maxLen; omega
          have P2 : (L4.length + 1) * 1 ≤ 140737488355328 := by omega
          have Q4 := R4.kept ((Below.refl _ _).alloc (Nat.le_refl _) (.cells #[.int .u8 1] 5))
          have C4 := B4.alloc (.cells #[.int .u8 1] 5)
          have P3 := Q4.below.size
          go_wp2_with (at_builtin; refine wpList_append_row rfl _ _ 74 rfl w.heap.size 5 i1 (.int .u8 0) 1 1 Try.underlying74 hi' hy0 hy1 hy2 rfl (by decide) _ L4.length (bv L4) rfl Q4.own1 ⟨w4.heap.size, 0, none⟩ 1 1 [.int .u8 1] rfl rfl (cell_one_new _ _ _) (by simp [Value.oneCell']) P1 P2 P3 ?_)
          intro vb5 w5 ow hgr _
          have R5 := Q4.app (d := [UInt8.ofNat 1]) ow rfl hgr
          have B5 := grown_other Q4.own1 hgr C4 (by decide)
          obtain ⟨L5, hL5⟩ : ∃ L5, L4 ++ [UInt8.ofNat 1] = L5 := ⟨_, rfl⟩
          have ll5 := @List.length_append _ L4 ([UInt8.ofNat 1])
          have hl5 : L5.length ≤ 65567 := by rw [← hL5, ll5]; simp only [List.length_cons, List.length_nil]; omega
          rw [hL5] at R5
          clear ow hgr
          obtain ⟨A5, cp5, rfl⟩ := (Reads.of_own R5.own1).form
          have HE5 := Lib.hid hL5
          clear hL5 ll5 y0 y1 y2 y3 P1 P2 Q4 C4 R4 B4
          obtain ⟨y0, y1, y2, y3⟩ := cell4 B5
          go_wp2_with fail
          refine (ref_varint q (by omega) _).mono ?_
          rintro e u5 ⟨rfl, hb5⟩
          have Q5 := R5.kept hb5
          have C5 := B5.kept hb5
          have V5 := varN_len 9 (q) (by omega)
          clear y0 y1 y2 y3
          obtain ⟨y0, y1, y2, y3⟩ := cell4 C5
          have P1 : L5.length + (ByteArray.mk (varN q).toArray).size ≤ maxLen := by have e1 : (ByteArray.mk (varN q).toArray).size = (varN q).length := rfl; rw [e1]; unfold maxLen; omega
          have P2 : L5.length + (ByteArray.mk (varN q).toArray).size ≤ 140737488355328 := by have e1 : (ByteArray.mk (varN q).toArray).size = (varN q).length := rfl; rw [e1]; omega
          go_wp2_with (at_builtin; refine Lib.wpList_append_own_string _ rfl _ _ 74 9 rfl w.heap.size 5 i1 Try.underlying74 Try.underlying9 hi' hy0 hy1 hy2 _ L5.length (bv L5) rfl Q5.own1 (ByteArray.mk (varN q).toArray) rfl P1 P2 Q5.below.size ?_)
          intro vb6 w6 ow hgr _
          have R6 := Q5.app (d := varN q) ow rfl hgr
          have B6 := grown_other Q5.own1 hgr C5 (by decide)
          obtain ⟨L6, hL6⟩ : ∃ L6, L5 ++ varN q = L6 := ⟨_, rfl⟩
          have ll6 := @List.length_append _ L5 (varN q)
          have hl6 : L6.length ≤ 65577 := by rw [← hL6, ll6]; omega
          rw [hL6] at R6
          clear ow hgr
          obtain ⟨A6, cp6, rfl⟩ := (Reads.of_own R6.own1).form
          have HE6 := Lib.hid hL6
          clear hL6 ll6 y0 y1 y2 y3 P1 P2 Q5 C5 R5 B5
          obtain ⟨y0, y1, y2, y3⟩ := cell4 B6
          have hsx : ((x.key.extract n x.key.size)).size ≤ 128 := by rw [show ((x.key.extract n x.key.size)).size = x.key.size - n by rw [ByteArray.size_extract]; omega]; omega
          have hsx2 : (((x.key.extract n x.key.size)).data.toList).length ≤ 128 := hsx
          have P1 : L6.length + ((x.key.extract n x.key.size)).size ≤ maxLen := by unfold maxLen; omega
          have P2 : L6.length + ((x.key.extract n x.key.size)).size ≤ 140737488355328 := by omega
          have Q6 := R6
          have C6 := B6
          go_wp2_with (at_builtin; refine Lib.wpList_append_own_string _ rfl _ _ 74 9 rfl w.heap.size 5 i1 Try.underlying74 Try.underlying9 hi' hy0 hy1 hy2 _ L6.length (bv L6) rfl Q6.own1 ((x.key.extract n x.key.size)) rfl P1 P2 Q6.below.size ?_)
          intro vb7 w7 ow hgr _
          have R7 := Q6.app (d := ((x.key.extract n x.key.size)).data.toList) ow (by first | rfl | (rw [extract_drop, List.length_drop]; rfl)) hgr
          have B7 := grown_other Q6.own1 hgr C6 (by decide)
          obtain ⟨L7, hL7⟩ : ∃ L7, L6 ++ ((x.key.extract n x.key.size)).data.toList = L7 := ⟨_, rfl⟩
          have ll7 := @List.length_append _ L6 (((x.key.extract n x.key.size)).data.toList)
          have hl7 : L7.length ≤ 65705 := by rw [← hL7, ll7]; omega
          rw [hL7] at R7
          clear ow hgr
          obtain ⟨A7, cp7, rfl⟩ := (Reads.of_own R7.own1).form
          have HE7 := Lib.hid hL7
          clear hL7 ll7 y0 y1 y2 y3 P1 P2 Q6 C6 R6 B6
          obtain ⟨y0, y1, y2, y3⟩ := cell4 B7
          have hsx : (x.val).size ≤ 1024 := by omega
          have hsx2 : ((x.val).data.toList).length ≤ 1024 := hsx
          have P1 : L7.length + (x.val).size ≤ maxLen := by unfold maxLen; omega
          have P2 : L7.length + (x.val).size ≤ 140737488355328 := by omega
          have Q7 := R7
          have C7 := B7
          go_wp2_with (at_builtin; refine Lib.wpList_append_own_string _ rfl _ _ 74 9 rfl w.heap.size 5 i1 Try.underlying74 Try.underlying9 hi' hy0 hy1 hy2 _ L7.length (bv L7) rfl Q7.own1 (x.val) rfl P1 P2 Q7.below.size ?_)
          intro vb8 w8 ow hgr _
          have R8 := Q7.app (d := (x.val).data.toList) ow (by first | rfl | (rw [extract_drop, List.length_drop]; rfl)) hgr
          have B8 := grown_other Q7.own1 hgr C7 (by decide)
          obtain ⟨L8, hL8⟩ : ∃ L8, L7 ++ (x.val).data.toList = L8 := ⟨_, rfl⟩
          have ll8 := @List.length_append _ L7 ((x.val).data.toList)
          have hl8 : L8.length ≤ 66729 := by rw [← hL8, ll8]; omega
          rw [hL8] at R8
          clear ow hgr
          obtain ⟨A8, cp8, rfl⟩ := (Reads.of_own R8.own1).form
          have HE8 := Lib.hid hL8
          clear hL8 ll8 y0 y1 y2 y3 P1 P2 Q7 C7 R7 B7
          obtain ⟨y0, y1, y2, y3⟩ := cell4 B8
          have hfin : L8 = bodyN l r (k1 + 1 + 1) := by
            have h := body_step HX.out HN.out HM.out HQ.out
            rw [hgn, HE1.out] at h
            rw [← h, ← HE8.out, ← HE7.out, ← HE6.out, ← HE5.out, ← HE4.out, ← HE3.out, ← HE2.out]
            rfl
          have HF := Lib.hid hfin
          clear hfin
          by_cases hbig : 65536 < L8.length
          · have hbi : (65536 : Int) < (L8.length : Int) := by omega
            have HB := Lib.hid (show buildN l (r : Int) = ([], 3) by
              rw [HBN.out, if_neg]
              have := bodyN_mono l r (show k1 + 1 + 1 ≤ l.length by omega)
              rw [blockN_len]
              rw [HF.out] at hbig
              omega)
            have hbel := R8.below
            go_wp2_with fail
            go_ret2
            exact ⟨by rw [HB.out]; rfl, hbel⟩
          · have hbi : ¬ (65536 : Int) < (L8.length : Int) := by omega
            have HR8 := Lib.hid R8
            clear R8
            go_wp2_with fail
            go_roundw
            case rel => exact ⟨k1 + 1 + 1, by omega, by go_num, by rw [← HF.out]; exact HR8.out, by rw [← HF.out]; omega⟩
            case measure => simp [intOf]; omega
        | false =>
          rw [hgn] at y3
          go_wp2_with fail
          refine (ref_varint n (by omega) _).mono ?_
          rintro e u1 ⟨rfl, hb1⟩
          have Q1 := R1.kept hb1
          have C1 := B1.kept hb1
          have V1 := varN_len 9 (n) (by omega)
          clear y0 y1 y2 y3
          obtain ⟨y0, y1, y2, y3⟩ := cell4 C1
          have P1 : L1.length + (ByteArray.mk (varN n).toArray).size ≤ maxLen := by have e1 : (ByteArray.mk (varN n).toArray).size = (varN n).length := rfl; rw [e1]; unfold maxLen; omega
          have P2 : L1.length + (ByteArray.mk (varN n).toArray).size ≤ 140737488355328 := by have e1 : (ByteArray.mk (varN n).toArray).size = (varN n).length := rfl; rw [e1]; omega
          go_wp2_with (at_builtin; refine Lib.wpList_append_own_string _ rfl _ _ 74 9 rfl w.heap.size 5 i1 Try.underlying74 Try.underlying9 hi' hy0 hy1 hy2 _ L1.length (bv L1) rfl Q1.own1 (ByteArray.mk (varN n).toArray) rfl P1 P2 Q1.below.size ?_)
          intro vb2 w2 ow hgr _
          have R2 := Q1.app (d := varN n) ow rfl hgr
          have B2 := grown_other Q1.own1 hgr C1 (by decide)
          obtain ⟨L2, hL2⟩ : ∃ L2, L1 ++ varN n = L2 := ⟨_, rfl⟩
          have ll2 := @List.length_append _ L1 (varN n)
          have hl2 : L2.length ≤ 65546 := by rw [← hL2, ll2]; omega
          rw [hL2] at R2
          clear ow hgr
          obtain ⟨A2, cp2, rfl⟩ := (Reads.of_own R2.own1).form
          have HE2 := Lib.hid hL2
          clear hL2 ll2 y0 y1 y2 y3 P1 P2 Q1 C1 R1 B1
          obtain ⟨y0, y1, y2, y3⟩ := cell4 B2
          go_wp2_with fail
          refine (ref_varint m (by omega) _).mono ?_
          rintro e u2 ⟨rfl, hb2⟩
          have Q2 := R2.kept hb2
          have C2 := B2.kept hb2
          have V2 := varN_len 9 (m) (by omega)
          clear y0 y1 y2 y3
          obtain ⟨y0, y1, y2, y3⟩ := cell4 C2
          have P1 : L2.length + (ByteArray.mk (varN m).toArray).size ≤ maxLen := by have e1 : (ByteArray.mk (varN m).toArray).size = (varN m).length := rfl; rw [e1]; unfold maxLen; omega
          have P2 : L2.length + (ByteArray.mk (varN m).toArray).size ≤ 140737488355328 := by have e1 : (ByteArray.mk (varN m).toArray).size = (varN m).length := rfl; rw [e1]; omega
          go_wp2_with (at_builtin; refine Lib.wpList_append_own_string _ rfl _ _ 74 9 rfl w.heap.size 5 i1 Try.underlying74 Try.underlying9 hi' hy0 hy1 hy2 _ L2.length (bv L2) rfl Q2.own1 (ByteArray.mk (varN m).toArray) rfl P1 P2 Q2.below.size ?_)
          intro vb3 w3 ow hgr _
          have R3 := Q2.app (d := varN m) ow rfl hgr
          have B3 := grown_other Q2.own1 hgr C2 (by decide)
          obtain ⟨L3, hL3⟩ : ∃ L3, L2 ++ varN m = L3 := ⟨_, rfl⟩
          have ll3 := @List.length_append _ L2 (varN m)
          have hl3 : L3.length ≤ 65556 := by rw [← hL3, ll3]; omega
          rw [hL3] at R3
          clear ow hgr
          obtain ⟨A3, cp3, rfl⟩ := (Reads.of_own R3.own1).form
          have HE3 := Lib.hid hL3
          clear hL3 ll3 y0 y1 y2 y3 P1 P2 Q2 C2 R2 B2
          obtain ⟨y0, y1, y2, y3⟩ := cell4 B3
          go_wp2_with fail
          refine (ref_varint x.val.size (by omega) _).mono ?_
          rintro e u3 ⟨rfl, hb3⟩
          have Q3 := R3.kept hb3
          have C3 := B3.kept hb3
          have V3 := varN_len 9 (x.val.size) (by omega)
          clear y0 y1 y2 y3
          obtain ⟨y0, y1, y2, y3⟩ := cell4 C3
          have P1 : L3.length + (ByteArray.mk (varN x.val.size).toArray).size ≤ maxLen := by have e1 : (ByteArray.mk (varN x.val.size).toArray).size = (varN x.val.size).length := rfl; rw [e1]; unfold maxLen; omega
          have P2 : L3.length + (ByteArray.mk (varN x.val.size).toArray).size ≤ 140737488355328 := by have e1 : (ByteArray.mk (varN x.val.size).toArray).size = (varN x.val.size).length := rfl; rw [e1]; omega
          go_wp2_with (at_builtin; refine Lib.wpList_append_own_string _ rfl _ _ 74 9 rfl w.heap.size 5 i1 Try.underlying74 Try.underlying9 hi' hy0 hy1 hy2 _ L3.length (bv L3) rfl Q3.own1 (ByteArray.mk (varN x.val.size).toArray) rfl P1 P2 Q3.below.size ?_)
          intro vb4 w4 ow hgr _
          have R4 := Q3.app (d := varN x.val.size) ow rfl hgr
          have B4 := grown_other Q3.own1 hgr C3 (by decide)
          obtain ⟨L4, hL4⟩ : ∃ L4, L3 ++ varN x.val.size = L4 := ⟨_, rfl⟩
          have ll4 := @List.length_append _ L3 (varN x.val.size)
          have hl4 : L4.length ≤ 65566 := by rw [← hL4, ll4]; omega
          rw [hL4] at R4
          clear ow hgr
          obtain ⟨A4, cp4, rfl⟩ := (Reads.of_own R4.own1).form
          have HE4 := Lib.hid hL4
          clear hL4 ll4 y0 y1 y2 y3 P1 P2 Q3 C3 R3 B3
          obtain ⟨y0, y1, y2, y3⟩ := cell4 B4
          have P1 : L4.length + 1 ≤ maxLen := by unfold maxLen; omega
          have P2 : (L4.length + 1) * 1 ≤ 140737488355328 := by omega
          have Q4 := R4.kept ((Below.refl _ _).alloc (Nat.le_refl _) (.cells #[.int .u8 0] 5))
          have C4 := B4.alloc (.cells #[.int .u8 0] 5)
          have P3 := Q4.below.size
          go_wp2_with (at_builtin; refine wpList_append_row rfl _ _ 74 rfl w.heap.size 5 i1 (.int .u8 0) 1 1 Try.underlying74 hi' hy0 hy1 hy2 rfl (by decide) _ L4.length (bv L4) rfl Q4.own1 ⟨w4.heap.size, 0, none⟩ 1 1 [.int .u8 0] rfl rfl (cell_one_new _ _ _) (by simp [Value.oneCell']) P1 P2 P3 ?_)
          intro vb5 w5 ow hgr _
          have R5 := Q4.app (d := [UInt8.ofNat 0]) ow rfl hgr
          have B5 := grown_other Q4.own1 hgr C4 (by decide)
          obtain ⟨L5, hL5⟩ : ∃ L5, L4 ++ [UInt8.ofNat 0] = L5 := ⟨_, rfl⟩
          have ll5 := @List.length_append _ L4 ([UInt8.ofNat 0])
          have hl5 : L5.length ≤ 65567 := by rw [← hL5, ll5]; simp only [List.length_cons, List.length_nil]; omega
          rw [hL5] at R5
          clear ow hgr
          obtain ⟨A5, cp5, rfl⟩ := (Reads.of_own R5.own1).form
          have HE5 := Lib.hid hL5
          clear hL5 ll5 y0 y1 y2 y3 P1 P2 Q4 C4 R4 B4
          obtain ⟨y0, y1, y2, y3⟩ := cell4 B5
          go_wp2_with fail
          refine (ref_varint q (by omega) _).mono ?_
          rintro e u5 ⟨rfl, hb5⟩
          have Q5 := R5.kept hb5
          have C5 := B5.kept hb5
          have V5 := varN_len 9 (q) (by omega)
          clear y0 y1 y2 y3
          obtain ⟨y0, y1, y2, y3⟩ := cell4 C5
          have P1 : L5.length + (ByteArray.mk (varN q).toArray).size ≤ maxLen := by have e1 : (ByteArray.mk (varN q).toArray).size = (varN q).length := rfl; rw [e1]; unfold maxLen; omega
          have P2 : L5.length + (ByteArray.mk (varN q).toArray).size ≤ 140737488355328 := by have e1 : (ByteArray.mk (varN q).toArray).size = (varN q).length := rfl; rw [e1]; omega
          go_wp2_with (at_builtin; refine Lib.wpList_append_own_string _ rfl _ _ 74 9 rfl w.heap.size 5 i1 Try.underlying74 Try.underlying9 hi' hy0 hy1 hy2 _ L5.length (bv L5) rfl Q5.own1 (ByteArray.mk (varN q).toArray) rfl P1 P2 Q5.below.size ?_)
          intro vb6 w6 ow hgr _
          have R6 := Q5.app (d := varN q) ow rfl hgr
          have B6 := grown_other Q5.own1 hgr C5 (by decide)
          obtain ⟨L6, hL6⟩ : ∃ L6, L5 ++ varN q = L6 := ⟨_, rfl⟩
          have ll6 := @List.length_append _ L5 (varN q)
          have hl6 : L6.length ≤ 65577 := by rw [← hL6, ll6]; omega
          rw [hL6] at R6
          clear ow hgr
          obtain ⟨A6, cp6, rfl⟩ := (Reads.of_own R6.own1).form
          have HE6 := Lib.hid hL6
          clear hL6 ll6 y0 y1 y2 y3 P1 P2 Q5 C5 R5 B5
          obtain ⟨y0, y1, y2, y3⟩ := cell4 B6
          have hsx : ((x.key.extract n x.key.size)).size ≤ 128 := by rw [show ((x.key.extract n x.key.size)).size = x.key.size - n by rw [ByteArray.size_extract]; omega]; omega
          have hsx2 : (((x.key.extract n x.key.size)).data.toList).length ≤ 128 := hsx
          have P1 : L6.length + ((x.key.extract n x.key.size)).size ≤ maxLen := by unfold maxLen; omega
          have P2 : L6.length + ((x.key.extract n x.key.size)).size ≤ 140737488355328 := by omega
          have Q6 := R6
          have C6 := B6
          go_wp2_with (at_builtin; refine Lib.wpList_append_own_string _ rfl _ _ 74 9 rfl w.heap.size 5 i1 Try.underlying74 Try.underlying9 hi' hy0 hy1 hy2 _ L6.length (bv L6) rfl Q6.own1 ((x.key.extract n x.key.size)) rfl P1 P2 Q6.below.size ?_)
          intro vb7 w7 ow hgr _
          have R7 := Q6.app (d := ((x.key.extract n x.key.size)).data.toList) ow (by first | rfl | (rw [extract_drop, List.length_drop]; rfl)) hgr
          have B7 := grown_other Q6.own1 hgr C6 (by decide)
          obtain ⟨L7, hL7⟩ : ∃ L7, L6 ++ ((x.key.extract n x.key.size)).data.toList = L7 := ⟨_, rfl⟩
          have ll7 := @List.length_append _ L6 (((x.key.extract n x.key.size)).data.toList)
          have hl7 : L7.length ≤ 65705 := by rw [← hL7, ll7]; omega
          rw [hL7] at R7
          clear ow hgr
          obtain ⟨A7, cp7, rfl⟩ := (Reads.of_own R7.own1).form
          have HE7 := Lib.hid hL7
          clear hL7 ll7 y0 y1 y2 y3 P1 P2 Q6 C6 R6 B6
          obtain ⟨y0, y1, y2, y3⟩ := cell4 B7
          have hsx : (x.val).size ≤ 1024 := by omega
          have hsx2 : ((x.val).data.toList).length ≤ 1024 := hsx
          have P1 : L7.length + (x.val).size ≤ maxLen := by unfold maxLen; omega
          have P2 : L7.length + (x.val).size ≤ 140737488355328 := by omega
          have Q7 := R7
          have C7 := B7
          go_wp2_with (at_builtin; refine Lib.wpList_append_own_string _ rfl _ _ 74 9 rfl w.heap.size 5 i1 Try.underlying74 Try.underlying9 hi' hy0 hy1 hy2 _ L7.length (bv L7) rfl Q7.own1 (x.val) rfl P1 P2 Q7.below.size ?_)
          intro vb8 w8 ow hgr _
          have R8 := Q7.app (d := (x.val).data.toList) ow (by first | rfl | (rw [extract_drop, List.length_drop]; rfl)) hgr
          have B8 := grown_other Q7.own1 hgr C7 (by decide)
          obtain ⟨L8, hL8⟩ : ∃ L8, L7 ++ (x.val).data.toList = L8 := ⟨_, rfl⟩
          have ll8 := @List.length_append _ L7 ((x.val).data.toList)
          have hl8 : L8.length ≤ 66729 := by rw [← hL8, ll8]; omega
          rw [hL8] at R8
          clear ow hgr
          obtain ⟨A8, cp8, rfl⟩ := (Reads.of_own R8.own1).form
          have HE8 := Lib.hid hL8
          clear hL8 ll8 y0 y1 y2 y3 P1 P2 Q7 C7 R7 B7
          obtain ⟨y0, y1, y2, y3⟩ := cell4 B8
          have hfin : L8 = bodyN l r (k1 + 1 + 1) := by
            have h := body_step HX.out HN.out HM.out HQ.out
            rw [hgn, HE1.out] at h
            rw [← h, ← HE8.out, ← HE7.out, ← HE6.out, ← HE5.out, ← HE4.out, ← HE3.out, ← HE2.out]
            rfl
          have HF := Lib.hid hfin
          clear hfin
          by_cases hbig : 65536 < L8.length
          · have hbi : (65536 : Int) < (L8.length : Int) := by omega
            have HB := Lib.hid (show buildN l (r : Int) = ([], 3) by
              rw [HBN.out, if_neg]
              have := bodyN_mono l r (show k1 + 1 + 1 ≤ l.length by omega)
              rw [blockN_len]
              rw [HF.out] at hbig
              omega)
            have hbel := R8.below
            go_wp2_with fail
            go_ret2
            exact ⟨by rw [HB.out]; rfl, hbel⟩
          · have hbi : ¬ (65536 : Int) < (L8.length : Int) := by omega
            have HR8 := Lib.hid R8
            clear R8
            go_wp2_with fail
            go_roundw
            case rel => exact ⟨k1 + 1 + 1, by omega, by go_num, by rw [← HF.out]; exact HR8.out, by rw [← HF.out]; omega⟩
            case measure => simp [intOf]; omega
    · obtain rfl : k = l.length := by omega
      obtain ⟨As, cs, rfl⟩ := (Reads.of_own hRB.own2).form
      have hsl := startsI_len l r l.length
      have hsn : (startsI l r l.length).length = (startsN l r l.length).length := by simp [startsI]
      have HSN := Lib.hid hsn
      clear hsn
      have hL' := hL
      go_wp2_with fail
      go_loopw [7, 99] (RBRel2 w l r (.slice As (startsI l r l.length).length cs)) (fun _ i _ => (startsI l r l.length).length - (intOf i).toNat)
      case atStart => exact ⟨0, by omega, rfl, by simpa using hRB, by simpa using hL⟩
      case round =>
        obtain ⟨k, hk, rfl, hRB, hl1⟩ := hrel
        by_cases hlt : k < (startsI l r l.length).length
        · obtain ⟨q, hqn⟩ : ∃ q, (startsN l r l.length)[k]? = some q := ⟨_, List.getElem?_eq_getElem (by rw [← HSN.out]; exact hlt)⟩
          have hx : (startsI l r l.length)[k]? = some (q : Int) := by unfold startsI; rw [List.getElem?_map, hqn]; rfl
          have hq64 : q ≤ 65536 := by
            unfold startsN at hqn
            rw [List.getElem?_map] at hqn
            obtain ⟨i, hi1, rfl⟩ := Option.map_eq_some_iff.1 hqn
            have hil : i < l.length := by
              have := (List.mem_filter.1 (List.mem_of_getElem? hi1)).1
              simpa using this
            have := bodyN_mono l r (Nat.le_of_lt hil)
            omega
          obtain ⟨b, o, rfl, hbl, c0⟩ := (Reads.of_own hRB.own2).int_at hx
          obtain ⟨A1, cp1, rfl⟩ := (Reads.of_own hRB.own1).form
          have j0 : (0 : Int) ≤ (k : Int) := by omega
          have j1 : (k : Int) < ((startsI l r l.length).length : Int) := by omega
          obtain ⟨L1, hL1⟩ : ∃ L1, bodyN l r l.length ++ ((startsN l r l.length).take k).flatMap be4 = L1 := ⟨_, rfl⟩
          rw [hL1] at hRB hl1 ⊢
          have HE := Lib.hid hL1
          have HX := Lib.hid hqn
          have HR := Lib.hid hRB
          clear hL1 hqn hx hRB
          go_wp2_with fail
          refine (ref_number4 q _).mono ?_
          rintro e u1 ⟨rfl, hb1⟩
          have Q1 := HR.out.kept hb1
          have P1 : L1.length + (ByteArray.mk (be4 q).toArray).size ≤ maxLen := by have e1 : (ByteArray.mk (be4 q).toArray).size = 4 := rfl; rw [e1]; unfold maxLen; omega
          have P2 : L1.length + (ByteArray.mk (be4 q).toArray).size ≤ 140737488355328 := by have e1 : (ByteArray.mk (be4 q).toArray).size = 4 := rfl; rw [e1]; omega
          go_wp2_with (at_builtin; refine Lib.wpList_append_own_string _ rfl _ _ 74 9 rfl w.heap.size 5 i1 Try.underlying74 Try.underlying9 hi' hy0 hy1 hy2 _ L1.length (bv L1) rfl Q1.own1 (ByteArray.mk (be4 q).toArray) rfl P1 P2 Q1.below.size ?_)
          intro vb2 w2 ow hgr _
          have R2 := Q1.app (d := be4 q) ow rfl hgr
          have HR2 := Lib.hid R2
          clear R2 ow hgr Q1
          go_wp2_with fail
          go_roundw
          case rel =>
            have e1 : bodyN l r l.length ++ ((startsN l r l.length).take (k + 1)).flatMap be4 = L1 ++ be4 q := by
              rw [List.take_add_one, HX.out, List.flatMap_append, ← HE.out]
              simp
            exact ⟨k + 1, by omega, by go_num, by rw [e1]; exact HR2.out, by rw [e1, List.length_append, be4_len]; omega⟩
          case measure => simp [intOf]; omega
        · obtain rfl : k = (startsI l r l.length).length := by omega
          obtain ⟨A1, cp1, rfl⟩ := (Reads.of_own hRB.own1).form
          have e0 : (startsN l r l.length).take (startsI l r l.length).length = startsN l r l.length := by rw [HSN.out, List.take_length]
          rw [e0] at hRB hl1 ⊢
          obtain ⟨L1, hL1⟩ : ∃ L1, bodyN l r l.length ++ (startsN l r l.length).flatMap be4 = L1 := ⟨_, rfl⟩
          rw [hL1] at hRB hl1 ⊢
          have HE1 := Lib.hid hL1
          have R1 := hRB
          clear hL1 hRB e0
          go_wp2_with fail
          refine (ref_number4 (startsI l r l.length).length _).mono ?_
          rintro e u1 ⟨rfl, hb1⟩
          have Q1 := R1.kept hb1
          have P1 : L1.length + (ByteArray.mk (be4 (startsI l r l.length).length).toArray).size ≤ maxLen := by have e1 : (ByteArray.mk (be4 (startsI l r l.length).length).toArray).size = (be4 (startsI l r l.length).length).length := rfl; rw [e1]; show L1.length + 4 ≤ _; unfold maxLen; omega
          have P2 : L1.length + (ByteArray.mk (be4 (startsI l r l.length).length).toArray).size ≤ 140737488355328 := by have e1 : (ByteArray.mk (be4 (startsI l r l.length).length).toArray).size = (be4 (startsI l r l.length).length).length := rfl; rw [e1]; show L1.length + 4 ≤ _; omega
          go_wp2_with (at_builtin; refine Lib.wpList_append_own_string _ rfl _ _ 74 9 rfl w.heap.size 5 i1 Try.underlying74 Try.underlying9 hi' hy0 hy1 hy2 _ L1.length (bv L1) rfl Q1.own1 (ByteArray.mk (be4 (startsI l r l.length).length).toArray) rfl P1 P2 Q1.below.size ?_)
          intro vb2 w2' ow hgr _
          have R2 := Q1.app (d := be4 (startsI l r l.length).length) ow rfl hgr
          obtain ⟨L2, hL2⟩ : ∃ L2, L1 ++ be4 (startsI l r l.length).length = L2 := ⟨_, rfl⟩
          have ll2 := @List.length_append _ L1 (be4 (startsI l r l.length).length)
          have hl2 : L2.length ≤ L1.length + 4 := by rw [← hL2, ll2]; show L1.length + 4 ≤ _; omega
          rw [hL2] at R2
          clear ow hgr
          obtain ⟨A2, cp2, rfl⟩ := (Reads.of_own R2.own1).form
          have HE2 := Lib.hid hL2
          clear hL2 ll2 P1 P2 Q1 R1
          go_wp2_with fail
          refine (ref_number2 r _).mono ?_
          rintro e u2 ⟨rfl, hb2⟩
          have Q2 := R2.kept hb2
          have P1 : L2.length + (ByteArray.mk (be2 r).toArray).size ≤ maxLen := by have e1 : (ByteArray.mk (be2 r).toArray).size = (be2 r).length := rfl; rw [e1]; show L2.length + 2 ≤ _; unfold maxLen; omega
          have P2 : L2.length + (ByteArray.mk (be2 r).toArray).size ≤ 140737488355328 := by have e1 : (ByteArray.mk (be2 r).toArray).size = (be2 r).length := rfl; rw [e1]; show L2.length + 2 ≤ _; omega
          go_wp2_with (at_builtin; refine Lib.wpList_append_own_string _ rfl _ _ 74 9 rfl w.heap.size 5 i1 Try.underlying74 Try.underlying9 hi' hy0 hy1 hy2 _ L2.length (bv L2) rfl Q2.own1 (ByteArray.mk (be2 r).toArray) rfl P1 P2 Q2.below.size ?_)
          intro vb3 w3' ow hgr _
          have R3 := Q2.app (d := be2 r) ow rfl hgr
          obtain ⟨L3, hL3⟩ : ∃ L3, L2 ++ be2 r = L3 := ⟨_, rfl⟩
          have ll3 := @List.length_append _ L2 (be2 r)
          have hl3 : L3.length ≤ L2.length + 4 := by rw [← hL3, ll3]; show L2.length + 2 ≤ _; omega
          rw [hL3] at R3
          clear ow hgr
          obtain ⟨A3, cp3, rfl⟩ := (Reads.of_own R3.own1).form
          have HE3 := Lib.hid hL3
          clear hL3 ll3 P1 P2 Q2 R2
          have hcv := conv_own R3.own1
          go_wp2_with fail
          refine (rcrc_list L3 _ (by omega)).mono ?_
          rintro e u9 ⟨rfl, rfl⟩
          have hcl := crcN_lt L3
          have hcl' : (crcN L3 : Int) ≤ 4294967295 := by omega
          clear hcv
          go_wp2_with fail
          refine (ref_number4 (crcN L3) _).mono ?_
          rintro e u3 ⟨rfl, hb3⟩
          have Q3 := R3.kept hb3
          have P1 : L3.length + (ByteArray.mk (be4 (crcN L3)).toArray).size ≤ maxLen := by have e1 : (ByteArray.mk (be4 (crcN L3)).toArray).size = (be4 (crcN L3)).length := rfl; rw [e1]; show L3.length + 4 ≤ _; unfold maxLen; omega
          have P2 : L3.length + (ByteArray.mk (be4 (crcN L3)).toArray).size ≤ 140737488355328 := by have e1 : (ByteArray.mk (be4 (crcN L3)).toArray).size = (be4 (crcN L3)).length := rfl; rw [e1]; show L3.length + 4 ≤ _; omega
          go_wp2_with (at_builtin; refine Lib.wpList_append_own_string _ rfl _ _ 74 9 rfl w.heap.size 5 i1 Try.underlying74 Try.underlying9 hi' hy0 hy1 hy2 _ L3.length (bv L3) rfl Q3.own1 (ByteArray.mk (be4 (crcN L3)).toArray) rfl P1 P2 Q3.below.size ?_)
          intro vb4 w4' ow hgr _
          have R4 := Q3.app (d := be4 (crcN L3)) ow rfl hgr
          obtain ⟨L4, hL4⟩ : ∃ L4, L3 ++ be4 (crcN L3) = L4 := ⟨_, rfl⟩
          have ll4 := @List.length_append _ L3 (be4 (crcN L3))
          have hl4 : L4.length ≤ L3.length + 4 := by rw [← hL4, ll4]; show L3.length + 4 ≤ _; omega
          rw [hL4] at R4
          clear ow hgr
          obtain ⟨A4, cp4, rfl⟩ := (Reads.of_own R4.own1).form
          have HE4 := Lib.hid hL4
          clear hL4 ll4 P1 P2 Q3 R3
          have hfin : L4 = blockN l r := by
            have h1 : L3 = tailN l r := by
              unfold tailN
              rw [← HE3.out, ← HE2.out, ← HE1.out, HSN.out]
              simp only [List.append_assoc]
            rw [← HE4.out, h1]
            rfl
          have HF := Lib.hid hfin
          have hbel := R4.below
          have hcv := conv_own R4.own1
          clear hfin
          by_cases hbig : 65536 < L4.length
          · have hbi : (65536 : Int) < (L4.length : Int) := by omega
            have HB := Lib.hid (show buildN l (r : Int) = ([], 3) by
              rw [HBN.out, if_neg]
              rw [← HF.out]
              omega)
            go_wp2_with fail
            go_ret2
            exact ⟨by rw [HB.out]; rfl, hbel⟩
          · have hbi : ¬ (65536 : Int) < (L4.length : Int) := by omega
            have HB := Lib.hid (show buildN l (r : Int) = (L4, 0) by
              rw [HBN.out, if_pos, HF.out]
              rw [← HF.out]
              omega)
            go_wp2_with fail
            go_ret2
            exact ⟨by rw [HB.out]; rfl, hbel⟩

set_option maxRecDepth 100000 in
set_option maxHeartbeats 1000000 in
theorem ref_build_spec {w : World} {v : Value} {l : List Cell} (h : Reads w v l.length 4 (cellVals l)) (hl : l.length ≤ 2932031007402) (hs : ∀ c ∈ l, 0 ≤ c.seq) (r : Int) :
    Calls Try.prog 38 #[v, .int .i64 r] w fun e w' => e = .returned (.tuple #[.string ⟨(buildN l r).1.toArray⟩, .int .i64 (buildN l r).2]) ∧ Below w.heap.size w w' := by
  by_cases hr1 : r < 1
  · have HB := Lib.hid (show buildN l r = ([], 1) by unfold buildN; rw [if_pos (.inl hr1)])
    clear h
    go_enter Try.func38, Try.ntmps38
    go_wp2_with fail
    go_ret2
    exact ⟨by rw [HB.out]; rfl, Below.refl _ _⟩
  by_cases hr2 : 64 < r
  · have HB := Lib.hid (show buildN l r = ([], 1) by unfold buildN; rw [if_pos (.inr hr2)])
    clear h
    go_enter Try.func38, Try.ntmps38
    go_wp2_with fail
    go_ret2
    exact ⟨by rw [HB.out]; rfl, Below.refl _ _⟩
  by_cases hc : checkL l = 0
  · obtain ⟨q, rfl⟩ : ∃ q : Nat, r = (q : Int) := ⟨r.toNat, by omega⟩
    exact rbuild_main h hl hs q (by omega) (by omega) hc
  · have hck := ref_check_list h hl
    have HCK := Lib.hid hck
    have HB := Lib.hid (show buildN l r = ([], checkL l) by unfold buildN; rw [if_neg (by omega), if_pos hc])
    have hr3 : 1 ≤ r := by omega
    have hr4 : r ≤ 64 := by omega
    have hne : (checkL l == 0) = false := by simpa using hc
    obtain ⟨z, hz⟩ : ∃ z, checkL l = z := ⟨_, rfl⟩
    rw [hz] at HCK HB hne hc
    clear h hck hz
    go_enter Try.func38, Try.ntmps38
    go_wp2_with (go_at_call 40; refine HCK.out.mono ?_; rintro e w1 ⟨rfl, hb1⟩)
    go_ret2
    exact ⟨by rw [HB.out]; rfl, hb1⟩
end Go.Proofs.Ytbcaiegglbdonaa

/-
  A region that draws its order, walked by a plan that parts where two operations may come in either order. Over any program.
-/
namespace Go.Proofs.Ytbcaiegglbdonaa
open Go
inductive Tree where
  | nil : Tree
  | take (i : Nat) (t : Tree) : Tree
  | one (i : Nat) (t : Tree) : Tree
  | two (i : Nat) (t : Tree) (j : Nat) (u : Tree) : Tree
section
variable {P : Program} {ops : Array Oper} {Q : Exit → Act → World → Prop} {S : World → Prop}
def wpTree (P : Program) (ops : Array Oper) (Q : Exit → Act → World → Prop) (S : World → Prop) : Tree → Act → World → Prop
  | .nil, a, w => Q .normal a w
  | .take i t, a, w => ∃ o v, ops[i]? = some o ∧ YieldsIf P ops S o v a ∧ wpTree P ops Q S t (a.put o.dst v) w
  | .one i t, a, w => wpOp P ops Q i (fun a' w' => S w' ∧ (S w' → wpTree P ops Q S t a' w')) a w
  | .two i t j u, a, w => wpOp P ops Q i (fun a' w' => S w' ∧ (S w' → wpTree P ops Q S t a' w')) a w ∧ wpOp P ops Q j (fun a' w' => S w' ∧ (S w' → wpTree P ops Q S u a' w')) a w
def treeOK (ops : Array Oper) : Nat → Tree → Array Bool → Bool
  | 0, .nil, listed => Region.ready .any ops listed == []
  | n + 1, .take i t, listed => Region.free .any ops listed i && (Region.ready .any ops listed).contains i && treeOK ops n t (listed.setIfInBounds i true)
  | n + 1, .one i t, listed => Region.ready .any ops listed == [i] && treeOK ops n t (listed.setIfInBounds i true)
  | n + 1, .two i t j u, listed => Region.ready .any ops listed == [i, j] && treeOK ops n t (listed.setIfInBounds i true) && treeOK ops n u (listed.setIfInBounds j true)
  | _, _, _ => false
theorem tree_sound (hs : Region.noSelect ops = true) (hQ : ∀ c a w (dst : Option Tmp) v, Q (.panic c) (a.put dst v) w → Q (.panic c) a w) : ∀ (n : Nat) (t : Tree) (listed : Array Bool) (a : Act) (w : World), treeOK ops n t listed = true → S w → wpTree P ops Q S t a w →
    wpAnyH P .any ops Q S n listed a w := by
  intro n
  induction n with
  | zero =>
    intro t listed a w hp _ h
    cases t with
    | nil => exact wpAnyH_done (by simpa [treeOK] using hp) h 0
    | take => simp [treeOK] at hp
    | one => simp [treeOK] at hp
    | two => simp [treeOK] at hp
  | succ n ih =>
    intro t listed a w hp hS h
    cases t with
    | nil => simp [treeOK] at hp
    | take i t =>
      simp only [treeOK, Bool.and_eq_true] at hp
      obtain ⟨o, v, hi, hy, hr⟩ := h
      exact wpAnyH_take hi hs hp.1.1 hp.1.2 (fun c a w hq => hQ c a w _ _ hq) hy hS (ih _ _ _ _ hp.2 hS hr)
    | one i t =>
      simp only [treeOK, Bool.and_eq_true, beq_iff_eq] at hp
      refine wpAnyH_all hp.1 (by simp) ?_
      intro j hj
      obtain rfl : j = i := by simpa using hj
      exact wpOp_mono (fun a' w' hk => ⟨hk.1, ih _ _ _ _ hp.2 hk.1 (hk.2 hk.1)⟩) h
    | two i t k u =>
      simp only [treeOK, Bool.and_eq_true, beq_iff_eq] at hp
      refine wpAnyH_all hp.1.1 (by simp) ?_
      intro j hj
      rcases List.mem_cons.1 hj with rfl | hj
      · exact wpOp_mono (fun a' w' hk => ⟨hk.1, ih _ _ _ _ hp.1.2 hk.1 (hk.2 hk.1)⟩) h.1
      · obtain rfl : j = k := by simpa using hj
        exact wpOp_mono (fun a' w' hk => ⟨hk.1, ih _ _ _ _ hp.2 hk.1 (hk.2 hk.1)⟩) h.2
theorem region_tree {id : Nat} {a : Act} {w : World} (t : Tree) (hm : P.follows .mixedOrders = true) (hs : Region.noSelect ops = true) (hp : treeOK ops ops.size t (Array.replicate ops.size false) = true)
    (hQ : ∀ c a w (dst : Option Tmp) v, Q (.panic c) (a.put dst v) w → Q (.panic c) a w) (hS : S w.drew) (h : S w.drew → wpTree P ops Q S t a w.drew) : (Code.region id ops true).wp P Q a w := by
  refine wp_region_held (S := S) hm ?_
  exact tree_sound hs hQ _ _ _ _ _ hp hS (h hS)
theorem tree_nil {a : Act} {w : World} (h : Q .normal a w) : wpTree P ops Q S .nil a w := h
theorem tree_take {i : Nat} {t : Tree} {a : Act} {w : World} {o : Oper} {v : Value} (ho : ops[i]? = some o) (hw : Region.wanted o (yielded ops a.tmps) = true) (hv : ∀ w', S w' → (execOp a.eval o).run P w' = .ok (.value v) w')
    (h : wpTree P ops Q S t (a.put o.dst v) w) : wpTree P ops Q S (.take i t) a w := ⟨o, v, ho, .inl ⟨hw, hv⟩, h⟩
theorem tree_op {i : Nat} {t : Tree} {a : Act} {w : World} {o : Oper} (ho : ops[i]? = some o) (hw : Region.wanted o (yielded ops a.tmps) = true)
    (h : ∀ K : Act → World → Prop, Shut (∀ a' w', S w' → (S w' → wpTree P ops Q S t a' w') → K a' w') → Oper.wp P o a w K Q) : wpOp P ops Q i (fun a' w' => S w' ∧ (S w' → wpTree P ops Q S t a' w')) a w := by
  have h1 := h (fun a' w' => S w' ∧ (S w' → wpTree P ops Q S t a' w')) (fun a' w' h1 h2 => ⟨h1, h2⟩)
  unfold Go.wpOp
  simp only [ho, hw, if_true]
  exact .inl h1
theorem tree_one {i : Nat} {t : Tree} {a : Act} {w : World} {o : Oper} (ho : ops[i]? = some o) (hw : Region.wanted o (yielded ops a.tmps) = true)
    (h : ∀ K : Act → World → Prop, Shut (∀ a' w', S w' → (S w' → wpTree P ops Q S t a' w') → K a' w') → Oper.wp P o a w K Q) : wpTree P ops Q S (.one i t) a w := tree_op ho hw h
theorem tree_two {i j : Nat} {t u : Tree} {a : Act} {w : World} {o o' : Oper} (ho : ops[i]? = some o) (hw : Region.wanted o (yielded ops a.tmps) = true) (ho' : ops[j]? = some o') (hw' : Region.wanted o' (yielded ops a.tmps) = true)
    (h : ∀ K : Act → World → Prop, Shut (∀ a' w', S w' → (S w' → wpTree P ops Q S t a' w') → K a' w') → Oper.wp P o a w K Q)
    (h' : ∀ K : Act → World → Prop, Shut (∀ a' w', S w' → (S w' → wpTree P ops Q S u a' w') → K a' w') → Oper.wp P o' a w K Q) : wpTree P ops Q S (.two i t j u) a w := ⟨tree_op ho hw h, tree_op ho' hw' h'⟩
end
end Go.Proofs.Ytbcaiegglbdonaa
