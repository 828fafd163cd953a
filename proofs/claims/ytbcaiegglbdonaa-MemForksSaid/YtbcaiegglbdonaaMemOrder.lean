/-
  MemOrder: the walk.
-/
import Derived.Test.YtbcaiegglbdonaaMemCol
import Derived.Test.YtbcaiegglbdonaaMemTwo
import Derived.Test.YtbcaiegglbdonaaMemHeights
import Derived.Sort.QuietIn
import Derived.Sort.CutIn
namespace Go.Proofs.Ytbcaiegglbdonaa
open Go.RowKit Go.Shelf
attribute [local go_sem] Oper.semAt_some
set_option linter.unusedSimpArgs false

def ordEarly (p0 p1 p2 : ByteArray) : Bool := (!Op.bytesLess p0.toList p1.toList && !decide (p0.toList = p1.toList)) || decide (p1.toList = []) || (!decide (p2.toList = []) && !Op.bytesLess p1.toList p2.toList && !decide (p1.toList = p2.toList))
theorem lt3 (a b : ByteArray) : Op.bytesLess a.toList b.toList = true ∨ (Op.bytesLess a.toList b.toList = false ∧ a.toList = b.toList) ∨ (Op.bytesLess a.toList b.toList = false ∧ ¬ a.toList = b.toList) := by
  by_cases u : Op.bytesLess a.toList b.toList = true
  · exact .inl u
  · by_cases u2 : a.toList = b.toList
    · exact .inr (.inl ⟨by simpa using u, u2⟩)
    · exact .inr (.inr ⟨by simpa using u, u2⟩)
theorem early_false {p0 p1 p2 : ByteArray} (h : ordEarly p0 p1 p2 = false) : ¬ SLt p1 p0 ∧ p1.toList ≠ [] ∧ (p2.toList ≠ [] → ¬ SLt p2 p1) := by
  have gt : ∀ {a b : ByteArray}, (!Op.bytesLess a.toList b.toList && !decide (a.toList = b.toList)) = false → ¬ SLt b a := by
    intro a b h hs
    by_cases u : Op.bytesLess a.toList b.toList = true
    · exact SLt.irrefl _ (((lt_str _ _).1 u).trans hs)
    · have u : Op.bytesLess a.toList b.toList = false := by simpa using u
      rw [u] at h
      simp at h
      have := str_beq.1 (beq_iff_eq.2 h)
      subst this
      exact SLt.irrefl _ hs
  unfold ordEarly at h
  simp only [Bool.or_eq_false_iff, decide_eq_false_iff_not] at h
  refine ⟨gt h.1.1, h.1.2, fun h2 => gt ?_⟩
  have h3 := h.2
  rw [decide_eq_false h2] at h3
  simpa using h3
theorem ksorted_of {M : MM} (h : SortedM M) : KSorted (M.map (·.1)) := List.pairwise_map.2 (h.imp fun {x y} hp hs => by
  rcases hp with hp | ⟨hp, _⟩
  · exact SLt.irrefl _ (hp.trans hs)
  · rw [hp] at hs; exact SLt.irrefl _ hs)
theorem less_nil (a : List UInt8) : Op.bytesLess a [] = false := by cases a <;> rfl
def OrdRel (w0 : World) (a : Nat) (cs : List Cell) (i : Value) (wr : World) : Prop := ∃ k : Nat, k ≤ cs.length ∧ i = .int .i64 k ∧ Own w0 a (putAll [] (cs.take k) 1) (fun _ => False) wr
def LessRel (w : World) (n : Nat) (i : Value) (wr : World) : Prop := ∃ m : Nat, i = .int .i64 ((m : Int) + 1) ∧ (m < n ∨ m = 0) ∧ Below w.heap.size w wr

set_option maxRecDepth 100000 in
set_option maxHeartbeats 4000000 in
theorem order_walk {w : World} {v1 : Value} {cs : List Cell} (h1 : Reads w v1 cs.length 4 (cellVals cs)) (p0 p1 p2 : ByteArray) (hl1 : cs.length ≤ 2932031007402) :
    Calls Try.prog 4 #[v1, .agg #[.string p0, .string p1, .string p2]] w fun e w' => e = .returned (.bool true) ∧ Below w.heap.size w w' := by
  obtain ⟨i0, hi, hz0, hz1, hz2⟩ := info_parts Try.infoCell
  obtain ⟨A1, k1, rfl⟩ := h1.form
  have H1 := Lib.hid h1
  have hm1 := h1.2.1
  clear h1
  refine (callsIn_wide (n := 6)).1 ?_
  have hn6 : 1 ≤ 6 := by omega
  refine callsIn_of_wp_marks Try.func4 rfl trivial ?_ rfl
  simp only [Try.ntmps4, List.size_toArray, List.length_cons, List.length_nil, Nat.reduceAdd, Nat.reduceSub, Array.replicate_succ, Array.replicate_zero, List.push_toArray, List.append_toArray, List.nil_append, List.cons_append]
  gi_wp2_with fail
  gi_quiet (fail)
  gi_wp2_with fail
  refine ⟨trivial, ?_⟩
  refine (callsIn_wide.2 (new_spec _)).mono ?_
  rintro e w1 hn
  obtain ⟨rfl, ho⟩ := Own.new (w0 := w) (below_drewN ((Below.refl _ _).alloc (Nat.le_refl _) _) nq) hn
  clear hn
  obtain ⟨a, ha⟩ : ∃ a, a = ((w.alloc (.cells #[.string p0, .string p1, .string p2] 34)).drewN nq).heap.size + 1 := ⟨_, rfl⟩
  rw [← ha] at ho ⊢
  clear ha
  gi_wp2_with fail
  refine ⟨trivial, ?_⟩
  refine (callsIn_wide.2 (awake_spec _)).mono ?_
  rintro e w2 ⟨rfl, hb2⟩
  have ho2 := ho.only hb2
  clear ho hb2
  gi_wp2_with fail
  gi_loopw [33] (OrdRel w a cs) (fun i _ => cs.length - (intOf i).toNat)
  case atStart => exact ⟨0, by omega, rfl, ho2⟩
  case round =>
    obtain ⟨k, hk, rfl, ho⟩ := hrel
    by_cases hlt : k < cs.length
    · obtain ⟨d, hd⟩ : ∃ d, cs[k]? = some d := ⟨_, List.getElem?_eq_getElem hlt⟩
      obtain ⟨b, o, rfl, hbl, c0, c1, c2, c3⟩ := (H1.out.kept ho.below).cell_at hd
      have i0 : (0 : Int) ≤ (k : Int) := by omega
      have i1 : (k : Int) < (cs.length : Int) := by omega
      have hlen := putAll_len (cs.take k) 1 []
      have hln : (putAll [] (cs.take k) 1).length ≤ 1099511627776000 := by simp at hlen; omega
      clear hlen
      have HD := Lib.hid hd
      clear hd
      gi_wp2_with fail
      refine ⟨trivial, ?_⟩
      refine (callsIn_wide.2 ((ho.alloc _).put d 1 hln)).mono ?_
      rintro e w3 ⟨rfl, ho3, _⟩
      gi_wp2_with fail
      go_roundw
      case rel => exact ⟨k + 1, by omega, by go_num, by rw [take_snoc HD.out, putAll_snoc]; exact ho3⟩
      case measure => simp [intOf]; omega
    · obtain rfl : k = cs.length := by omega
      rw [List.take_length] at ho
      have hlen := putAll_len cs 1 []
      have hsort : SortedM (putAll [] cs 1) := sorted_all cs 1 List.Pairwise.nil
      obtain ⟨M, hM⟩ : ∃ M, M = putAll [] cs 1 := ⟨_, rfl⟩
      rw [← hM] at ho hlen hsort
      clear hM ho2
      have hl48 : M.length * 48 ≤ 140737488355328 := by simp at hlen; omega
      clear hlen
      obtain ⟨F0, hm0, hF0, _⟩ := ho.mem
      have hbl0 := ho.below
      clear ho
      gi_wp2_with fail
      refine ⟨trivial, ?_⟩
      refine (callsIn_wide.2 (cells_model hm0 hl48)).mono ?_
      rintro e w4 ⟨v, rfl, hown, hb4⟩
      obtain ⟨L, hL⟩ : ∃ L, L = M.map (·.1) := ⟨_, rfl⟩
      rw [← hL] at hown
      have hLs : L.Pairwise fun x y => PLt x.key x.seq y.key y.seq := by rw [hL]; exact List.pairwise_map.2 hsort
      have hll : L.length ≤ 2932031007403 := by rw [hL, List.length_map]; omega
      have HL := Lib.hid hL
      clear hL
      obtain ⟨A4, c4, rfl⟩ := (Reads.of_own hown).form
      have hR4 := Lib.hid (Reads.of_own hown)
      clear hown
      have hm4 := hm0.kept hb4
      have hbl4 := hbl0.trans (hb4.mono hbl0.size)
      clear hm0 hb4 hbl0
      gi_wp2_with fail
      gi_loopw [12] (LessRel w4 L.length) (fun i _ => L.length - (intOf i).toNat)
      case atStart => exact ⟨0, by simp, .inr rfl, Below.refl _ _⟩
      case round =>
        obtain ⟨m, rfl, hmr, hbr⟩ := hrel
        have hm1i : IntKind.i64.wrap (m : Int) = (m : Int) := IntWalk.i64_in _ (by omega)
        have hm2i : IntKind.i64.wrap ((m : Int) + 1 + 1) = (m : Int) + 1 + 1 := IntWalk.i64_in _ (by omega)
        by_cases hlt : m + 1 < L.length
        · obtain ⟨x, hx⟩ : ∃ x, L[m]? = some x := ⟨_, List.getElem?_eq_getElem (by omega)⟩
          obtain ⟨y, hy⟩ : ∃ y, L[m + 1]? = some y := ⟨_, List.getElem?_eq_getElem hlt⟩
          obtain ⟨b, o, hA, hbl, c0, c1, c2, c3⟩ := (hR4.out.kept hbr).cell_at hx
          subst hA
          obtain ⟨b', o', hA', hbl', d0, d1, d2, d3⟩ := (hR4.out.kept hbr).cell_at hy
          cases hA'
          have hp : decide (PLt x.key x.seq y.key y.seq) = true := by
            simp only [decide_eq_true_eq]
            have h1 := List.pairwise_iff_getElem.1 hLs m (m + 1) (by omega) hlt (by omega)
            rw [List.getElem?_eq_getElem (by omega)] at hx hy
            cases hx; cases hy
            exact h1
          have hls := less_spec x y wr.drew
          rw [hp] at hls
          have HLS := Lib.hid hls
          have i0 : (0 : Int) ≤ (m : Int) := by omega
          have i1 : (m : Int) < (L.length : Int) := by omega
          have i2 : (m : Int) + 1 < (L.length : Int) := by omega
          have i3 : (0 : Int) ≤ (m : Int) + 1 := by omega
          have HX := Lib.hid hx
          have HY := Lib.hid hy
          clear hx hy hls hp
          gi_wp2_with fail
          refine wpIn_wide.2 ?_
          refine region_tail 9 (by kernel_rfl) (by kernel_rfl) ?_
          simp only [List.take_succ_cons, List.take_zero, List.drop_succ_cons, List.drop_zero]
          repeat still_step
          refine wpStill_nil ?_
          go_wp2_with fail
          refine HLS.out.mono ?_
          rintro e w5 ⟨rfl, hb5⟩
          have hb6 : Below w4.heap.size w4 w5 := hbr.trans ((Below.refl _ _).drew.trans (hb5.mono hbr.size))
          go_wp2_with fail
          gi_wp2_with fail
          go_roundw
          case rel => exact ⟨m + 1, by go_num, by omega, hb6⟩
          case measure => simp [intOf]; omega
        · have hblr := hbl4.trans (hbr.mono hbl4.size)
          have hmr := hm4.kept hbr
          have i3 : ¬ (m : Int) + 1 < (L.length : Int) := by omega
          gi_upto_region 16 with fail
          gi_cut [75] from 62 (fun v wx => wx = wr ∧ v = .bool (ordEarly p0 p1 p2))
          case first =>
            have hnn := less_nil []
            by_cases q2 : p1.toList = []
            · have hn := less_nil p0.toList
              by_cases z : p0.toList = []
              · gi_wp2_with fail
                gi_meet
                exact ⟨rfl, by simp [ordEarly, q2]⟩
              · gi_wp2_with fail
                gi_meet
                exact ⟨rfl, by simp [ordEarly, q2]⟩
            have hq2 : (p1.toList == []) = false := by simpa using q2
            rcases lt3 p0 p1 with u | ⟨u, u2⟩ | ⟨u, u2⟩
            · by_cases q3 : p2.toList = []
              · gi_wp2_with fail
                gi_meet
                exact ⟨rfl, by simp [ordEarly, q2, q3, u]⟩
              have hq3 : (p2.toList != []) = true := by simpa using q3
              rcases lt3 p1 p2 with v | ⟨v, v2⟩ | ⟨v, v2⟩
              · gi_wp2_with fail
                gi_meet
                exact ⟨rfl, by simp [ordEarly, q2, q3, u, v]⟩
              · have uw := u
                rw [v2] at uw
                gi_wp2_with fail
                gi_meet
                exact ⟨rfl, by simp [ordEarly, q2, q3, u, uw, v, v2]⟩
              · gi_wp2_with fail
                gi_meet
                exact ⟨rfl, by simp [ordEarly, q2, q3, u, v, v2]⟩
            · by_cases q3 : p2.toList = []
              · gi_wp2_with fail
                gi_meet
                exact ⟨rfl, by simp [ordEarly, q2, q3, u, u2]⟩
              have hq3 : (p2.toList != []) = true := by simpa using q3
              rcases lt3 p1 p2 with v | ⟨v, v2⟩ | ⟨v, v2⟩
              · gi_wp2_with fail
                gi_meet
                exact ⟨rfl, by simp [ordEarly, q2, q3, u, u2, v]⟩
              · have uw := u
                rw [v2] at uw
                have u2w := u2.trans v2
                gi_wp2_with fail
                gi_meet
                exact ⟨rfl, by simp [ordEarly, q2, q3, u, u2, uw, v, v2]⟩
              · gi_wp2_with fail
                gi_meet
                exact ⟨rfl, by simp [ordEarly, q2, q3, u, u2, v, v2]⟩
            · gi_wp2_with fail
              gi_meet
              exact ⟨rfl, by simp [ordEarly, u, u2]⟩
          case rest =>
            obtain ⟨rfl, rfl⟩ := hcut
            obtain ⟨g, hg⟩ : ∃ g, ordEarly p0 p1 p2 = g := ⟨_, rfl⟩
            rw [hg]
            have HG := Lib.hid hg
            clear hg
            cases g with
            | true =>
              gi_wp2_with fail
              exact ⟨_, results_tmp rfl _ _ _, rfl, hblr⟩
            | false =>
              obtain ⟨ht1, ht2, ht3⟩ := early_false HG.out
              have hT := Lib.hid (scan_touch (fr := p0) (mid := p1) (to := p2) (cs := M.map (·.1)) (ksorted_of hsort) ht1 ht2 ht3)
              obtain ⟨Z1, hZ1⟩ : ∃ Z, Z = scanL p0 p1 (M.map (·.1)) := ⟨_, rfl⟩
              obtain ⟨Z2, hZ2⟩ : ∃ Z, Z = scanL p1 p2 (M.map (·.1)) := ⟨_, rfl⟩
              obtain ⟨Z3, hZ3⟩ : ∃ Z, Z = scanL p0 p2 (M.map (·.1)) := ⟨_, rfl⟩
              have hT' : Hid (Z1 ++ Z2 = Z3) := by rw [hZ1, hZ2, hZ3]; exact hT
              have hL3 : Hid (Z3.length ≤ 2932031007402) := Lib.hid (by
                have h1 := scanL_len p0 p2 (M.map (·.1))
                rw [List.length_map] at h1
                rw [hZ3]
                omega)
              have hL2 : Hid (Z1.length + Z2.length ≤ 2932031007402) := Lib.hid (by
                have h1 := congrArg List.length hT'.out
                rw [List.length_append] at h1
                have h2 := hL3.out
                omega)
              have hL1 : Hid (Z1.length ≤ 2932031007402) := Lib.hid (by have := hL2.out; omega)
              have HZ1 := Lib.hid hZ1
              have HZ2 := Lib.hid hZ2
              have HZ3 := Lib.hid hZ3
              clear hZ1 hZ2 hZ3 hT ht1 ht2 ht3
              gi_wp2_with fail
              refine ⟨trivial, ?_⟩
              refine (callsIn_wide.2 (scan_some _ _ _ _ ⟨_, rfl⟩)).mono ?_
              rintro e w5 ⟨rfl, x0, x1, x2, hb5⟩
              obtain ⟨pb, hpb⟩ : ∃ pb, pb = wc.heap.size := ⟨_, rfl⟩
              obtain ⟨W2, hW2⟩ : ∃ W2, W2 = (wc.alloc (.cells #[.slice none 0 0] 22)).alloc (.cells #[.slice none 0 0] 22) := ⟨_, rfl⟩
              have bP : Blk W2 pb #[.slice none 0 0] 22 := by rw [hW2, hpb]; exact (Blk.new _ _ _).alloc _
              have bQ : Blk W2 (pb + 1) #[.slice none 0 0] 22 := by rw [hW2, hpb]; exact Blk.new' _ _ _ (by simp)
              have hb2 : Below wc.heap.size wc W2 := by rw [hW2]; exact ((Below.refl _ _).alloc (Nat.le_refl _) _).alloc (by simp) _
              rw [← hW2] at x0 x1 x2 hb5
              rw [← hW2, ← hpb]
              have hbl2 : Below w.heap.size w W2 := hblr.trans (hb2.mono hblr.size)
              obtain ⟨F1, hm1, hS1, hF1⟩ := hmr.solid
              have hm2 := hm1.kept hb2
              have hS2 := hS1.kept hb2
              have hF1' : ∀ k, F1 k → k < pb := fun k hk => by rw [hpb]; exact hm1.lt k hk
              have hwp : w.heap.size ≤ pb := by rw [hpb]; exact hblr.size
              clear hmr hm1 hS1 hb2 hpb hW2 hblr
              obtain ⟨hm2', hS2'⟩ := hm2.wider hS2 bQ rfl
              have hI2 : ColI w (fun k => F1 k ∨ k = pb + 1) W2 pb [] [] W2 := ⟨⟨_, bP, World.ownsRow_nil _ _ _ _, fun g hg => by cases hg⟩, Only.refl _ _, hbl2, fun D hD => by cases hD⟩
              obtain ⟨hm5, hS5, hI5, hp5, hFl5, hD5, hseq5⟩ := scan_ready 5 (by omega) hI2 hm2' hS2' hl48 x0 x1 x2 hb5
              rw [← HZ1.out] at hseq5
              have hpF : ¬ (F1 pb ∨ pb = pb + 1) := by
                rintro (h | h)
                · exact absurd (hF1' _ h) (by omega)
                · omega
              have hm5a := hm2.kept hb5
              have hS5a := hS2.kept hb5
              have bQ5 := bQ.kept hb5
              clear hm2 hS2 bQ bP x0 x1 x2
              gi_wp2_with fail
              refine range_cells (p := 80) (q := 15) (by omega) rfl hseq5 hp5 (fun pre W => ColI w (fun k => F1 k ∨ k = pb + 1) w5 pb [] (([] : List Cell) ++ pre) W) (fun _ _ _ => False) (colI_own ([] : List Cell) hS5 hI5.below.size hD5) (fun _ _ _ _ _ hs _ _ => hs) (by rw [List.append_nil]; exact hI5) ?assign80 ?body80 ?done80 ?stop80 (fun pre W h => h.only.size)
              case assign80 =>
                intro l x W K hK
                unfold cellA at hK ⊢
                simp only [List.setIfInBounds_toArray, List.set_cons_succ, List.set_cons_zero] at hK ⊢
                gi_wp2
                exact hK
              case stop80 => exact fun D c pre W _ _ h _ => h.elim
              case body80 =>
                rintro l pre x Bx W hI hB _ hlt
                unfold cellA at hB ⊢
                simp only [List.setIfInBounds_toArray, List.set_cons_succ, List.set_cons_zero]
                obtain ⟨v, hv, hrow, hvF⟩ := hI.row
                have hc := hv.cell
                have hf := hv.frozen
                have hvl := hv.lt
                obtain ⟨y0, y1, y2, y3⟩ := cell4 hB
                have hBl := hB.lt
                have hpl : (([] : List Cell) ++ pre).length + 1 ≤ 2932031007402 := by
                  have h1 := hlt
                  have h2 := hL1.out
                  simp only [List.length_append, List.length_nil] at h1 h2 ⊢
                  omega
                have q3 : (([] : List Cell) ++ pre).length + 1 ≤ maxLen := by unfold maxLen; omega
                have q4 : ((([] : List Cell) ++ pre).length + 1) * 48 ≤ 140737488355328 := by omega
                have q5 : w.heap.size ≤ (W.alloc (.cells #[.string x.key, .int .u64 x.seq, .string x.val, .bool x.gone] 25)).heap.size := by have := hI.below.size; simp only [World.size_alloc]; omega
                have HP := Lib.hid hpl
                clear hpl
                gi_wp2_with (gi_at_builtin; refine wpListIn_append_fresh _ rfl _ _ 22 rfl w.heap.size 25 i0 cellZ 4 48 Try.underlying22 hi hz0 hz1 hz2 rfl (by decide) _ _ _ rfl (hrow.alloc _) ⟨W.heap.size, 0, none⟩ 1 1 [.string x.key, .int .u64 x.seq, .string x.val, .bool x.gone] rfl rfl (news4 _ _) (by simp [Value.oneCell']) (by decide) q3 q4 q5 ?_; intro v' w1 hown' hgrow hfr; obtain ⟨hv1, hk2, hkp, hI2⟩ := hI.step hpF hwp hFl5 hv hrow hvF hown' hgrow hfr; obtain ⟨g', cap', rfl⟩ := ownsRow_succ hown'; have hc1 := hv1.cell; have hf1 := hv1.frozen)
                rw [List.append_assoc] at hI2
                skip
                exact ⟨hk2.from _, hkp, hI2⟩
              case done80 =>
                intro D W hD hI hk
                rw [List.nil_append] at hI
                have hI1 := hI.mark hk
                have hmW := hm5a.only hI.only fun k hk hn => hn (.inl hk)
                have hSW := hS5a.only (hI.only.mono fun k _ hn hk => hn (.inl hk))
                have bQW := bQ5.only hI.only (fun hn => hn (.inr rfl))
                gi_wp2_with fail
                refine ⟨trivial, ?_⟩
                refine (callsIn_wide.2 (scan_some _ _ _ _ ⟨_, rfl⟩)).mono ?_
                rintro e w7 ⟨rfl, x0, x1, x2, hb7⟩
                obtain ⟨hm7, hS7, hI7, hp7, hFl7, hD7, hseq7⟩ := scan_ready 5 (by omega) hI1 hm5 hS5 hl48 x0 x1 x2 hb7
                rw [← HZ2.out] at hseq7
                have hm7a := hmW.kept hb7
                have hS7a := hSW.kept hb7
                have bQ7 := bQW.kept hb7
                have hwD : w.heap.size ≤ D := Nat.le_trans hI5.below.size hD
                clear hmW hSW bQW hI hI1 hm5a hS5a bQ5 x0 x1 x2 hb7
                gi_wp2_with fail
                refine range_cells (p := 89) (q := 16) (by omega) rfl hseq7 hp7 (fun pre W => ColI w (fun k => F1 k ∨ k = pb + 1) w7 pb [D] (Z1 ++ pre) W) (fun _ _ _ => False) (colI_own Z1 hS7 hI7.below.size hD7) (fun _ _ _ _ _ hs _ _ => hs) (by rw [List.append_nil]; exact hI7) ?assign89 ?body89 ?done89 ?stop89 (fun pre W h => h.only.size)
                case assign89 =>
                  intro l x W K hK
                  unfold cellA at hK ⊢
                  simp only [List.setIfInBounds_toArray, List.set_cons_succ, List.set_cons_zero] at hK ⊢
                  gi_wp2
                  exact hK
                case stop89 => exact fun D c pre W _ _ h _ => h.elim
                case body89 =>
                  rintro l pre x Bx W hI hB _ hlt
                  unfold cellA at hB ⊢
                  simp only [List.setIfInBounds_toArray, List.set_cons_succ, List.set_cons_zero]
                  obtain ⟨v, hv, hrow, hvF⟩ := hI.row
                  have hc := hv.cell
                  have hf := hv.frozen
                  have hvl := hv.lt
                  obtain ⟨y0, y1, y2, y3⟩ := cell4 hB
                  have hBl := hB.lt
                  have hpl : (Z1 ++ pre).length + 1 ≤ 2932031007402 := by
                    have h1 := hlt
                    have h2 := hL2.out
                    simp only [List.length_append, List.length_nil] at h1 h2 ⊢
                    omega
                  have q3 : (Z1 ++ pre).length + 1 ≤ maxLen := by unfold maxLen; omega
                  have q4 : ((Z1 ++ pre).length + 1) * 48 ≤ 140737488355328 := by omega
                  have q5 : w.heap.size ≤ (W.alloc (.cells #[.string x.key, .int .u64 x.seq, .string x.val, .bool x.gone] 25)).heap.size := by have := hI.below.size; simp only [World.size_alloc]; omega
                  have HP := Lib.hid hpl
                  clear hpl
                  gi_wp2_with (gi_at_builtin; refine wpListIn_append_fresh _ rfl _ _ 22 rfl w.heap.size 25 i0 cellZ 4 48 Try.underlying22 hi hz0 hz1 hz2 rfl (by decide) _ _ _ rfl (hrow.alloc _) ⟨W.heap.size, 0, none⟩ 1 1 [.string x.key, .int .u64 x.seq, .string x.val, .bool x.gone] rfl rfl (news4 _ _) (by simp [Value.oneCell']) (by decide) q3 q4 q5 ?_; intro v' w1 hown' hgrow hfr; obtain ⟨hv1, hk2, hkp, hI2⟩ := hI.step hpF hwp hFl7 hv hrow hvF hown' hgrow hfr; obtain ⟨g', cap', rfl⟩ := ownsRow_succ hown'; have hc1 := hv1.cell; have hf1 := hv1.frozen)
                  rw [List.append_assoc] at hI2
                  rw [List.length_append] at hk2 hkp hI2
                  exact ⟨hk2.from _, hkp, hI2⟩
                case done89 =>
                  intro D' W' hD' hI hk'
                  have hI1 := hI.mark hk'
                  have hmW := hm7a.only hI.only fun k hk hn => hn (.inl hk)
                  have hSW := hS7a.only (hI.only.mono fun k _ hn hk => hn (.inl hk))
                  have bQW := bQ7.only hI.only (fun hn => hn (.inr rfl))
                  obtain ⟨v1, hv1, hr1, hn1⟩ := hI.row
                  obtain ⟨hm8, hS8⟩ := hmW.widen hSW (G := fun k => k = pb ∨ v1.ownBlock = some k) (by
                    rintro k (rfl | hk)
                    · exact ⟨_, hv1, rfl⟩
                    · rcases hr1.2 with ⟨rfl, _⟩ | ⟨g, cap, cur, rfl, _, hgb, _⟩
                      · cases hk
                      · cases hk; exact ⟨_, hgb, rfl⟩)
                  have hqF : ¬ (F1 (pb + 1) ∨ (pb + 1 = pb ∨ v1.ownBlock = some (pb + 1))) := by
                    rintro (h | h | h)
                    · exact absurd (hF1' _ h) (by omega)
                    · omega
                    · exact hn1 _ h (.inr rfl)
                  have hI8 : ColI w (fun k => F1 k ∨ (k = pb ∨ v1.ownBlock = some k)) W' (pb + 1) [D', D] [] W' := ⟨⟨_, bQW, World.ownsRow_nil _ _ _ _, fun g hg => by cases hg⟩, Only.refl _ _, hI.below, hI1.marks⟩
                  have hDD : D < D' := Nat.lt_of_lt_of_le (hD7 D (by simp)) hD'
                  have hwq : w.heap.size ≤ pb + 1 := by omega
                  clear hI hI1 hmW hSW bQW hm7a hS7a bQ7
                  gi_wp2_with fail
                  refine ⟨trivial, ?_⟩
                  refine (callsIn_wide.2 (scan_some _ _ _ _ ⟨_, rfl⟩)).mono ?_
                  rintro e w9 ⟨rfl, x0, x1, x2, hb9⟩
                  obtain ⟨hm9, hS9, hI9, hp9, hFl9, hD9, hseq9⟩ := scan_ready 5 (by omega) hI8 hm8 hS8 hl48 x0 x1 x2 hb9
                  rw [← HZ3.out] at hseq9
                  have hv9 : Boxed w9 pb 22 v1 := (hb9.block pb hv1.lt).trans hv1
                  have hr9 := own_kept hr1 hb9
                  clear x0 x1 x2 hb9 hm8 hS8 hI8 hv1 hr1
                  gi_wp2_with fail
                  refine range_cells (p := 98) (q := 17) (by omega) rfl hseq9 hp9 (fun pre W => ColI w (fun k => F1 k ∨ (k = pb ∨ v1.ownBlock = some k)) w9 (pb + 1) [D', D] (([] : List Cell) ++ pre) W) (fun _ _ _ => False) (colI_own ([] : List Cell) hS9 hI9.below.size hD9) (fun _ _ _ _ _ hs _ _ => hs) (by rw [List.append_nil]; exact hI9) ?assign98 ?body98 ?done98 ?stop98 (fun pre W h => h.only.size)
                  case assign98 =>
                    intro l x W K hK
                    unfold cellA at hK ⊢
                    simp only [List.setIfInBounds_toArray, List.set_cons_succ, List.set_cons_zero] at hK ⊢
                    gi_wp2
                    exact hK
                  case stop98 => exact fun D c pre W _ _ h _ => h.elim
                  case body98 =>
                    rintro l pre x Bx W hI hB _ hlt
                    unfold cellA at hB ⊢
                    simp only [List.setIfInBounds_toArray, List.set_cons_succ, List.set_cons_zero]
                    obtain ⟨v, hv, hrow, hvF⟩ := hI.row
                    have hc := hv.cell
                    have hf := hv.frozen
                    have hvl := hv.lt
                    obtain ⟨y0, y1, y2, y3⟩ := cell4 hB
                    have hBl := hB.lt
                    have hpl : (([] : List Cell) ++ pre).length + 1 ≤ 2932031007402 := by
                      have h1 := hlt
                      have h2 := hL3.out
                      simp only [List.length_append, List.length_nil] at h1 h2 ⊢
                      omega
                    have q3 : (([] : List Cell) ++ pre).length + 1 ≤ maxLen := by unfold maxLen; omega
                    have q4 : ((([] : List Cell) ++ pre).length + 1) * 48 ≤ 140737488355328 := by omega
                    have q5 : w.heap.size ≤ (W.alloc (.cells #[.string x.key, .int .u64 x.seq, .string x.val, .bool x.gone] 25)).heap.size := by have := hI.below.size; simp only [World.size_alloc]; omega
                    have HP := Lib.hid hpl
                    clear hpl
                    gi_wp2_with (gi_at_builtin; refine wpListIn_append_fresh _ rfl _ _ 22 rfl w.heap.size 25 i0 cellZ 4 48 Try.underlying22 hi hz0 hz1 hz2 rfl (by decide) _ _ _ rfl (hrow.alloc _) ⟨W.heap.size, 0, none⟩ 1 1 [.string x.key, .int .u64 x.seq, .string x.val, .bool x.gone] rfl rfl (news4 _ _) (by simp [Value.oneCell']) (by decide) q3 q4 q5 ?_; intro v' w1 hown' hgrow hfr; obtain ⟨hv1, hk2, hkp, hI2⟩ := hI.step hqF hwq hFl9 hv hrow hvF hown' hgrow hfr; obtain ⟨g', cap', rfl⟩ := ownsRow_succ hown'; have hc1 := hv1.cell; have hf1 := hv1.frozen)
                    rw [List.append_assoc] at hI2
                    skip
                    exact ⟨hk2.from _, hkp, hI2⟩
                  case done98 =>
                    intro D3 W3 hD3 hI hk3
                    rw [List.nil_append] at hI
                    have hI1 := hI.mark hk3
                    obtain ⟨v2, hv2, hr2, hn2⟩ := hI.row
                    have hv3 : Boxed W3 pb 22 v1 := (hI.only.block pb hv9.lt (fun h => h (.inr (.inl rfl)))).trans hv9
                    have hr3 := own_only hr9 hI.only (fun g hg => .inr (.inr hg))
                    have c3 := hv3.cell
                    have l3 := hv3.lt
                    have c2 := hv2.cell
                    have l2 := hv2.lt
                    have hDD3 : D' < D3 := Nat.lt_of_lt_of_le (hD9 D' (by simp)) hD3
                    have hDD3' : D < D3 := by omega
                    gi_wp2_with fail
                    refine ⟨trivial, ?_⟩
                    refine (callsIn_wide.2 (same_spec (Reads.of_own hr3) (Reads.of_own hr2))).mono ?_
                    rintro e w10 ⟨rfl, hb10⟩
                    rw [decide_eq_true hT'.out]
                    have hI10 := hI1.again hb10
                    gi_wp2_with fail

                    refine leaves_marks (B := w.heap.size) [D3, D', D] w10 ?_ ?_ hI10.below.size (fun W' hb => ⟨_, results_tmp rfl _ _ _, rfl, hI10.below.trans hb⟩)
                    · simp; omega
                    · intro d hd
                      refine ⟨hI10.marks d hd, ?_⟩
                      simp at hd
                      rcases hd with rfl | rfl | rfl <;> omega

end Go.Proofs.Ytbcaiegglbdonaa
