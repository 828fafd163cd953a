/-
  The walk of the law BlockBack.
-/
import Derived.Test.YtbcaiegglbdonaaAwake8
import Derived.Test.YtbcaiegglbdonaaSeek8
import Derived.Test.YtbcaiegglbdonaaSame8
namespace Go.Proofs.Ytbcaiegglbdonaa
open Go Go.RowKit

def BkRel (wo : World) (l : List Cell) (i : Value) (W : World) : Prop := ∃ n : Nat, i = .int .i64 n ∧ n ≤ l.length ∧ Below wo.heap.size wo W
set_option maxRecDepth 100000 in
set_option maxHeartbeats 4000000 in
theorem back_walk {w : World} {v : Value} {l : List Cell} (h : Reads w v l.length 4 (cellVals l)) (hl : l.length ≤ 2932031007402) (hs : ∀ c ∈ l, 0 ≤ c.seq) (r : Int) :
    Calls Try.prog 10 #[v, .int .i64 r] w fun e w' => e = .returned (.bool true) ∧ Below w.heap.size w w' := by
  obtain ⟨A, cap, rfl⟩ := h.form
  have H := Lib.hid h
  have hB := fun (W : World) (v : Value) (hv : Reads W v l.length 4 (cellVals l)) => build_spec hv hl hs r
  have hR := fun (W : World) (v : Value) (hv : Reads W v l.length 4 (cellVals l)) => ref_build_spec hv hl hs r
  obtain ⟨X, hX⟩ : ∃ X, (buildN l r).1 = X := ⟨_, rfl⟩
  obtain ⟨E, hE⟩ : ∃ E, (buildN l r).2 = E := ⟨_, rfl⟩
  rw [hX, hE] at hB hR
  have HB := Lib.hid hB
  have HR := Lib.hid hR
  have hb : buildN l r = (X, E) := by rw [← hX, ← hE]
  have HSQ := Lib.hid hs
  have HS := Lib.hid (fun (W : World) (v v' : Value) (hv : Reads W v l.length 4 (cellVals l)) (hv' : Reads W v' l.length 4 (cellVals l)) => by have := same8_spec hv hv'; rw [decide_eq_true rfl] at this; exact this)
  clear h hB hR hX hE hs
  by_cases hE0 : ¬ E = 0
  · have hn := build_none hb hE0
    have hEq : (E == 0) = false := by simpa using hE0
    subst hn
    clear hb
    go_enter Try.func10, Try.ntmps10
    go_wp2_with (first | (go_at_call 36; refine (awake8 w).mono ?_; rintro e w1 ⟨rfl, b1⟩) | (go_at_call 37; refine (HB.out _ _ (H.out.kept b1)).mono ?_; rintro e w2 ⟨rfl, b2⟩; have c2 := b1.trans (b2.mono b1.size)) | (go_at_call 38; refine (HR.out _ _ (H.out.kept c2)).mono ?_; rintro e w3 ⟨rfl, b3⟩))
    go_ret
    exact ⟨rfl, c2.trans (b3.mono c2.size)⟩
  · have hE0 : E = 0 := by omega
    subst hE0
    obtain ⟨hop, hadj, hck, hxz, -⟩ := build_open HSQ.out hb
    have hO := fun W => open_spec ⟨X.toArray⟩ (by show X.length ≤ _; omega) W
    rw [hop] at hO
    have HO := Lib.hid hO
    have HAD := Lib.hid hadj
    clear hO hb hop hck hadj hxz
    obtain ⟨S, hS⟩ : ∃ S : ByteArray, ⟨X.toArray⟩ = S := ⟨_, rfl⟩
    rw [hS] at HO
    have HB' : RowKit.Hid (∀ (W : World) (v : Value), Reads W v l.length 4 (cellVals l) → Calls Try.prog 37 #[v, .int .i64 r] W fun e w' => e = .returned (.tuple #[.string S, .int .i64 0]) ∧ Below W.heap.size W w') := by rw [← hS]; exact HB
    clear hS HB HR
    go_enter Try.func10, Try.ntmps10
    go_wp2_with (first
      | (go_at_call 36; refine (awake8 w).mono ?_; rintro e w1 ⟨rfl, b1⟩)
      | (go_at_call 37; refine (HB'.out _ _ (H.out.kept b1)).mono ?_; rintro e w2 ⟨rfl, b2⟩; have c2 := b1.trans (b2.mono b1.size))
      | (go_at_call 42; refine (HO.out _).mono ?_; rintro e w3 ⟨b3, p, rfl, B3, hp3⟩; have c3 := c2.trans (b3.mono c2.size))
      | (go_at_call 43; refine (blk_cells B3).mono ?_; rintro e w4 ⟨v4, rfl, own4, b4⟩; have R4 := Lib.hid (Reads.of_own own4); clear own4; have c4 := c3.trans (b4.mono c3.size))
      | (go_at_call 41; refine (HS.out _ _ _ R4.out (H.out.kept c4)).mono ?_; rintro e w5 ⟨rfl, b5⟩; have b35 := b4.trans (b5.mono b4.size)))
    go_loopw [60] (BkRel w3 l) (fun i _ => l.length - (intOf i).toNat)
    case atStart => exact ⟨0, rfl, Nat.zero_le _, b35⟩
    case round =>
      obtain ⟨n, rfl, hn, hb⟩ := hrel
      have cb := c3.trans (hb.mono c3.size)
      by_cases hlt : n < l.length
      · obtain ⟨x, hx⟩ : ∃ x, l[n]? = some x := ⟨_, List.getElem?_eq_getElem hlt⟩
        obtain ⟨b, o, rfl, hbl, p0, p1, p2, p3⟩ := (H.out.kept cb).cell_at hx
        have j0 : (0 : Int) ≤ (n : Int) := by omega
        have j1 : (n : Int) < (l.length : Int) := by omega
        have hG := fun (W : World) (hW : Below w3.heap.size w3 W) => blk_get (B3.kept hW) HAD.out x.key x.seq
        rw [get_at HAD.out hx] at hG
        have hK := fun (W : World) (hW : Below w3.heap.size w3 W) => blk_seek (B3.kept hW) HAD.out x.key x.seq
        rw [seek_at HAD.out hx] at hK
        have HG := Lib.hid hG
        have HK := Lib.hid hK
        have hne := cell_neq x x
        rw [decide_eq_true rfl] at hne
        have hbA := hb.alloc hb.size (.cells #[.string x.key, .int .u64 x.seq, .string x.val, .bool x.gone] 25)
        have hbox := Blk.new wr #[.string x.key, .int .u64 x.seq, .string x.val, .bool x.gone] 25
        clear hx hG hK
        go_wp2_with (first
          | (go_at_call 44; refine (HG.out _ hbA).mono ?_; rintro e w6 ⟨he, hb6⟩; obtain rfl : e = .returned (.tuple #[.agg #[.string x.key, .int .u64 x.seq, .string x.val, .bool x.gone], .bool true]) := he
             have e6 := hbA.trans (hb6.mono hbA.size)
             have hbox6 := hbox.kept hb6
             obtain ⟨y0, y1, y2, y3⟩ := cell4 hbox6
             have yl := hbox6.lt)
          | (go_at_call 45; refine (HK.out _ (e6.alloc e6.size _)).mono ?_; rintro e w7 ⟨he, hb7⟩; obtain rfl : e = .returned (.tuple #[.agg #[.string x.key, .int .u64 x.seq, .string x.val, .bool x.gone], .bool true]) := he
             have e7 := (e6.alloc e6.size _).trans (hb7.mono (by exact (e6.alloc e6.size _).size))
             have hbox7 := (hbox6.alloc _).kept hb7
             obtain ⟨y0, y1, y2, y3⟩ := cell4 hbox7
             have yl := hbox7.lt
             have hbx := (Blk.new w6 #[.string x.key, .int .u64 x.seq, .string x.val, .bool x.gone] 25).kept hb7
             obtain ⟨z0, z1, z2, z3⟩ := cell4 hbx
             have zl := hbx.lt))
        go_roundw
        case rel => exact ⟨n + 1, by go_num, by omega, e7.alloc e7.size _⟩
        case measure => simp [intOf]; omega
      · obtain rfl : n = l.length := by omega
        go_wp2_with (first
          | (go_at_call 43; refine (blk_cells (B3.kept hb)).mono ?_; rintro e w6 ⟨v6, rfl, own6, b6⟩; have R6 := Lib.hid (Reads.of_own own6); clear own6; have c6 := cb.trans (b6.mono cb.size))
          | (go_at_call 37; refine (HB'.out _ _ R6.out).mono ?_; rintro e w7 ⟨rfl, b7⟩))
        go_ret
        exact ⟨rfl, c6.trans (b7.mono c6.size)⟩
end Go.Proofs.Ytbcaiegglbdonaa
