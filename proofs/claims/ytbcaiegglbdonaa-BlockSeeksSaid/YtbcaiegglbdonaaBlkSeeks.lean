/-
  The walks of the laws BlockSeeks and BlockBack.
-/
import Derived.Test.YtbcaiegglbdonaaAwake8
import Derived.Test.YtbcaiegglbdonaaSeek8
import Derived.Test.YtbcaiegglbdonaaSame8
namespace Go.Proofs.Ytbcaiegglbdonaa
open Go Go.RowKit

def SkRel (wo : World) (l : List Cell) (ks qs i : Value) (W : World) : Prop :=
  ∃ (n : Nat) (k : ByteArray) (q : Int), i = .int .i64 n ∧ ks = .string k ∧ qs = .int .u64 q ∧ n ≤ l.length ∧ k.size ≤ 200 ∧ posN l k q = n ∧ Below wo.heap.size wo W
set_option maxRecDepth 100000 in
set_option maxHeartbeats 4000000 in
theorem seeks_walk {w : World} {v : Value} {l : List Cell} (h : Reads w v l.length 4 (cellVals l)) (hl : l.length ≤ 2932031007402) (hs : ∀ c ∈ l, 0 ≤ c.seq) (r : Int) :
    Calls Try.prog 12 #[v, .int .i64 r] w fun e w' => e = .returned (.bool true) ∧ Below w.heap.size w w' := by
  obtain ⟨A, cap, rfl⟩ := h.form
  have H := Lib.hid h
  have hB := fun (W : World) (v : Value) (hv : Reads W v l.length 4 (cellVals l)) => build_spec hv hl hs r
  obtain ⟨X, hX⟩ : ∃ X, (buildN l r).1 = X := ⟨_, rfl⟩
  obtain ⟨E, hE⟩ : ∃ E, (buildN l r).2 = E := ⟨_, rfl⟩
  rw [hX, hE] at hB
  have HB := Lib.hid hB
  have hb : buildN l r = (X, E) := by rw [← hX, ← hE]
  have HSQ := Lib.hid hs
  clear h hB hX hE hs
  by_cases hE0 : ¬ E = 0
  · have hn := build_none hb hE0
    have hEq : (E == 0) = false := by simpa using hE0
    subst hn
    have hO := fun W => open_spec ⟨([] : List UInt8).toArray⟩ (by decide) W
    rw [open_empty] at hO
    have HO := Lib.hid hO
    clear hO hb
    go_enter Try.func12, Try.ntmps12
    go_wp2_with (first | (go_at_call 36; refine (awake8 w).mono ?_; rintro e w1 ⟨rfl, b1⟩) | (go_at_call 37; refine (HB.out _ _ (H.out.kept b1)).mono ?_; rintro e w2 ⟨rfl, b2⟩) | (go_at_call 42; refine (HO.out _).mono ?_; rintro e w3 ⟨b3, rfl⟩))
    go_ret
    have c2 := b1.trans (b2.mono b1.size)
    exact ⟨rfl, c2.trans (b3.mono c2.size)⟩
  · have hE0 : E = 0 := by omega
    subst hE0
    obtain ⟨hop, hadj, hck, hxz, -⟩ := build_open HSQ.out hb
    have hO := fun W => open_spec ⟨X.toArray⟩ (by show X.length ≤ _; omega) W
    rw [hop] at hO
    have HO := Lib.hid hO
    have HCK := Lib.hid hck
    have HAD := Lib.hid hadj
    clear hO hb hop hck hadj hxz
    obtain ⟨S, hS⟩ : ∃ S : ByteArray, ⟨X.toArray⟩ = S := ⟨_, rfl⟩
    rw [hS] at HO
    have HB' : RowKit.Hid (∀ (W : World) (v : Value), Reads W v l.length 4 (cellVals l) → Calls Try.prog 37 #[v, .int .i64 r] W fun e w' => e = .returned (.tuple #[.string S, .int .i64 0]) ∧ Below W.heap.size W w') := by rw [← hS]; exact HB
    clear hS HB
    go_enter Try.func12, Try.ntmps12
    go_wp2_with (first | (go_at_call 36; refine (awake8 w).mono ?_; rintro e w1 ⟨rfl, b1⟩) | (go_at_call 37; refine (HB'.out _ _ (H.out.kept b1)).mono ?_; rintro e w2 ⟨rfl, b2⟩) | (go_at_call 42; refine (HO.out _).mono ?_; rintro e w3 ⟨b3, p, rfl, B3, hp3⟩))
    have c2 := b1.trans (b2.mono b1.size)
    have c3 := c2.trans (b3.mono c2.size)
    go_loopw [9, 10, 46] (SkRel w3 l) (fun _ _ i _ => l.length - (intOf i).toNat)
    case atStart => exact ⟨0, ⟨#[]⟩, 72057594037927935, rfl, rfl, rfl, Nat.zero_le _, by decide, pos_first HCK.out _, Below.refl _ _⟩
    case round =>
      obtain ⟨n, k, q, rfl, rfl, rfl, hn, hks, hpos, hb⟩ := hrel
      have cb := c3.trans (hb.mono c3.size)
      have HP := Lib.hid hpos
      clear hpos
      by_cases hlt : n < l.length
      · obtain ⟨x, hx⟩ : ∃ x, l[n]? = some x := ⟨_, List.getElem?_eq_getElem hlt⟩
        obtain ⟨b, o, rfl, hbl, p0, p1, p2, p3⟩ := (H.out.kept cb).cell_at hx
        have j0 : (0 : Int) ≤ (n : Int) := by omega
        have j1 : (n : Int) < (l.length : Int) := by omega
        have hbA : Below wr.heap.size wr (wr.alloc (.cells #[.string x.key, .int .u64 x.seq, .string x.val, .bool x.gone] 25)) := (Below.refl _ _).alloc (Nat.le_refl _) _
        have hSK := blk_seek ((B3.kept hb).kept hbA) HAD.out k q
        rw [seek_pos HP.out hx] at hSK
        have HSK := Lib.hid hSK
        have HX := Lib.hid hx
        have hbox := Blk.new wr #[.string x.key, .int .u64 x.seq, .string x.val, .bool x.gone] 25
        have hne := cell_neq x x
        rw [decide_eq_true rfl] at hne
        have hm := List.mem_of_getElem? hx
        have hx0 := HSQ.out x hm
        have hx1 := checkN_ok (HCK.out x hm)
        have hkl : x.key.size ≤ 128 := hx1.2.1
        have hsl : x.seq ≤ 72057594037927935 := hx1.2.2.2
        clear hx hSK hm hx1
        by_cases h0 : x.seq = 0
        · have h0q : (x.seq == 0) = true := by simpa using h0
          have HZ := Lib.hid h0
          have hcat : ∀ W, (Op.stringOp .add x.key ⟨#[0]⟩).run Try.prog W = .ok (.string (keyZ x.key)) W := fun W => by
            have h3 : keyZ x.key = x.key ++ ⟨#[0]⟩ := by apply ByteArray.ext; simp [keyZ, ByteArray.data_append]
            rw [h3]
            exact run_string_add W _ _ (by omega) (by decide)
          clear h0
          go_wp2_with (go_at_call 45; refine HSK.out.mono ?_; rintro e w5 ⟨he, hb5⟩; obtain rfl : e = .returned (.tuple #[.agg #[.string x.key, .int .u64 x.seq, .string x.val, .bool x.gone], .bool true]) := he; obtain ⟨y0, y1, y2, y3⟩ := cell4 (hbox.kept hb5); have yl := (hbox.kept hb5).lt)
          go_quiet (fail)
          go_wp2_with fail
          go_roundw
          case rel =>
            have e1 := hb.trans ((hbA.trans (hb5.mono hbA.size)).mono hb.size)
            exact ⟨n + 1, keyZ x.key, 72057594037927935, by go_num, rfl, rfl, by omega, by show (x.key.data ++ #[0]).size ≤ 200; rw [Array.size_append]; show x.key.size + 1 ≤ 200; omega, pos_nextZ HAD.out HCK.out HSQ.out HX.out HZ.out, below_drewN (e1.alloc e1.size _) nq⟩
          case measure => simp [intOf]; omega
        · have h0q : (x.seq == 0) = false := by simpa using h0
          have hw1 : IntKind.u64.wrap (x.seq - 1) = x.seq - 1 := by rw [IntKind.wrap_u64]; omega
          go_wp2_with (go_at_call 45; refine HSK.out.mono ?_; rintro e w5 ⟨he, hb5⟩; obtain rfl : e = .returned (.tuple #[.agg #[.string x.key, .int .u64 x.seq, .string x.val, .bool x.gone], .bool true]) := he; obtain ⟨y0, y1, y2, y3⟩ := cell4 (hbox.kept hb5); have yl := (hbox.kept hb5).lt)
          go_quiet (fail)
          go_wp2_with fail
          go_roundw
          case rel =>
            have e1 := hb.trans ((hbA.trans (hb5.mono hbA.size)).mono hb.size)
            exact ⟨n + 1, x.key, x.seq - 1, by go_num, rfl, rfl, by omega, by omega, pos_next HAD.out HX.out, below_drewN (e1.alloc e1.size _) nq⟩
          case measure => simp [intOf]; omega
      · obtain rfl : n = l.length := by omega
        have hSK := blk_seek (B3.kept hb) HAD.out k q
        rw [seek_end HP.out] at hSK
        have HSK := Lib.hid hSK
        clear hSK
        go_wp2_with (go_at_call 45; refine HSK.out.mono ?_; rintro e w5 ⟨he, hb5⟩; obtain rfl : e = .returned (.tuple #[.agg #[.string Cell.zero.key, .int .u64 0, .string Cell.zero.val, .bool false], .bool false]) := he)
        go_ret
        have e1 := cb.trans (hb5.mono cb.size)
        exact ⟨rfl, e1.alloc e1.size _⟩
end Go.Proofs.Ytbcaiegglbdonaa
