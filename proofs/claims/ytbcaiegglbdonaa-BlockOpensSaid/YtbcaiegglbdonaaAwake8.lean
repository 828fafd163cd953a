/-
  The chapter's example: what every law of it calls first.
-/
import Derived.Test.YtbcaiegglbdonaaBlk8
namespace Go.Proofs.Ytbcaiegglbdonaa
open Go Go.RowKit

def exL : List Cell := [⟨⟨#[97, 98]⟩, 7, ⟨#[120]⟩, false⟩, ⟨⟨#[97, 98, 99]⟩, 5, ⟨#[121]⟩, false⟩]
def exT : List UInt8 := [0, 2, 1, 0, 7, 97, 98, 120, 2, 1, 1, 0, 5, 99, 121, 0, 0, 0, 0, 0, 0, 0, 1, 0, 2]
def exB : List UInt8 := [0, 2, 1, 0, 7, 97, 98, 120, 2, 1, 1, 0, 5, 99, 121, 0, 0, 0, 0, 0, 0, 0, 1, 0, 2, 68, 170, 44, 12]
theorem ex_check : checkL exL = 0 := by
  have h1 : ¬ ∃ c ∈ exL, checkN c = 60 := by
    rintro ⟨c, hc, h⟩
    have h2 : checkN c = 0 := by
      simp only [exL, List.mem_cons, List.not_mem_nil, or_false] at hc
      rcases hc with rfl | rfl
      · unfold checkN; rw [if_pos ⟨by decide, by decide, by decide, (fun h => by cases h), by decide⟩]
      · unfold checkN; rw [if_pos ⟨by decide, by decide, by decide, (fun h => by cases h), by decide⟩]
    rw [h2] at h
    exact absurd h (by decide)
  unfold checkL
  rw [if_neg h1, if_pos (by decide +kernel)]
theorem ex_body0 : bodyN exL 2 0 = [] := rfl
theorem ex_tail : tailN exL 2 = exT := by
  have v0 := varN_lt (n := 0) (by decide)
  have v1 := varN_lt (n := 1) (by decide)
  have v2 := varN_lt (n := 2) (by decide)
  have v7 := varN_lt (n := 7) (by decide)
  have v5 := varN_lt (n := 5) (by decide)
  have e0 : encAt exL 2 0 = [0, 2, 1, 0, 7, 97, 98, 120] := by
    show encC 0 ⟨⟨#[97, 98]⟩, 7, ⟨#[120]⟩, false⟩ = _
    show varN 0 ++ (varN 2 ++ (varN 1 ++ ([UInt8.ofNat 0] ++ (varN 7 ++ ([97, 98] ++ [120]))))) = _
    rw [v0, v1, v2, v7]; rfl
  have e1 : encAt exL 2 1 = [2, 1, 1, 0, 5, 99, 121] := by
    have hs : shAt exL 2 1 = 2 := by decide +kernel
    show encC (shAt exL 2 1) ⟨⟨#[97, 98, 99]⟩, 5, ⟨#[121]⟩, false⟩ = _
    rw [hs]
    show varN 2 ++ (varN 1 ++ (varN 1 ++ ([UInt8.ofNat 0] ++ (varN 5 ++ ([99] ++ [121]))))) = _
    rw [v1, v2, v5]; rfl
  have hb : bodyN exL 2 exL.length = [0, 2, 1, 0, 7, 97, 98, 120, 2, 1, 1, 0, 5, 99, 121] := by
    show bodyN exL 2 2 = _
    rw [bodyN_succ, bodyN_succ, ex_body0, e0, e1]; rfl
  have hst : startsN exL 2 exL.length = [0] := by
    unfold startsN
    have : (List.range exL.length).filter (fun i => decide (i % 2 = 0)) = [0] := by decide +kernel
    rw [this]
    rfl
  unfold tailN
  rw [hb, hst]
  decide +kernel
theorem ex_build : buildN exL 2 = (exB, 0) := by
  have hc : crcN exT = 1152003084 := by decide +kernel
  have hb : blockN exL 2 = exB := by
    unfold blockN
    rw [ex_tail, hc]
    decide +kernel
  unfold buildN
  rw [if_neg (by decide), if_neg (by rw [ex_check]; simp)]
  show (if (blockN exL 2).length ≤ 65536 then (blockN exL 2, (0 : Int)) else ([], 3)) = _
  rw [hb, if_pos (by decide)]
theorem ex_fit : ∀ c ∈ exL, fitC c := by
  intro c hc
  simp only [exL, List.mem_cons, List.not_mem_nil, or_false] at hc
  rcases hc with rfl | rfl
  · exact ⟨by decide, by decide, by decide, by decide⟩
  · exact ⟨by decide, by decide, by decide, by decide⟩
theorem ex_open : openN ⟨exB.toArray⟩ = some (exL, 2) := openN_build ex_fit ex_build
theorem ex_adj : adjC exL = true := by decide +kernel
theorem ex_get : getS ⟨#[97, 98, 99]⟩ (seekC exL ⟨#[97, 98, 99]⟩ 9) = (⟨⟨#[97, 98, 99]⟩, 5, ⟨#[121]⟩, false⟩, true) := by
  have hp : posN exL ⟨#[97, 98, 99]⟩ 9 = 1 := by decide +kernel
  have hs : seekC exL ⟨#[97, 98, 99]⟩ 9 = (⟨⟨#[97, 98, 99]⟩, 5, ⟨#[121]⟩, false⟩, true) := by unfold seekC; rw [hp]; rfl
  rw [hs]
  unfold getS
  rw [if_pos ⟨rfl, rfl⟩]
theorem func_eql6 (x y z : Value) (W : World) : (binOp .eql 38 (.func (.func 106) #[] #[x, y, z]) .nilFunc).run Try.prog W = .ok (.bool false) W := by kernel_rfl
theorem ex_len : (⟨exB.toArray⟩ : ByteArray).size = 29 := rfl
theorem ex_cut : (⟨exB.toArray⟩ : ByteArray).extract 0 15 = ⟨#[0, 2, 1, 0, 7, 97, 98, 120, 2, 1, 1, 0, 5, 99, 121]⟩ := by
  apply ByteArray.ext
  rw [ByteArray.data_extract]
  decide +kernel
theorem ex_reads (w : World) : Reads (w.alloc (.cells #[.string ⟨#[97, 98]⟩, .int .u64 7, .string ⟨#[120]⟩, .bool false, .string ⟨#[97, 98, 99]⟩, .int .u64 5, .string ⟨#[121]⟩, .bool false] 25)) (.slice (some ⟨w.heap.size, 0, none⟩) exL.length 2) exL.length 4 (cellVals exL) := by
  refine ⟨rfl, by decide, _, _, rfl, .inr ⟨w.heap.size, 0, rfl, by simp, fun j u hj => ?_⟩⟩
  rw [Nat.zero_add]
  refine (Blk.new w _ _).cell j u ?_
  rw [← hj, ← Array.getElem?_toList]
  rfl
set_option maxRecDepth 100000 in
set_option maxHeartbeats 2000000 in
theorem awake8 (w : World) : Calls Try.prog 36 #[] w fun e w' => e = .returned (.bool true) ∧ Below w.heap.size w w' := by
  have hB := build_spec (ex_reads w) (by decide) (fun c hc => (ex_fit c hc).2.2.1) 2
  rw [ex_build] at hB
  have HB := Lib.hid hB
  have hO := fun W => open_spec ⟨exB.toArray⟩ (by decide) W
  rw [ex_open] at hO
  have HO := Lib.hid hO
  clear hB hO
  have fq := func_eql6
  obtain ⟨S, hS⟩ : ∃ S : ByteArray, ⟨exB.toArray⟩ = S := ⟨_, rfl⟩
  have hz := ex_len
  have hx := ex_cut
  rw [hS] at HB HO hz hx
  have hzI : (S.size : Int) = 29 := by omega
  clear hS hz
  go_enter Try.func36, Try.ntmps36
  go_wp2_with (first | (go_at_call 37; refine HB.out.mono ?_; rintro e w1 ⟨rfl, b1⟩) | (go_at_call 42; refine (HO.out _).mono ?_; rintro e w2 ⟨b2, p, rfl, B2, hp2⟩))
  refine (blk_scan _ _ _ _ ⟨_, rfl⟩).mono ?_
  rintro e w3 ⟨rfl, -, -, -, b3⟩
  go_wp2_with fail
  refine (blk_scan _ _ _ _ ⟨_, rfl⟩).mono ?_
  rintro e w4 ⟨rfl, -, -, -, b4⟩
  have hG := blk_get ((B2.kept b3).kept b4) ex_adj ⟨#[97, 98, 99]⟩ 9
  rw [ex_get] at hG
  have HG := Lib.hid hG
  clear hG
  go_wp2_with (go_at_call 44; refine HG.out.mono ?_; rintro e w5 ⟨he, b5⟩; obtain rfl : e = .returned (.tuple #[.agg #[.string ⟨#[97, 98, 99]⟩, .int .u64 5, .string ⟨#[121]⟩, .bool false], .bool true]) := he)
  have c1 := ((Below.refl w.heap.size w).alloc (Nat.le_refl _) _).trans (b1.mono (by simp))
  have c2 := c1.trans (b2.mono c1.size)
  have c3 := c2.trans (b3.mono c2.size)
  have c4 := c3.trans (b4.mono c3.size)
  have c5 := c4.trans (b5.mono c4.size)
  go_ret
  exact ⟨rfl, c5.alloc c5.size _⟩
end Go.Proofs.Ytbcaiegglbdonaa
