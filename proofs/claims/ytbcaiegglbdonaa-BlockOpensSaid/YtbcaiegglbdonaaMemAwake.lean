/-
  The law's example: awake.
-/
import Derived.Test.YtbcaiegglbdonaaMemLevels
namespace Go.Proofs.Ytbcaiegglbdonaa
open Go.RowKit

theorem put_model' {w : World} {a : Nat} {F : Nat → Prop} {M : MM} (hm : MemIs w a F M) (k : ByteArray) (s : Int) (v : ByteArray) (g : Bool) (h : Int) (hl : M.length ≤ 1099511627776000) :
    Calls Try.prog 22 #[.pointer (some ⟨a, 0, none⟩), .agg #[.string k, .int .u64 s, .string v, .bool g], .int .i64 h] w (PutM w a F M ⟨k, s, v, g⟩ h) := put_model hm ⟨k, s, v, g⟩ h hl

theorem PutM.step {w0 w w' : World} {a : Nat} {F : Nat → Prop} {M : MM} {c : Cell} {h : Int} {e : Ending} {r : Int} {M' : MM} {B : Nat} (hp : PutM w a F M c h e w') (hr : putRes M c h = (r, M')) (hF : ∀ k, F k → B ≤ k) (hB : Below B w0 w) (hw : B ≤ w.heap.size) :
    ∃ F', e = .returned (.int .i64 r) ∧ MemIs w' a F' M' ∧ (∀ k, F' k → B ≤ k) ∧ Below B w0 w' ∧ B ≤ w'.heap.size := by
  obtain ⟨F', he, hm, hF', ho⟩ := hp
  rw [hr] at he hm
  exact ⟨F', he, hm, fun k hk => (hF' k hk).elim (hF k) (fun h => Nat.le_trans hw h), hB.trans (ho.below hw hF), Nat.le_trans hw ho.size⟩
theorem NewPost.mem {w : World} {e : Ending} {w' : World} (h : NewPost w e w') : e = .returned (.pointer (some ⟨w.heap.size + 1, 0, none⟩)) ∧ MemIs w' (w.heap.size + 1) (fun k => k = w.heap.size + 1 ∨ k = w.heap.size) [] ∧ Below w.heap.size w w' ∧ w'.heap.size = w.heap.size + 2 := by
  obtain ⟨h1, h2, h3, h4⟩ := h
  refine ⟨h1, ⟨?_, List.Pairwise.nil, by simp, fun x hx => (by cases hx), w.heap.size, [], h2, rfl, ?_⟩, h3, h4⟩
  · rintro k (rfl | rfl) <;> omega
  · rintro k (rfl | rfl | ⟨n, hn, _⟩)
    · exact .inl rfl
    · exact .inr rfl
    · cases hn
theorem len_model {w : World} {a : Nat} {F : Nat → Prop} {M : MM} (hm : MemIs w a F M) : Calls Try.prog 30 #[.pointer (some ⟨a, 0, none⟩)] w fun e w' => e = .returned (.int .i64 M.length) ∧ w = w' := by
  obtain ⟨hb, L, hs, hL, hF⟩ := hm.skip
  refine (len_spec hs).mono ?_
  rintro e w' ⟨rfl, rfl⟩
  refine ⟨ret_eq ?_, rfl⟩
  have h1 : L.filter (fun n => decide (0 < n.h)) = L := List.filter_eq_self.2 fun n hn => by
    have := (hm.pos (n.c, n.h) (by rw [← hL]; exact List.mem_map.2 ⟨n, hn, rfl⟩)).1
    simp; omega
  unfold tall
  rw [h1, ← hL, List.length_map]
def tallM (M : MM) (l : Nat) : Int := ((M.filter (fun x => decide (l < x.2))).length : Int)
def levM (M : MM) : List Int := levUpto (tallM M) 12
theorem tall_map (l : Nat) (L : List Node) : tall l L = tallM (L.map (fun n => (n.c, n.h))) l := by
  unfold tall tallM
  rw [List.filter_map, List.length_map]
  rfl
theorem levels_model {w : World} {a : Nat} {F : Nat → Prop} {M : MM} (hm : MemIs w a F M) : Calls Try.prog 28 #[.pointer (some ⟨a, 0, none⟩)] w (LevPost w (levM M)) := by
  obtain ⟨hb, L, hs, hL, hF⟩ := hm.skip
  have h := levels_spec hs
  rw [show (fun l => tall l L) = tallM M from funext fun l => by rw [tall_map, hL]] at h
  exact h

def cA : Cell := ⟨⟨#[97]⟩, 1, ⟨#[120]⟩, false⟩
def cB : Cell := ⟨⟨#[97]⟩, 3, ⟨#[]⟩, true⟩
def cC : Cell := ⟨⟨#[98]⟩, 2, ⟨#[121]⟩, false⟩
theorem pA : putRes [] ⟨⟨#[97]⟩, 1, ⟨#[120]⟩, false⟩ 1 = (0, [(cA, 1)]) := by kernel_rfl
theorem pB : putRes [(cA, 1)] ⟨⟨#[97]⟩, 3, ⟨#[]⟩, true⟩ 2 = (0, [(cB, 2), (cA, 1)]) := by kernel_rfl
theorem pC : putRes [(cB, 2), (cA, 1)] ⟨⟨#[98]⟩, 2, ⟨#[121]⟩, false⟩ 1 = (0, [(cB, 2), (cA, 1), (cC, 1)]) := by kernel_rfl
theorem gA : getM [(cB, 2), (cA, 1), (cC, 1)] ⟨#[97]⟩ 2 = (cA, true) := by kernel_rfl
theorem lA : levM [(cB, 2), (cA, 1), (cC, 1)] = [3, 1] := by kernel_rfl

theorem func_eql (x y z : Value) (W : World) : (binOp .eql 38 (.func (.func 77) #[] #[x, y, z]) .nilFunc).run Try.prog W = .ok (.bool false) W := by kernel_rfl
theorem func_neq (x y z : Value) (W : World) : (binOp .neq 38 (.func (.func 77) #[] #[x, y, z]) .nilFunc).run Try.prog W = .ok (.bool true) W := by kernel_rfl

set_option maxRecDepth 100000 in
set_option maxHeartbeats 1000000 in
theorem awake_spec (w : World) : Calls Try.prog 21 #[] w fun e w' => e = .returned (.bool true) ∧ Below w.heap.size w w' := by
  have fq := func_eql
  have fn := func_neq
  go_enter Try.func21, Try.ntmps21
  go_wp2_with fail
  refine (new_spec w).mono ?_
  rintro e w1 hn
  obtain ⟨rfl, hm1, hb1, hz1⟩ := hn.mem
  clear hn
  go_wp2_with fail
  refine (scan_some _ _ _ w1 ⟨_, rfl⟩).mono ?_
  rintro e w2 ⟨rfl, _, _, _, hb2⟩
  have hm2 := hm1.kept hb2
  have hB2 := hb1.trans (hb2.mono hb1.size)
  have hz2 : w.heap.size ≤ w2.heap.size := hB2.size
  go_wp2_with fail
  refine (put_model' hm2 _ _ _ _ _ (by simp)).mono ?_
  rintro e w3 hp
  obtain ⟨F3, rfl, hm3, hF3, hB3, hz3⟩ := hp.step pA (B := w.heap.size) (by rintro k (rfl | rfl) <;> omega) hB2 hz2
  clear hp
  go_wp2_with fail
  refine (put_model' hm3 _ _ _ _ _ (by simp)).mono ?_
  rintro e w4 hp
  obtain ⟨F4, rfl, hm4, hF4, hB4, hz4⟩ := hp.step pB hF3 hB3 hz3
  clear hp
  go_wp2_with fail
  refine (put_model' hm4 _ _ _ _ _ (by simp)).mono ?_
  rintro e w5 hp
  obtain ⟨F5, rfl, hm5, hF5, hB5, hz5⟩ := hp.step pC hF4 hB4 hz4
  clear hp hm2 hm3 hm4 hF3 hF4 hB2 hB3 hB4 hz2 hz3 hz4 hb1 hb2 hm1
  go_wp2_with fail
  refine (get_model hm5 _ _).mono ?_
  rintro e w6 ⟨he, hb6⟩
  rw [gA] at he
  subst he
  have hm6 := (hm5.kept hb6).kept ((Below.refl _ _).alloc (Nat.le_refl _) (.cells #[.string cA.key, .int .u64 cA.seq, .string cA.val, .bool cA.gone] 25))
  have hB6 := hB5.trans (hb6.mono hz5)
  unfold Cell.v cA
  go_wp2_with fail
  refine (scan_some _ _ _ _ ⟨_, rfl⟩).mono ?_
  rintro e w7 ⟨rfl, _, _, _, hb7⟩
  have hx : w7.cell? ⟨w6.heap.size, 2, none⟩ = some (.string ⟨#[120]⟩) := ((Blk.new w6 #[.string ⟨#[97]⟩, .int .u64 1, .string ⟨#[120]⟩, .bool false] 25).kept hb7).cell 2 _ rfl
  have hm7 := hm6.kept hb7
  have hB7 := (hB6.alloc hB6.size _).trans (hb7.mono (by have := hB6.size; simp; omega))
  clear hb7 hm6 hB6 hB5 hm5
  go_wp2_with fail
  refine (len_model hm7).mono ?_
  rintro e w8 ⟨rfl, rfl⟩
  go_wp2_with fail
  refine (levels_model hm7).mono ?_
  rintro e w8 ⟨v, rfl, hown, hb8⟩
  rw [lA] at hown
  go_wp2_with fail
  refine (sameInts_spec (l1 := [3, 1]) (l2 := [3, 1]) ((Reads.of_own hown).kept ((Below.refl _ _).alloc (Nat.le_refl _) _)) ?_).mono ?_
  · exact ⟨rfl, by simp, _, _, rfl, .inr ⟨w8.heap.size, 0, rfl, by simp, fun j u hj => by rw [Nat.zero_add]; exact (Blk.new w8 #[.int .i64 3, .int .i64 1] 3).cell j u (by simpa [ints] using hj)⟩⟩
  rintro e w9 ⟨rfl, hb9⟩
  go_wp2_with fail
  go_ret
  exact ⟨rfl, ((hB7.trans (hb8.mono hB7.size)).alloc (Nat.le_trans hB7.size hb8.size) _).trans (hb9.mono (by have := hB7.size; have := hb8.size; simp; omega))⟩

end Go.Proofs.Ytbcaiegglbdonaa
