/-
  The walk of the law BlockBuilds.
-/
import Derived.Test.YtbcaiegglbdonaaAwake8
import Derived.Test.YtbcaiegglbdonaaSame8
namespace Go.Proofs.Ytbcaiegglbdonaa
open Go Go.RowKit

theorem src_reads {w : World} {A : Option Addr} {n c k : Nat} {xs : List Value} (h : Reads w (.slice A n c) n k xs) (hn : A = none → n = 0 ∧ c = 0) :
    (Value.slice A n c = .slice none 0 0 ∧ n = 0) ∨ ∃ ad c', Value.slice A n c = .slice (some ad) n c' ∧ ∀ (j : Nat) (u : Value), xs[j]? = some u → w.cell? (ad.add j) = some u := by
  cases A with
  | none => obtain ⟨rfl, rfl⟩ := hn rfl; exact .inl ⟨rfl, rfl⟩
  | some a =>
    refine .inr ⟨a, c, rfl, fun j u hj => ?_⟩
    obtain ⟨h1, _, A', c', e, h3⟩ := h
    injection e with e1 e2 e3
    subst e1
    rcases h3 with h0 | ⟨b, o, e4, _, h5⟩
    · subst h0
      have := (List.getElem?_eq_some_iff.1 hj).1
      omega
    · injection e4 with e4
      subst e4
      rw [add_at rfl]
      exact h5 j u hj
theorem reads_alloc {w : World} {v : Value} {n k : Nat} {xs : List Value} (h : Reads w v n k xs) (o : Obj) : Reads (w.alloc o) v n k xs := h.kept ((Below.refl _ _).alloc (Nat.le_refl _) _)
set_option maxRecDepth 100000 in
set_option maxHeartbeats 2000000 in
theorem builds_walk {w : World} {A : Option Addr} {cap : Nat} {l : List Cell} (h : Reads w (.slice A l.length cap) l.length 4 (cellVals l)) (hn : A = none → l.length = 0 ∧ cap = 0) (hl : l.length ≤ 2932031007402) (hs : ∀ c ∈ l, 0 ≤ c.seq) (r : Int) :
    Calls Try.prog 9 #[.slice A l.length cap, .int .i64 r] w fun e w' => e = .returned (.bool true) ∧ Below w.heap.size w w' := by
  obtain ⟨i0, hi, hz0, hz1, hz2⟩ := info_parts Try.infoCell
  have H := Lib.hid h
  have HN := Lib.hid hn
  have hlc := Lib.hid (cellVals_length l)
  have p1 : 0 + l.length ≤ maxLen := by unfold maxLen; omega
  have p2 : (0 + l.length) * 48 ≤ 140737488355328 := by omega
  have hB := fun (W : World) (v : Value) (hv : Reads W v l.length 4 (cellVals l)) => build_spec hv hl hs r
  have hR := fun (W : World) (v : Value) (hv : Reads W v l.length 4 (cellVals l)) => ref_build_spec hv hl hs r
  obtain ⟨X, hX⟩ : ∃ X, (buildN l r).1 = X := ⟨_, rfl⟩
  obtain ⟨E, hE⟩ : ∃ E, (buildN l r).2 = E := ⟨_, rfl⟩
  rw [hX, hE] at hB hR
  have HB := Lib.hid hB
  have HR := Lib.hid hR
  have HC := Lib.hid (fun (W : World) (v : Value) (hv : Reads W v l.length 4 (cellVals l)) => block_check hv hl)
  have HD := Lib.hid (fun (W : World) (v : Value) (hv : Reads W v l.length 4 (cellVals l)) => ref_check_list hv hl)
  have HS := Lib.hid (fun (W : World) (v v' : Value) (hv : Reads W v l.length 4 (cellVals l)) (hv' : Reads W v' l.length 4 (cellVals l)) => by have := same8_spec hv hv'; rw [decide_eq_true rfl] at this; exact this)
  clear h hn hB hR hX hE hs
  go_enter Try.func9, Try.ntmps9
  go_wp2_with (first
    | (go_at_call 36; refine (awake8 w).mono ?_; rintro e w1 ⟨rfl, b1⟩
       have oA := World.ownsRow_made (base := w1.heap.size) (e := 25) (size := 4) w1 #[] 0 (Nat.le_refl _) (by decide) rfl
       have hsrc := src_reads (reads_alloc (H.out.kept b1) (.cells #[] 25)) HN.out
       have p3 : w1.heap.size ≤ (w1.alloc (.cells #[] 25)).heap.size := by simp)
    | (at_builtin; refine wpList_append_any rfl _ _ 22 rfl w1.heap.size 25 i0 cellZ 4 48 Try.underlying22 hi hz0 hz1 hz2 rfl (by decide) w1.heap.size 0 0 [] rfl oA l.length (cellVals l) hlc.out hsrc (cellVals_one l) p1 p2 p3 ?_))
  intro g1 c1 w2 own1 hgr hg1
  have own1 : w2.ownsRow w1.heap.size 25 4 (.slice (some ⟨g1, 0, none⟩) l.length c1) l.length (cellVals l) := by simpa using own1
  have b2 : Below w1.heap.size w1 w2 := ((Below.refl _ _).alloc (Nat.le_refl _) _).grown hgr p3 (fun j hj => by cases hj; exact Nat.le_refl _)
  have HO := Lib.hid (Reads.of_own own1)
  have HA := Lib.hid (H.out.kept (b1.trans (b2.mono b1.size)))
  have b12 := b1.trans (b2.mono b1.size)
  clear own1 hgr hg1 oA hsrc
  go_wp2_with fail
  refine (HB.out _ _ HO.out).mono ?_
  rintro e w3 ⟨rfl, b3⟩
  have b13 := b12.trans (b3.mono b12.size)
  go_wp2_with fail
  refine (HR.out _ _ (HA.out.kept b3)).mono ?_
  rintro e w4 ⟨rfl, b4⟩
  have b14 := b13.trans (b4.mono b13.size)
  have h34 := b3.trans (b4.mono b3.size)
  go_wp2_with fail
  refine (HC.out _ _ (HO.out.kept h34)).mono ?_
  rintro e w5 ⟨rfl, b5⟩
  have b15 := b14.trans (b5.mono b14.size)
  have h35 := h34.trans (b5.mono h34.size)
  go_wp2_with fail
  refine (HD.out _ _ (HA.out.kept h35)).mono ?_
  rintro e w6 ⟨rfl, b6⟩
  have b16 := b15.trans (b6.mono b15.size)
  have h36 := h35.trans (b6.mono h35.size)
  go_wp2_with fail
  refine (HS.out _ _ _ (HO.out.kept h36) (HA.out.kept h36)).mono ?_
  rintro e w7 ⟨rfl, b7⟩
  have b17 := b16.trans (b7.mono b16.size)
  go_wp2_with fail
  go_ret
  exact ⟨rfl, b17⟩
end Go.Proofs.Ytbcaiegglbdonaa
