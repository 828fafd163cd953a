/-
  The law MemDoes: its walk.
-/
import Derived.Test.YtbcaiegglbdonaaDoes
import Derived.Test.YtbcaiegglbdonaaMemAwake
namespace Go.Proofs.Ytbcaiegglbdonaa
open Go.RowKit

theorem ref_new (W : World) (base : Nat) : RefIs (W.alloc (.cells #[.slice none 0 0, .slice none 0 0] 49)) base W.heap.size [] :=
  ⟨_, _, Blk.new _ _ _, World.ownsRow_nil _ _ _ _, World.ownsRow_nil _ _ _ _⟩
theorem stepM_len (M : MM) (o : Step) : (stepM M o).length ≤ M.length + 1 := by
  unfold stepM
  split
  · exact putRes_len _ _ _
  · omega
def ownC : Cell := ⟨⟨#[97, 32, 102, 111, 114, 107, 39, 115, 32, 111, 119, 110]⟩, 1, ⟨#[]⟩, false⟩
def DoRel (w : World) (n r : Nat) (m i : Value) (W : World) : Prop :=
  ∃ (k a : Nat) (F : Nat → Prop) (M : MM), k ≤ n ∧ i = .int .i64 k ∧ m = .pointer (some ⟨a, 0, none⟩) ∧ Duo W w.heap.size a r F M ∧ M.length ≤ k ∧ (∀ j, F j → w.heap.size ≤ j) ∧ w.heap.size ≤ r ∧ Below w.heap.size w W
set_option maxRecDepth 100000 in
set_option maxHeartbeats 4000000 in
theorem memDoes_walk {w : World} {v : Value} {l : List Step} (h : Reads w v l.length 7 (opVals l)) (hl : l.length ≤ 1759218604441) :
    Calls Try.prog 6 #[v] w fun e w' => e = .returned (.bool true) ∧ Below w.heap.size w w' := by
  obtain ⟨A, cap, rfl⟩ := h.form
  have H := Lib.hid h
  clear h
  go_enter Try.func6, Try.ntmps6
  go_wp2_with (first | (go_at_call 20; refine (new_spec _).mono ?_; rintro e w1 hn; obtain ⟨rfl, hm1, hb1, hs1⟩ := hn.mem; obtain ⟨a0, ha0⟩ : ∃ a0, a0 = w.heap.size + 1 := ⟨_, rfl⟩; rw [← ha0] at hm1 ⊢; have HA := Lib.hid ha0; have HS1 := Lib.hid hs1; clear ha0 hs1 hn) | (go_at_call 21; refine (awake_spec _).mono ?_; rintro e w2 ⟨rfl, hb2⟩))
  go_loopw [3, 19] (DoRel w l.length w2.heap.size) (fun _ i _ => l.length - (intOf i).toNat)
  case atStart =>
    obtain ⟨F, hm, ht, hs⟩ := hm1.typed
    have b2 : Below w.heap.size w w2 := hb1.trans (hb2.mono hb1.size)
    refine ⟨0, a0, F, [], by omega, rfl, rfl, ⟨(hm.kept hb2).kept ((Below.refl _ _).alloc (Nat.le_refl _) _), (ht.kept hb2).kept ((Below.refl _ _).alloc (Nat.le_refl _) _), ref_new _ _⟩, by simp, fun j hj => ?_, b2.size, b2.alloc b2.size _⟩
    have := HA.out
    rcases hs j hj with h | h <;> omega
  case round =>
    obtain ⟨k, a, F, M, hk, rfl, rfl, hd, hM, hF, hr, hbr⟩ := hrel
    by_cases hlt : k < l.length
    · obtain ⟨o, ho⟩ : ∃ o, l[k]? = some o := ⟨_, List.getElem?_eq_getElem hlt⟩
      obtain ⟨b, p, rfl, hbl, c0, c1, c2, c3, c4, c5, c6⟩ := (H.out.kept hbr).op_at ho
      have i0 : (0 : Int) ≤ (k : Int) := by omega
      have i1 : (k : Int) < (l.length : Int) := by omega
      clear ho
      have hba : Below wr.heap.size wr (wr.alloc (.cells #[.int .i64 o.kind, .string o.c.key, .int .u64 o.c.seq, .string o.c.val, .bool o.c.gone, .string o.to, .int .i64 o.n] 51)) := (Below.refl _ _).alloc (Nat.le_refl _) _
      have hd1 := hd.kept hba
      have hbw := hbr.trans (hba.mono hbr.size)
      by_cases h4 : o.kind = 4
      · have hq4 : (o.kind == 4) = true := by simpa using h4
        clear h4
        have HD1 := Lib.hid hd1
        go_wp2_with (first | (go_at_call 31; refine (fork_model HD1.out.mem (by omega)).mono ?_; rintro e w3 ⟨q, F3, rfl, hm3, hF3, hb3⟩) | (go_at_call 22; refine (put_model (HD1.out.mem.kept hb3) ownC 3 (by omega)).mono ?_; rintro e w4 ⟨F4, rfl, hm4, hF4, ho4⟩))
        obtain ⟨F5, hm5, ht5, hs5⟩ := hm3.typed
        have hFlt := HD1.out.mem.lt
        have hdis : ∀ j, F5 j → ¬ F j := fun j hj hF => by have := hF3 j (hs5 j hj); have := hFlt j hF; omega
        have hd5 : Duo w4 w.heap.size q w2.heap.size F5 M := ⟨hm5.only ho4 hdis, ht5.only ho4 hdis, (HD1.out.ref.kept hb3).typed (HD1.out.typ.kept hb3) ho4⟩
        have hb5 := hbw.trans (hb3.mono hbw.size)
        go_roundw
        case rel =>
          exact ⟨k + 1, q, F5, M, by omega, by go_num, rfl, hd5, by omega, fun j hj => Nat.le_trans hbw.size (hF3 j (hs5 j hj)), hr, hb5.trans (ho4.below hb5.size hF)⟩
        case measure => simp [intOf]; omega
      · have hq4 : (o.kind == 4) = false := by simpa using h4
        clear h4
        go_wp2_with (go_at_call 32; refine (does_spec hd1 (by exact hbw.size) (by omega) o).mono ?_; rintro e w3 ⟨rfl, F', hd3, hF3, ho3⟩)
        go_roundw
        case rel =>
          refine ⟨k + 1, a, F', stepM M o, by omega, by go_num, rfl, hd3, Nat.le_trans (stepM_len _ _) (by omega), fun j hj => (hF3 j hj).elim (hF j) (fun h => Nat.le_trans hbw.size h), hr, ?_⟩
          exact hbw.trans (ho3.below hbw.size (fun j hj => hj.elim (hF j) (fun e => e ▸ hr)))
        case measure => simp [intOf]; omega
    · obtain rfl : k = l.length := by omega
      go_wp2_with (go_at_call 33; refine (looks_spec hd (by omega)).mono ?_; rintro e w3 ⟨rfl, hb3⟩)
      go_ret
      exact ⟨rfl, hbr.trans (hb3.mono hbr.size)⟩
end Go.Proofs.Ytbcaiegglbdonaa
