/-
  The law MemForks: its walk.
-/
import Derived.Test.YtbcaiegglbdonaaMemDoes
import Derived.Test.YtbcaiegglbdonaaRefFork
namespace Go.Proofs.Ytbcaiegglbdonaa
open Go.RowKit

theorem RefIs.mono {w : World} {base base' r : Nat} {M : MM} (h : RefIs w base r M) (hb : base' ≤ base) : RefIs w base' r M := by
  obtain ⟨vc, vh, g1, g2, g3⟩ := h.ex
  exact ⟨vc, vh, g1, g2.mono hb, g3.mono hb⟩
theorem RefIs.both {w w' : World} {F : Nat → Prop} {base r s : Nat} {M : MM} (h : RefIs w base s M) (ht : Typed F w) {arr : Array Value} (hb : Blk w r arr 49) (hn : s ≠ r) (ho : Only (fun k => F k ∨ k = r) w w') : RefIs w' base s M := by
  obtain ⟨vc, vh, g1, g2, g3⟩ := h.ex
  have row : ∀ {B e k n : Nat} {v : Value} {xs : List Value}, e ≠ 49 → e ≠ 60 → e ≠ 105 → w.ownsRow B e k v n xs → w'.ownsRow B e k v n xs := by
    intro B e k n v xs he h1 h2 hr
    refine ⟨hr.1, ?_⟩
    rcases hr.2 with h3 | ⟨g, cap', cur, e1, hbg, hg, hr2⟩
    · exact .inl h3
    · refine .inr ⟨g, cap', cur, e1, hbg, Blk.only (show Blk w g cur e from hg) ho ?_, hr2⟩
      rintro (hF | rfl)
      · exact ht.not hg h1 h2 hF
      · have := hb.symm.trans hg
        injection this with this
        injection this with _ e2 _
        exact he e2.symm
  refine ⟨vc, vh, g1.only ho ?_, row (by decide) (by decide) (by decide) g2, row (by decide) (by decide) (by decide) g3⟩
  rintro (hF | e)
  · exact ht.not g1 (by decide) (by decide) hF
  · exact hn e
/-- Two pairs beside each other. -/
structure Duo2 (w : World) (base a r : Nat) (M : MM) (q s : Nat) (N : MM) : Prop where
  ex : ∃ F G, Duo w base a r F M ∧ Duo w base q s G N ∧ (∀ k, F k → ¬ G k) ∧ (∀ k, F k → base ≤ k) ∧ ∀ k, G k → base ≤ k
  ne : r ≠ s
  rb : base ≤ r
  sb : base ≤ s
theorem Duo2.swap {w : World} {base a r q s : Nat} {M N : MM} (h : Duo2 w base a r M q s N) : Duo2 w base q s N a r M := by
  obtain ⟨F, G, h1, h2, h3, h4, h5⟩ := h.ex
  exact ⟨⟨G, F, h2, h1, fun k hk hF => h3 k hF hk, h5, h4⟩, fun e => h.ne e.symm, h.sb, h.rb⟩
theorem Duo2.kept {w w' : World} {base a r q s : Nat} {M N : MM} (h : Duo2 w base a r M q s N) (hb : Below w.heap.size w w') : Duo2 w' base a r M q s N := by
  obtain ⟨F, G, h1, h2, h3, h4, h5⟩ := h.ex
  exact ⟨⟨F, G, h1.kept hb, h2.kept hb, h3, h4, h5⟩, h.ne, h.rb, h.sb⟩
theorem Duo2.does {w : World} {base a r q s : Nat} {M N : MM} (h : Duo2 w base a r M q s N) (hB : base ≤ w.heap.size) (hl : M.length ≤ 2700000000000) (o : Step) :
    Calls Try.prog 32 #[.pointer (some ⟨a, 0, none⟩), .pointer (some ⟨r, 0, none⟩), .agg #[.int .i64 o.kind, .string o.c.key, .int .u64 o.c.seq, .string o.c.val, .bool o.c.gone, .string o.to, .int .i64 o.n]] w fun e w' =>
      e = .returned (.bool true) ∧ Duo2 w' base a r (stepM M o) q s N ∧ Below base w w' := by
  obtain ⟨F, G, h1, h2, h3, h4, h5⟩ := h.ex
  refine (does_spec h1 hB hl o).mono ?_
  rintro e w' ⟨rfl, F', hd, hF', ho⟩
  obtain ⟨vc, vh, g1, _, _⟩ := h1.ref.ex
  have hGr : ¬ G r := h2.typ.not g1 (by decide) (by decide)
  have hG : ∀ k, G k → ¬ (F k ∨ k = r) := by
    rintro k hk (hF | rfl)
    · exact h3 k hF hk
    · exact hGr hk
  refine ⟨rfl, ⟨⟨F', G, hd, ⟨h2.mem.only ho hG, h2.typ.only ho hG, h2.ref.both h1.typ g1 (fun e => h.ne e.symm) ho⟩, fun k hk hk2 => ?_, fun k hk => (hF' k hk).elim (h4 k) (fun h => Nat.le_trans hB h), h5⟩, h.ne, h.rb, h.sb⟩, ho.below hB (fun k hk => hk.elim (h4 k) (fun e => e ▸ h.rb))⟩
  rcases hF' k hk with h | h
  · exact h3 k h hk2
  · have := h2.mem.lt k hk2; omega
theorem Duo2.looks {w : World} {base a r q s : Nat} {M N : MM} (h : Duo2 w base a r M q s N) (hl : M.length ≤ 2700000000000) :
    Calls Try.prog 33 #[.pointer (some ⟨a, 0, none⟩), .pointer (some ⟨r, 0, none⟩)] w fun e w' => e = .returned (.bool true) ∧ Below w.heap.size w w' := by
  obtain ⟨F, G, h1, _⟩ := h.ex
  exact looks_spec h1 hl

def FoRel1 (w : World) (n a r : Nat) (i : Value) (W : World) : Prop :=
  ∃ (k : Nat) (F : Nat → Prop) (M : MM), k ≤ n ∧ i = .int .i64 k ∧ Duo W w.heap.size a r F M ∧ M.length ≤ k ∧ (∀ j, F j → w.heap.size ≤ j) ∧ w.heap.size ≤ r ∧ Below w.heap.size w W
def FoRel2 (w : World) (n0 n a r q s : Nat) (i : Value) (W : World) : Prop :=
  ∃ (k : Nat) (M N : MM), k ≤ n ∧ i = .int .i64 k ∧ Duo2 W w.heap.size a r M q s N ∧ M.length ≤ n0 + (k + 1) / 2 ∧ N.length ≤ n0 + k / 2 ∧ Below w.heap.size w W
set_option maxRecDepth 100000 in
set_option maxHeartbeats 1000000 in
theorem memForks_walk {w : World} {v v2 : Value} {l l2 : List Step} (h : Reads w v l.length 7 (opVals l)) (h2 : Reads w v2 l2.length 7 (opVals l2)) (hl : l.length ≤ 1759218604441) (hl2 : l2.length ≤ 1759218604441) :
    Calls Try.prog 7 #[v, v2] w fun e w' => e = .returned (.bool true) ∧ Below w.heap.size w w' := by
  obtain ⟨A, cap, rfl⟩ := h.form
  obtain ⟨A2, cap2, rfl⟩ := h2.form
  have H := Lib.hid h
  have H2 := Lib.hid h2
  clear h h2
  go_enter Try.func7, Try.ntmps7
  go_wp2_with (first | (go_at_call 20; refine (new_spec _).mono ?_; rintro e w1 hn; obtain ⟨rfl, hm1, hb1, hs1⟩ := hn.mem; obtain ⟨a0, ha0⟩ : ∃ a0, a0 = w.heap.size + 1 := ⟨_, rfl⟩; rw [← ha0] at hm1 ⊢; have HA := Lib.hid ha0; have HS1 := Lib.hid hs1; clear ha0 hs1 hn) | (go_at_call 21; refine (awake_spec _).mono ?_; rintro e w2 ⟨rfl, hb2⟩))
  go_loopw [24] (FoRel1 w l.length a0 w2.heap.size) (fun i _ => l.length - (intOf i).toNat)
  case atStart =>
    obtain ⟨F, hm, ht, hs⟩ := hm1.typed
    have b2 : Below w.heap.size w w2 := hb1.trans (hb2.mono hb1.size)
    refine ⟨0, F, [], by omega, rfl, ⟨(hm.kept hb2).kept ((Below.refl _ _).alloc (Nat.le_refl _) _), (ht.kept hb2).kept ((Below.refl _ _).alloc (Nat.le_refl _) _), ref_new _ _⟩, by simp, fun j hj => ?_, b2.size, b2.alloc b2.size _⟩
    have := HA.out
    rcases hs j hj with h | h <;> omega
  case round =>
    obtain ⟨k, F, M, hk, rfl, hd, hM, hF, hr, hbr⟩ := hrel
    by_cases hlt : k < l.length
    · obtain ⟨o, ho⟩ : ∃ o, l[k]? = some o := ⟨_, List.getElem?_eq_getElem hlt⟩
      obtain ⟨b, p, rfl, hbl, c0, c1, c2, c3, c4, c5, c6⟩ := (H.out.kept hbr).op_at ho
      have i0 : (0 : Int) ≤ (k : Int) := by omega
      have i1 : (k : Int) < (l.length : Int) := by omega
      clear ho
      have hba : Below wr.heap.size wr (wr.alloc (.cells #[.int .i64 o.kind, .string o.c.key, .int .u64 o.c.seq, .string o.c.val, .bool o.c.gone, .string o.to, .int .i64 o.n] 51)) := (Below.refl _ _).alloc (Nat.le_refl _) _
      have hd1 := hd.kept hba
      have hbw := hbr.trans (hba.mono hbr.size)
      go_wp2_with (go_at_call 32; refine (does_spec hd1 (by exact hbw.size) (by omega) o).mono ?_; rintro e w3 ⟨rfl, F', hd3, hF3, ho3⟩)
      go_roundw
      case rel =>
        refine ⟨k + 1, F', stepM M o, by omega, by go_num, hd3, Nat.le_trans (stepM_len _ _) (by omega), fun j hj => (hF3 j hj).elim (hF j) (fun h => Nat.le_trans hbw.size h), hr, ?_⟩
        exact hbw.trans (ho3.below hbw.size (fun j hj => hj.elim (hF j) (fun e => e ▸ hr)))
      case measure => simp [intOf]; omega
    · obtain rfl : k = l.length := by omega
      have HDu := Lib.hid hd
      go_wp2_with (first | (go_at_call 31; refine (fork_model HDu.out.mem (by omega)).mono ?_; rintro e w3 ⟨q, F3, rfl, hm3, hF3, hb3⟩) | (go_at_call 34; refine (ref_fork (HDu.out.ref.kept hb3) (by omega)).mono ?_; rintro e w4 ⟨s, rfl, hs4, hsw4, hb4⟩))
      have hD : Duo2 w4 w.heap.size a0 w2.heap.size M q s M := by
        obtain ⟨F5, hm5, ht5, hs5⟩ := hm3.typed
        have hFlt := HDu.out.mem.lt
        have hrl := HDu.out.ref.lt
        have h35 := hb3.size
        exact ⟨⟨F, F5, (HDu.out.kept hb3).kept hb4, ⟨hm5.kept hb4, ht5.kept hb4, hs4.mono (Nat.le_trans hbr.size h35)⟩, fun j hj hj5 => by have := hF3 j (hs5 j hj5); have := hFlt j hj; omega, hF, fun j hj => Nat.le_trans hbr.size (hF3 j (hs5 j hj))⟩, by omega, hr, by have := hbr.size; omega⟩
      have hb5 := (hbr.trans (hb3.mono hbr.size)).trans (hb4.mono (Nat.le_trans hbr.size hb3.size))
      clear hd hm3 hF3 hs4
      go_loopw [42] (FoRel2 w l.length l2.length a0 w2.heap.size q s) (fun i _ => l2.length - (intOf i).toNat)
      case atStart => exact ⟨0, M, M, by omega, rfl, hD, by omega, by omega, hb5⟩
      case round =>
        obtain ⟨k, M1, N1, hk, rfl, hd, hM1, hN1, hbr⟩ := hrel
        by_cases hlt : k < l2.length
        · obtain ⟨o, ho⟩ : ∃ o, l2[k]? = some o := ⟨_, List.getElem?_eq_getElem hlt⟩
          obtain ⟨b, p, rfl, hbl, c0, c1, c2, c3, c4, c5, c6⟩ := (H2.out.kept hbr).op_at ho
          have i0 : (0 : Int) ≤ (k : Int) := by omega
          have i1 : (k : Int) < (l2.length : Int) := by omega
          clear ho
          have hba : Below wr.heap.size wr (wr.alloc (.cells #[.int .i64 o.kind, .string o.c.key, .int .u64 o.c.seq, .string o.c.val, .bool o.c.gone, .string o.to, .int .i64 o.n] 51)) := (Below.refl _ _).alloc (Nat.le_refl _) _
          have hd1 := hd.kept hba
          have hbw := hbr.trans (hba.mono hbr.size)
          by_cases h2 : k % 2 = 0
          · have hm0 : (k : Int) % 2 = 0 := by omega
            clear h2
            go_wp2_with fail
            refine (hd1.does (by exact hbw.size) (by omega) o).mono ?_
            rintro e w5 ⟨rfl, hd5, hb5⟩
            go_wp2_with fail
            go_roundw
            case rel => exact ⟨k + 1, stepM M1 o, N1, by omega, by go_num, hd5, by have := stepM_len M1 o; omega, by omega, hbw.trans hb5⟩
            case measure => simp [intOf]; omega
          · have hm0 : ¬ (k : Int) % 2 = 0 := by omega
            have hm1 : (k : Int) % 2 = 1 := by omega
            clear h2
            go_wp2_with fail
            refine (hd1.swap.does (by exact hbw.size) (by omega) o).mono ?_
            rintro e w5 ⟨rfl, hd5, hb5⟩
            go_wp2_with fail
            go_roundw
            case rel => exact ⟨k + 1, M1, stepM N1 o, by omega, by go_num, hd5.swap, by omega, by have := stepM_len N1 o; omega, hbw.trans hb5⟩
            case measure => simp [intOf]; omega
        · obtain rfl : k = l2.length := by omega
          go_wp2_with fail
          refine (hd.looks (by omega)).mono ?_
          rintro e w6 ⟨rfl, hb6⟩
          go_wp2_with fail
          refine ((hd.kept hb6).swap.looks (by omega)).mono ?_
          rintro e w7 ⟨rfl, hb7⟩
          go_wp2_with fail
          go_ret
          exact ⟨rfl, (hbr.trans (hb6.mono hbr.size)).trans (hb7.mono (Nat.le_trans hbr.size hb6.size))⟩
end Go.Proofs.Ytbcaiegglbdonaa
