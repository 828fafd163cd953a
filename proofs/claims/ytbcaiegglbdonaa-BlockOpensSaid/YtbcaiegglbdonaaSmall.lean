/-
  Small facts that many walks use.
-/
import Derived.Test.YtbcaiegglbdonaaOpen
namespace Go.Proofs.Ytbcaiegglbdonaa
open Go.RowKit

theorem cell_keep {W w' : World} (hb : Below W.heap.size W w') {p : Addr} {v : Value} (h : W.cell? p = some v) : w'.cell? p = some v := (hb.cell (World.block_lt_of_cell? W _ h)).trans h
theorem Reads.int_at {w : World} {A : Option Addr} {cap : Nat} {l : List Int} (h : Reads w (.slice A l.length cap) l.length 1 (ints l)) {k : Nat} {x : Int} (hk : l[k]? = some x) :
    ∃ b o, A = some ⟨b, o, none⟩ ∧ b < w.heap.size ∧ w.cell? ⟨b, o + k, none⟩ = some (.int .i64 x) := by
  obtain ⟨_, _, A', cap', e, h3⟩ := h
  injection e with e1 e2 e3
  subst e1 e3
  have hlt := (List.getElem?_eq_some_iff.1 hk).1
  obtain ⟨b, o, rfl, hb, hc⟩ := h3.resolve_left (by omega)
  exact ⟨b, o, rfl, hb, hc k _ (by simp [ints, hk])⟩
theorem own_set {w : World} {base e size n : Nat} {v : Value} {xs : List Value} (h : w.ownsRow base e size v n xs) {r : Nat} {arr : Array Value} {t : TypeId} (hr : Blk w r arr t) (hne : t ≠ e) (i : Nat) (u : Value) :
    (w.setCell ⟨r, i, none⟩ u).ownsRow base e size v n xs := by
  refine ⟨h.1, ?_⟩
  rcases h.2 with h2 | ⟨g, cap', cur, h1, hb, hg, hr2⟩
  · exact .inl h2
  · refine .inr ⟨g, cap', cur, h1, hb, ?_, hr2⟩
    have hn : g ≠ r := by
      rintro rfl
      have := hg.symm.trans hr
      injection this with this
      injection this with _ h3 _
      exact hne h3.symm
    exact Blk.setCell_ne (show Blk w g cur e from hg) hn i u
theorem cellVals_one (l : List Cell) : ∀ u ∈ cellVals l, u.oneCell' = true := by
  intro u hu
  unfold cellVals at hu
  obtain ⟨c, _, h⟩ := List.mem_flatMap.1 hu
  simp at h
  rcases h with rfl | rfl | rfl | rfl <;> rfl
theorem src_all {w : World} {base e size n cap : Nat} {A : Option Addr} {xs : List Value} (h : w.ownsRow base e size (.slice A n cap) n xs) :
    (Value.slice A n cap = .slice none 0 0 ∧ n = 0) ∨ ∃ ad c, Value.slice A n cap = .slice (some ad) n c ∧ ∀ (j : Nat) (u : Value), xs[j]? = some u → w.cell? (ad.add j) = some u := by
  rcases h.2 with ⟨h1, h2⟩ | ⟨g, cap', cur, h1, _⟩
  · exact .inl ⟨h1, h2⟩
  · rw [h1] at h ⊢
    exact .inr ⟨_, _, rfl, h.cells rfl⟩
theorem take_snoc {α : Type} {l : List α} {k : Nat} {x : α} (h : l[k]? = some x) : l.take (k + 1) = l.take k ++ [x] := by rw [List.take_add_one, h]; rfl
section
open Go.ChangeShapes Go.WideShapes Go.ChangeAt Go.Deep
theorem cells_len {H : Type} {ts : List TypeId} {ds : List (DataW H)} {cs : List Cell} {d : DataW H} (hsz : (DataW.weightsEach Try.prog ts ds).all (· ≤ reachBytes) = true) {j : Nat} (ht : ts[j]? = some 22) (hd : ds[j]? = some d) (hc : CellsD d cs) : cs.length ≤ 2932031007402 := by
  rcases hc with ⟨rfl, rfl⟩ | ⟨sp, rfl⟩
  · simp
  · have := sized_slice hsz ht hd Try.underlying22
    rw [show Try.prog.bytesOf 25 = 48 by kernel_rfl, List.length_map] at this
    unfold reachBytes at this
    omega
end
end Go.Proofs.Ytbcaiegglbdonaa
