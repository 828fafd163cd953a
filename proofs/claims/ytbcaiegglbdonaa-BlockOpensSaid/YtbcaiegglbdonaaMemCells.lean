/-
  mem.Cells; the laws' 'same' of two slices of cells; Size and Len by the model.
-/
import Derived.Test.YtbcaiegglbdonaaCellEq
namespace Go.Proofs.Ytbcaiegglbdonaa
open Go.RowKit

def CellsPost (w : World) (cs : List Cell) (e : Ending) (w' : World) : Prop := ∃ v, e = .returned v ∧ w'.ownsRow w.heap.size 25 4 v cs.length (cellVals cs) ∧ Below w.heap.size w w'
def CellsRel (w : World) (L : List Node) (k : Nat) (out n : Value) (wr : World) : Prop :=
  ∃ pre post, L = pre ++ post ∧ post.length ≤ k ∧ n = ptrv (post.head?.map (·.b)) ∧ wr.ownsRow w.heap.size 25 4 out (pre.map (·.c)).length (cellVals (pre.map (·.c))) ∧ Below w.heap.size w wr
theorem cellVals_append (a b : List Cell) : cellVals (a ++ b) = cellVals a ++ cellVals b := by simp [cellVals]
theorem news4 (w : World) (c : Cell) : ∀ j u, ([.string c.key, .int .u64 c.seq, .string c.val, .bool c.gone] : List Value)[j]? = some u → (w.alloc (.cells #[.string c.key, .int .u64 c.seq, .string c.val, .bool c.gone] 25)).cell? ((⟨w.heap.size, 0, none⟩ : Addr).add j) = some u := by
  intro j u hj
  rw [add_at rfl]
  show World.cell? _ ⟨w.heap.size, 0 + j, none⟩ = _
  rw [Nat.zero_add]
  exact (Blk.new w #[.string c.key, .int .u64 c.seq, .string c.val, .bool c.gone] 25).cell j u (by simpa using hj)

set_option maxRecDepth 100000 in
set_option maxHeartbeats 1000000 in
theorem cells_spec {w : World} {a hb : Nat} {L : List Node} {sz : Int} (hs : Skip w a hb L sz) (hh : ∀ n ∈ L, 1 ≤ n.h) (hl : L.length * 48 ≤ 140737488355328) :
    Calls Try.prog 24 #[.pointer (some ⟨a, 0, none⟩)] w (CellsPost w (L.map (·.c))) := by
  have hm0 : w.cell? ⟨a, 0, none⟩ = some (.pointer (some ⟨hb, 0, none⟩)) := hs.mem.cell 0 _ rfl
  have hh0 := hs.head.cell 4 _ (nodeArr_get Cell.zero (links 12 L) (i := 0) (by omega))
  have hhb := hs.head.lt
  have e0 : links 12 L 0 = .pointer ((L.head?.map (·.b)).map fun b => ⟨b, 0, none⟩) := by rw [links, if_pos (by omega), nxt0 hh]; rfl
  rw [e0] at hh0
  clear e0
  obtain ⟨i0, hi, hz0, hz1, hz2⟩ := info_parts Try.infoCell
  go_enter Try.func24, Try.ntmps24
  go_wp2_with (first | (go_at_call 73; refine (made_yes hm0).mono ?_; rintro e w' ⟨rfl, rfl⟩))
  clear hm0 hh0 hhb
  go_loopg [3, 4] L.length (CellsRel w L)
  case atStart => exact ⟨[], L, rfl, Nat.le_refl _, by cases L <;> rfl, ⟨rfl, .inl ⟨rfl, rfl⟩⟩, Below.refl _ _⟩
  case round =>
    obtain ⟨pre, post, hL, hgk, rfl, hown, hbel⟩ := hrel
    have HL := Lib.hid hL
    clear hL
    cases post with
    | nil =>
      unfold ptrv
      go_wp2
      go_ret
      have hL := HL.out
      simp only [List.append_nil] at hL
      subst hL
      exact ⟨_, rfl, hown, hbel⟩
    | cons n post =>
      have hsk := hs.kept hbel
      have hnb : Blk wr n.b (nodeArr n.c (links n.h post)) 105 := by have h := hsk.nodes; rw [HL.out] at h; exact h.at_
      obtain ⟨k0, k1, k2, k3⟩ := nodeArr_cells hnb
      have k4 := hnb.cell 4 _ (nodeArr_get n.c (links n.h post) (i := 0) (by omega))
      have e0 : links n.h post 0 = .pointer ((post.head?.map (·.b)).map fun b => ⟨b, 0, none⟩) := by
        have h1 := hh n (by rw [HL.out]; simp)
        rw [links, if_pos (by omega), nxt0 fun m hm => hh m (by rw [HL.out]; simp [hm])]; rfl
      rw [e0] at k4
      clear e0
      have hnl := hnb.lt
      have hnB : n.b < w.heap.size := hs.foot_lt (.inr (.inr ⟨n, by rw [HL.out]; simp, rfl⟩))
      have hlen : (pre.map (·.c)).length + 1 ≤ L.length := by rw [HL.out]; simp
      have hsz := hbel.size
      show Code.wp _ _ _ ⟨#[_, _, _, _, .pointer (some ⟨n.b, 0, none⟩), _, _, _, _, _, _, _, _, _, _, _, _, _, _, _, _, _, _, _, _, _, _, _, _, _, _], _⟩ _
      have q3 : (pre.map (·.c)).length + 1 ≤ maxLen := by unfold maxLen; omega
      have q4 : ((pre.map (·.c)).length + 1) * 48 ≤ 140737488355328 := by omega
      have q5 : w.heap.size ≤ (wr.alloc (.cells #[.string n.c.key, .int .u64 n.c.seq, .string n.c.val, .bool n.c.gone] 25)).heap.size := by simp only [World.size_alloc]; omega
      go_wp2_with (at_builtin; refine wpList_append_own _ rfl _ _ 22 rfl w.heap.size 25 i0 cellZ 4 48 Try.underlying22 hi hz0 hz1 hz2 rfl (by decide) _ _ _ rfl (hown.alloc _) ⟨wr.heap.size, 0, none⟩ 1 1 [.string n.c.key, .int .u64 n.c.seq, .string n.c.val, .bool n.c.gone] rfl rfl (news4 _ _) (by simp [Value.oneCell']) q3 q4 q5 ?_)
      intro v' w1 hown1 hgr _
      have hb1 : Below w.heap.size w w1 := (hbel.alloc hbel.size _).grown hgr q5 (fun j hj => (hown.lt j hj).1)
      have k4' : w1.cell? ⟨n.b, 4, none⟩ = some (.pointer ((post.head?.map (·.b)).map fun b => ⟨b, 0, none⟩)) := by
        rw [hb1.cell (p := ⟨n.b, 4, none⟩) hnB, ← hbel.cell (p := ⟨n.b, 4, none⟩) hnB]; exact k4
      clear k4
      go_wp2
      go_roundg post.length
      case measure => simp at hgk; omega
      case rel => exact ⟨pre ++ [n], post, by rw [HL.out]; simp, Nat.le_refl _, by cases post <;> rfl, by simpa [cellVals_append, cellVals] using hown1, hb1⟩

theorem cells_model {w : World} {a : Nat} {F : Nat → Prop} {M : MM} (hm : MemIs w a F M) (hl : M.length * 48 ≤ 140737488355328) : Calls Try.prog 24 #[.pointer (some ⟨a, 0, none⟩)] w (CellsPost w (M.map (·.1))) := by
  obtain ⟨hb, L, hs, hL, hF⟩ := hm.skip
  have h := cells_spec hs (fun n hn => (hm.pos (n.c, n.h) (by rw [← hL]; exact List.mem_map.2 ⟨n, hn, rfl⟩)).1) (by rw [← hL, List.length_map] at hl; exact hl)
  rw [← hL, List.map_map]
  exact h
theorem size_model {w : World} {a : Nat} {F : Nat → Prop} {M : MM} (hm : MemIs w a F M) : Calls Try.prog 29 #[.pointer (some ⟨a, 0, none⟩)] w fun e w' => e = .returned (.int .i64 (sizeM M)) ∧ w = w' := by
  obtain ⟨hb, L, hs, hL, hF⟩ := hm.skip
  exact size_spec hs

end Go.Proofs.Ytbcaiegglbdonaa
