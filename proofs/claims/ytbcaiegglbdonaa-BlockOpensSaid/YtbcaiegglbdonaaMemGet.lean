/-
  Contracts of mem.New, made, Check, Get, Len, Size, over every world.
-/
import Derived.Test.YtbcaiegglbdonaaAhead
namespace Go.Proofs.Ytbcaiegglbdonaa
open Go.RowKit

theorem Below.set4 {B : Nat} {a w : World} (h : Below B a w) {b : Nat} (hp : B ≤ b) (i j k l : Nat) (u v x y : Value) :
    Below B a ((((w.setCell ⟨b, i, none⟩ u).setCell ⟨b, j, none⟩ v).setCell ⟨b, k, none⟩ x).setCell ⟨b, l, none⟩ y) :=
  (((h.setCell hp _).setCell hp _).setCell hp _).setCell hp _
def Cell.v (c : Cell) : Value := .agg #[.string c.key, .int .u64 c.seq, .string c.val, .bool c.gone]
def NewPost (w : World) (e : Ending) (w' : World) : Prop :=
  e = .returned (.pointer (some ⟨w.heap.size + 1, 0, none⟩)) ∧ Skip w' (w.heap.size + 1) w.heap.size [] 0 ∧ Below w.heap.size w w' ∧ w'.heap.size = w.heap.size + 2

set_option maxRecDepth 100000 in
set_option maxHeartbeats 1000000 in
theorem new_spec (w : World) : Calls Try.prog 20 #[] w (NewPost w) := by
  go_enter Try.func20, Try.ntmps20
  go_wp2
  go_ret
  refine ⟨rfl, ⟨?_, ?_, trivial, by simp, by simp⟩, ((Below.refl _ _).alloc (Nat.le_refl _) _).alloc (by simp) _, by simp⟩
  · have h := Blk.new (w.alloc (.cells (nodeArr Cell.zero (links 12 [])) 105)) (memArr w.heap.size (fun l => tall l []) 0) 60
    rw [World.size_alloc] at h
    exact h
  · exact (Blk.new w (nodeArr Cell.zero (links 12 [])) 105).alloc _

theorem made_yes {w : World} {a : Nat} {p : Addr} (h : w.cell? ⟨a, 0, none⟩ = some (.pointer (some p))) :
    Calls Try.prog 73 #[.pointer (some ⟨a, 0, none⟩)] w fun e w' => e = .returned (.bool true) ∧ w = w' := by
  go_enter Try.func73, Try.ntmps73
  go_wp2
  go_ret
  exact ⟨rfl, rfl⟩
theorem made_zero {w : World} {a : Nat} (h : w.cell? ⟨a, 0, none⟩ = some (.pointer none)) :
    Calls Try.prog 73 #[.pointer (some ⟨a, 0, none⟩)] w fun e w' => e = .returned (.bool false) ∧ w = w' := by
  go_enter Try.func73, Try.ntmps73
  go_wp2
  go_ret
  exact ⟨rfl, rfl⟩
theorem made_nil (w : World) : Calls Try.prog 73 #[.pointer none] w fun e w' => e = .returned (.bool false) ∧ w = w' := by
  go_enter Try.func73, Try.ntmps73
  go_wp2
  go_ret
  exact ⟨rfl, rfl⟩

def CellOk (c : Cell) : Prop := 1 ≤ c.key.size ∧ c.key.size ≤ 128 ∧ c.val.size ≤ 1024 ∧ (c.gone = true → c.val.toList = []) ∧ c.seq ≤ 72057594037927935
def checkN (c : Cell) : Int := if 1 ≤ c.key.size ∧ c.key.size ≤ 128 ∧ c.val.size ≤ 1024 ∧ (c.gone = true → c.val.toList = []) ∧ c.seq ≤ 72057594037927935 then 0 else 60

set_option maxRecDepth 100000 in
set_option maxHeartbeats 1000000 in
theorem check_spec (c : Cell) (w : World) :
    Calls Try.prog 74 #[.agg #[.string c.key, .int .u64 c.seq, .string c.val, .bool c.gone]] w fun e w' => e = .returned (.int .i64 (checkN c)) ∧ Below w.heap.size w w' := by
  go_enter Try.func74, Try.ntmps74
  go_wp2
  all_goals go_ret
  all_goals refine ⟨ret_eq ?_, (Below.refl _ _).alloc (Nat.le_refl _) _⟩
  all_goals (unfold checkN; split)
  all_goals first | rfl | (exfalso; rename_i h; obtain ⟨h1, h2, h3, h4, h5⟩ := h; first | omega | (exact absurd (h4 ‹_›) ‹_›)) | (exfalso; rename_i h; refine h ⟨by omega, by omega, by omega, fun hg => ?_, by omega⟩; first | assumption | exact absurd hg ‹_›)

theorem nxt0 {B : List Node} (h : ∀ n ∈ B, 1 ≤ n.h) : nxt 0 B = B.head?.map (·.b) := by
  cases B with
  | nil => rfl
  | cons n B => have := h n (by simp); simp [nxt, show 0 < n.h by omega]
theorem lastAt_last (l hb : Nat) (A : List Node) : ∃ suf, Stands l hb A (lastAt l hb A) suf ∧ ∀ m ∈ suf, ¬ l < m.h := by
  unfold lastAt
  cases h : A.reverse.find? (fun n => decide (l < n.h)) with
  | none => exact ⟨A, .inl ⟨rfl, rfl⟩, fun m hm => by simpa using List.find?_eq_none.1 h m (by simpa using hm)⟩
  | some n =>
    obtain ⟨h1, xs, ys, h2, h3⟩ := List.find?_eq_some_iff_append.1 h
    have hA : A = ys.reverse ++ n :: xs.reverse := by
      have := congrArg List.reverse h2
      simpa using this
    exact ⟨xs.reverse, .inr ⟨ys.reverse, n, hA, rfl, by simpa using h1⟩, fun m hm => by simpa using h3 m (by simpa using hm)⟩
theorem lastAt_blk {w : World} {a hb : Nat} {A B : List Node} {sz : Int} (hs : Skip w a hb (A ++ B) sz) {l : Nat} (hl : l < 12) :
    ∃ c f, Blk w (lastAt l hb A) (nodeArr c f) 105 ∧ f l = ptrv (nxt l B) := by
  obtain ⟨suf, hst, hno⟩ := lastAt_last l hb A
  obtain ⟨c, f, h1, h2⟩ := hst.blk hs hl
  exact ⟨c, f, h1, h2.trans (by rw [nxt_append_none hno])⟩

def getRes (key : ByteArray) : List Node → Cell × Bool
  | [] => (Cell.zero, false)
  | n :: _ => if n.c.key = key then (n.c, true) else (Cell.zero, false)

def GetPost (w : World) (r : Cell × Bool) (e : Ending) (w' : World) : Prop := e = .returned (.tuple #[r.1.v, .bool r.2]) ∧ Below w.heap.size w w'

set_option maxRecDepth 100000 in
set_option maxHeartbeats 1000000 in
theorem get_spec {w : World} {a hb : Nat} {A B : List Node} {sz : Int} (hs : Skip w a hb (A ++ B) sz) (hh : ∀ n ∈ A ++ B, 1 ≤ n.h) (key : ByteArray) (seq : Int)
    (hA : ∀ n ∈ A, lessC n.c key seq < 0) (hB : ∀ n ∈ B, 0 ≤ lessC n.c key seq) :
    Calls Try.prog 23 #[.pointer (some ⟨a, 0, none⟩), .string key, .int .u64 seq] w (GetPost w (getRes key B)) := by
  have hm0 : w.cell? ⟨a, 0, none⟩ = some (.pointer (some ⟨hb, 0, none⟩)) := hs.mem.cell 0 _ rfl
  have ha : a < w.heap.size := hs.mem.lt
  obtain ⟨cp, fp, hbp, hfp⟩ := lastAt_blk hs (l := 0) (by omega)
  have hcn := hbp.cell 4 _ (nodeArr_get cp fp (i := 0) (by omega))
  have hpl := hbp.lt
  rw [hfp, nxt0 fun n hn => hh n (by simp [hn])] at hcn
  clear hfp hbp
  have hout : outAgg hb A = .agg #[.pointer (some ⟨lastAt 0 hb A, 0, none⟩), outp hb A 1, outp hb A 2, outp hb A 3, outp hb A 4, outp hb A 5, outp hb A 6, outp hb A 7, outp hb A 8, outp hb A 9, outp hb A 10, outp hb A 11] := rfl
  have hahead := fun W hsk => @ahead_spec W a hb A B sz hsk key seq hA hB
  rw [hout] at hahead
  clear hout
  have HA := Lib.hid hahead
  clear hahead
  have i0 : ∀ (x1 x2 x3 x4 x5 x6 x7 x8 x9 x10 x11 : Value) (W : World), (Instr.index 103 (.agg #[.pointer (some ⟨lastAt 0 hb A, 0, none⟩), x1, x2, x3, x4, x5, x6, x7, x8, x9, x10, x11]) (.int .i64 0)).run Try.prog W = .ok (.pointer (some ⟨lastAt 0 hb A, 0, none⟩)) W := fun _ _ _ _ _ _ _ _ _ _ _ _ => by kernel_rfl
  cases B with
  | nil =>
    have hcn' : w.cell? ⟨lastAt 0 hb A, 4, none⟩ = some (.pointer none) := hcn
    clear hcn
    go_enter Try.func23, Try.ntmps23
    go_wp2_with (first | (go_at_call 73; refine (made_yes (p := ⟨hb, 0, none⟩) ?_).mono ?_; (go_simp); rintro e w' ⟨rfl, rfl⟩) | (go_at_call 75; refine (HA.out _ (hs.kept ((Below.refl _ _).alloc (Nat.le_refl _) _))).mono ?_; rintro e w' ⟨rfl, hb1⟩; obtain ⟨hc, hf⟩ := bcell hb1))
    refine bodyPost_ret (v := .tuple #[Cell.zero.v, .bool false]) ?_ rfl ⟨rfl, ?_⟩
    · simp [results, Try.results23, go_sem, hc, Cell.v, Cell.zero]; rfl
    · exact Below.set4 (((Below.refl _ _).alloc (Nat.le_refl _) _).trans (hb1.mono (by simp))) (Nat.le_refl _) ..
  | cons n B =>
    have hcn' : w.cell? ⟨lastAt 0 hb A, 4, none⟩ = some (.pointer (some ⟨n.b, 0, none⟩)) := hcn
    clear hcn
    obtain ⟨k0, k1, k2, k3⟩ := nodeArr_cells hs.nodes.at_
    have hnl := hs.nodes.at_.lt
    by_cases hkey : n.c.key = key
    · have hk' : (n.c.key.toList == key.toList) = true := str_beq.2 hkey
      have hr : getRes key (n :: B) = (n.c, true) := by simp [getRes, hkey]
      rw [hr]
      clear hkey hr
      go_enter Try.func23, Try.ntmps23
      go_wp2_with (first | (go_at_call 73; refine (made_yes (p := ⟨hb, 0, none⟩) ?_).mono ?_; (go_simp); rintro e w' ⟨rfl, rfl⟩) | (go_at_call 75; refine (HA.out _ (hs.kept ((Below.refl _ _).alloc (Nat.le_refl _) _))).mono ?_; rintro e w' ⟨rfl, hb1⟩; obtain ⟨hc, hf⟩ := bcell hb1))
      refine bodyPost_ret (v := .tuple #[n.c.v, .bool true]) ?_ rfl ⟨rfl, ?_⟩
      · simp [results, Try.results23, go_sem, hc, Cell.v]
      · exact Below.set4 (((Below.refl _ _).alloc (Nat.le_refl _) _).trans (hb1.mono (by simp))) (Nat.le_refl _) ..
    · have hk' : (n.c.key.toList == key.toList) = false := str_beq_false.2 hkey
      have hr : getRes key (n :: B) = (Cell.zero, false) := by simp [getRes, hkey]
      rw [hr]
      clear hkey hr
      go_enter Try.func23, Try.ntmps23
      go_wp2_with (first | (go_at_call 73; refine (made_yes (p := ⟨hb, 0, none⟩) ?_).mono ?_; (go_simp); rintro e w' ⟨rfl, rfl⟩) | (go_at_call 75; refine (HA.out _ (hs.kept ((Below.refl _ _).alloc (Nat.le_refl _) _))).mono ?_; rintro e w' ⟨rfl, hb1⟩; obtain ⟨hc, hf⟩ := bcell hb1))
      refine bodyPost_ret (v := .tuple #[Cell.zero.v, .bool false]) ?_ rfl ⟨rfl, ?_⟩
      · simp [results, Try.results23, go_sem, hc, Cell.v, Cell.zero]; rfl
      · exact Below.set4 (((Below.refl _ _).alloc (Nat.le_refl _) _).trans (hb1.mono (by simp))) (Nat.le_refl _) ..

theorem len_spec {w : World} {a hb : Nat} {L : List Node} {sz : Int} (hs : Skip w a hb L sz) :
    Calls Try.prog 30 #[.pointer (some ⟨a, 0, none⟩)] w fun e w' => e = .returned (.int .i64 (tall 0 L)) ∧ w = w' := by
  have hm0 : w.cell? ⟨a, 0, none⟩ = some (.pointer (some ⟨hb, 0, none⟩)) := hs.mem.cell 0 _ rfl
  have hm1 : w.cell? ⟨a, 1, none⟩ = some (.int .i64 (tall 0 L)) := hs.mem.cell 1 _ rfl
  go_enter Try.func30, Try.ntmps30
  go_wp2_with (first | (go_at_call 73; refine (made_yes hm0).mono ?_; rintro e w' ⟨rfl, rfl⟩))
  go_ret
  exact ⟨rfl, rfl⟩
theorem size_spec {w : World} {a hb : Nat} {L : List Node} {sz : Int} (hs : Skip w a hb L sz) :
    Calls Try.prog 29 #[.pointer (some ⟨a, 0, none⟩)] w fun e w' => e = .returned (.int .i64 sz) ∧ w = w' := by
  have hm0 : w.cell? ⟨a, 0, none⟩ = some (.pointer (some ⟨hb, 0, none⟩)) := hs.mem.cell 0 _ rfl
  have hm1 : w.cell? ⟨a, 13, none⟩ = some (.int .i64 sz) := hs.mem.cell 13 _ rfl
  go_enter Try.func29, Try.ntmps29
  go_wp2_with (first | (go_at_call 73; refine (made_yes hm0).mono ?_; rintro e w' ⟨rfl, rfl⟩))
  go_ret
  exact ⟨rfl, rfl⟩

end Go.Proofs.Ytbcaiegglbdonaa
