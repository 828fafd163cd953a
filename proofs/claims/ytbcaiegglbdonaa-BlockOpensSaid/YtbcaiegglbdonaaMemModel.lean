/-
  The table in memory as a list of cells with their heights, and the calls of Put and Get told by it.
-/
import Derived.Test.YtbcaiegglbdonaaMemPut2
namespace Go.Proofs.Ytbcaiegglbdonaa
open Go.RowKit

abbrev MM := List (Cell × Nat)
/-- A cell stands ahead of a place. -/
def ahd (key : ByteArray) (seq : Int) (x : Cell × Nat) : Bool := decide (PLt x.1.key x.1.seq key seq)
def aheadM (M : MM) (key : ByteArray) (seq : Int) : MM := M.takeWhile (ahd key seq)
def behindM (M : MM) (key : ByteArray) (seq : Int) : MM := M.dropWhile (ahd key seq)
def SortedM (M : MM) : Prop := M.Pairwise fun x y => PLt x.1.key x.1.seq y.1.key y.1.seq
def sizeM (M : MM) : Int := ((M.map fun x => x.1.key.size + x.1.val.size + 16).sum : Nat)
def cellOkM (M : MM) : Prop := ∀ x ∈ M, checkN x.1 = 0
instance : DecidableEq Cell := fun a b => by
  cases a; cases b
  simp only [Cell.mk.injEq]
  infer_instance
def hitM (B : MM) (c : Cell) : Bool := match B with
  | [] => false
  | x :: _ => decide (x.1.key = c.key ∧ x.1.seq = c.seq)
def putRes (M : MM) (c : Cell) (h : Int) : Int × MM :=
  if checkN c = 60 then (60, M)
  else if h < 1 ∨ 12 < h then (1, M)
  else if hitM (behindM M c.key c.seq) c = true then (61, M)
  else (0, aheadM M c.key c.seq ++ (c, h.toNat) :: behindM M c.key c.seq)
def getM (M : MM) (key : ByteArray) (seq : Int) : Cell × Bool := match behindM M key seq with
  | [] => (Cell.zero, false)
  | x :: _ => if x.1.key = key then (x.1, true) else (Cell.zero, false)

theorem ahead_behind (M : MM) (key : ByteArray) (seq : Int) : aheadM M key seq ++ behindM M key seq = M := List.takeWhile_append_dropWhile
theorem mem_ahead {M : MM} {key : ByteArray} {seq : Int} {x : Cell × Nat} (h : x ∈ aheadM M key seq) : PLt x.1.key x.1.seq key seq := by
  unfold aheadM at h
  induction M with
  | nil => cases h
  | cons y M ih =>
    rw [List.takeWhile_cons] at h
    split at h
    · rename_i hy
      rcases List.mem_cons.1 h with rfl | h
      · exact of_decide_eq_true hy
      · exact ih h
    · cases h
theorem behind_head {M : MM} {key : ByteArray} {seq : Int} {x : Cell × Nat} {B : MM} (h : behindM M key seq = x :: B) : ¬ PLt x.1.key x.1.seq key seq := by
  unfold behindM at h
  induction M with
  | nil => cases h
  | cons y M ih =>
    rw [List.dropWhile_cons] at h
    split at h
    · exact ih h
    · rename_i hy
      injection h with h1 _
      subst h1
      exact fun hp => hy (decide_eq_true hp)
theorem mem_behind {M : MM} (hs : SortedM M) {key : ByteArray} {seq : Int} {x : Cell × Nat} (h : x ∈ behindM M key seq) : ¬ PLt x.1.key x.1.seq key seq := by
  have hsb : SortedM (behindM M key seq) := by
    have : SortedM (aheadM M key seq ++ behindM M key seq) := by rw [ahead_behind]; exact hs
    exact (List.pairwise_append.1 this).2.1
  cases hB : behindM M key seq with
  | nil => rw [hB] at h; cases h
  | cons y B =>
    have hy := behind_head hB
    rw [hB] at h hsb
    rcases List.mem_cons.1 h with rfl | h
    · exact hy
    · intro hx
      exact hy (((List.pairwise_cons.1 hsb).1 x h).trans hx)
theorem ge_of_not {k1 : ByteArray} {s1 : Int} {k2 : ByteArray} {s2 : Int} (h : ¬ PLt k1 s1 k2 s2) : 0 ≤ cellCmp k1 s1 k2 s2 := by
  have := (not_congr (cellCmp_neg_iff (k1 := k1) (s1 := s1) (k2 := k2) (s2 := s2))).2 h
  omega
theorem sorted_split {M : MM} (hs : SortedM M) (key : ByteArray) (seq : Int) : SortedM (aheadM M key seq) ∧ SortedM (behindM M key seq) ∧ ∀ x ∈ aheadM M key seq, ∀ y ∈ behindM M key seq, PLt x.1.key x.1.seq y.1.key y.1.seq := by
  have : SortedM (aheadM M key seq ++ behindM M key seq) := by rw [ahead_behind]; exact hs
  exact List.pairwise_append.1 this
theorem behind_gt {M : MM} (hs : SortedM M) {c : Cell} (hh : hitM (behindM M c.key c.seq) c = false) {x : Cell × Nat} (h : x ∈ behindM M c.key c.seq) : PLt c.key c.seq x.1.key x.1.seq := by
  have hsb := (sorted_split hs c.key c.seq).2.1
  cases hB : behindM M c.key c.seq with
  | nil => rw [hB] at h; cases h
  | cons y B =>
    have hy := behind_head hB
    rw [hB] at h hh hsb
    have hne : ¬ (y.1.key = c.key ∧ y.1.seq = c.seq) := by simpa [hitM] using hh
    have hcy : PLt c.key c.seq y.1.key y.1.seq := by
      rcases PLt.total y.1.key y.1.seq c.key c.seq with h | h | h
      · exact absurd h hy
      · exact absurd h hne
      · exact h
    rcases List.mem_cons.1 h with rfl | h
    · exact hcy
    · exact hcy.trans ((List.pairwise_cons.1 hsb).1 x h)
theorem sorted_put {M : MM} (hs : SortedM M) (c : Cell) (h : Int) : SortedM (putRes M c h).2 := by
  unfold putRes
  split
  · exact hs
  · split
    · exact hs
    · split
      · exact hs
      · rename_i hh
        obtain ⟨h1, h2, h3⟩ := sorted_split hs c.key c.seq
        refine List.pairwise_append.2 ⟨h1, List.pairwise_cons.2 ⟨fun y hy => behind_gt hs (by simpa using hh) hy, h2⟩, fun x hx y hy => ?_⟩
        rcases List.mem_cons.1 hy with rfl | hy
        · exact mem_ahead hx
        · exact h3 x hx y hy

/-- A block's set, a table's list. -/
structure MemIs (w : World) (a : Nat) (F : Nat → Prop) (M : MM) : Prop where
  lt : ∀ k, F k → k < w.heap.size
  sorted : SortedM M
  pos : ∀ x ∈ M, 1 ≤ x.2 ∧ x.2 ≤ 12
  ok : cellOkM M
  skip : ∃ hb L, Skip w a hb L (sizeM M) ∧ L.map (fun n => (n.c, n.h)) = M ∧ ∀ k, foot a hb L k → F k
theorem MemIs.only {w w' : World} {a : Nat} {F : Nat → Prop} {M : MM} (h : MemIs w a F M) {S : Nat → Prop} (ho : Only S w w') (hS : ∀ k, F k → ¬ S k) : MemIs w' a F M := by
  obtain ⟨hb, L, h1, h2, h3⟩ := h.skip
  exact ⟨fun k hk => Nat.lt_of_lt_of_le (h.lt k hk) ho.size, h.sorted, h.pos, h.ok, hb, L, h1.only ho fun k hk => hS k (h3 k hk), h2, h3⟩
theorem MemIs.kept {w w' : World} {a : Nat} {F : Nat → Prop} {M : MM} (h : MemIs w a F M) (hb : Below w.heap.size w w') : MemIs w' a F M :=
  h.only (Only.of_below (S := fun _ => False) hb) fun _ _ h => h
theorem MemIs.head {w : World} {a : Nat} {F : Nat → Prop} {M : MM} (h : MemIs w a F M) : F a ∧ ∃ hb, w.cell? ⟨a, 0, none⟩ = some (.pointer (some ⟨hb, 0, none⟩)) := by
  obtain ⟨hb, L, h1, h2, h3⟩ := h.skip
  exact ⟨h3 a (.inl rfl), hb, h1.mem.cell 0 _ rfl⟩

theorem sizeM_nonneg (M : MM) : 0 ≤ sizeM M := by unfold sizeM; omega
theorem sizeM_le {M : MM} (hM : cellOkM M) : sizeM M ≤ 1168 * M.length := by
  unfold sizeM
  induction M with
  | nil => simp
  | cons x M ih =>
    obtain ⟨h1, h2⟩ := check_sizes (hM x (by simp))
    have := ih (fun y hy => hM y (by simp [hy]))
    simp only [List.map_cons, List.sum_cons, List.length_cons]
    omega
theorem sizeM_insert (A B : MM) (c : Cell) (h : Nat) : sizeM (A ++ (c, h) :: B) = sizeM (A ++ B) + (c.key.size + c.val.size + 16 : Nat) := by
  unfold sizeM
  simp only [List.map_append, List.map_cons, List.sum_append, List.sum_cons]
  omega
theorem check_or (c : Cell) : checkN c = 0 ∨ checkN c = 60 := by unfold checkN; split <;> simp

theorem split_nodes {L : List Node} {A B : MM} (h : L.map (fun n => (n.c, n.h)) = A ++ B) : ∃ LA LB, L = LA ++ LB ∧ LA.map (fun n => (n.c, n.h)) = A ∧ LB.map (fun n => (n.c, n.h)) = B :=
  List.map_eq_append_iff.1 h

def PutM (w : World) (a : Nat) (F : Nat → Prop) (M : MM) (c : Cell) (h : Int) (e : Ending) (w' : World) : Prop :=
  ∃ F', e = .returned (.int .i64 (putRes M c h).1) ∧ MemIs w' a F' (putRes M c h).2 ∧ (∀ k, F' k → F k ∨ w.heap.size ≤ k) ∧ Only F w w'

theorem put_model {w : World} {a : Nat} {F : Nat → Prop} {M : MM} (hm : MemIs w a F M) (c : Cell) (h : Int) (hl : M.length ≤ 1099511627776000) :
    Calls Try.prog 22 #[.pointer (some ⟨a, 0, none⟩), .agg #[.string c.key, .int .u64 c.seq, .string c.val, .bool c.gone], .int .i64 h] w (PutM w a F M c h) := by
  have stay : ∀ r : Int, (putRes M c h) = (r, M) → ∀ e w', e = Ending.returned (.int .i64 r) ∧ Below w.heap.size w w' → PutM w a F M c h e w' := by
    intro r hr e w' ⟨he, hb⟩
    exact ⟨F, by rw [hr]; exact he, by rw [hr]; exact hm.kept hb, fun k hk => .inl hk, Only.of_below hb⟩
  obtain ⟨_, hb0, hm0⟩ := hm.head
  obtain ⟨hb, L, hs, hL, hF⟩ := hm.skip
  rcases check_or c with hc | hc
  · by_cases hh : h < 1 ∨ 12 < h
    · exact (put_height hm0 c hc h hh).mono (stay 1 (by unfold putRes; rw [if_neg (by omega), if_pos hh]))
    · have hab := ahead_behind M c.key c.seq
      rw [← hab] at hL
      obtain ⟨LA, LB, rfl, hA, hB⟩ := split_nodes hL
      have hh1 : ∀ n ∈ LA ++ LB, 1 ≤ n.h := fun n hn => (hm.pos (n.c, n.h) (by rw [← hab, ← hA, ← hB, ← List.map_append]; exact List.mem_map.2 ⟨n, hn, rfl⟩)).1
      have hA' : ∀ n ∈ LA, lessC n.c c.key c.seq < 0 := fun n hn => cellCmp_neg_iff.2 (mem_ahead (x := (n.c, n.h)) (by rw [← hA]; exact List.mem_map.2 ⟨n, hn, rfl⟩))
      obtain ⟨hn, hhn⟩ : ∃ hn : Nat, h = hn := ⟨h.toNat, by omega⟩
      by_cases hit : hitM (behindM M c.key c.seq) c = true
      · cases LB with
        | nil => rw [← hB] at hit; cases hit
        | cons n LB =>
          have hit' := hit
          rw [← hB] at hit'
          have hnc : n.c.key = c.key ∧ n.c.seq = c.seq := by simpa [hitM] using hit'
          rw [hhn]
          refine (put_twice hs hh1 c hc hn (by omega) (by omega) hA' (cellCmp_zero_iff.2 hnc) (fun n' hn' => ?_)).mono ?_
          · exact ge_of_not (mem_behind hm.sorted (x := (n'.c, n'.h)) (by rw [← hB]; exact List.mem_map.2 ⟨n', by simp [hn'], rfl⟩))
          · rw [← hhn]; exact stay 61 (by unfold putRes; rw [if_neg (by omega), if_neg hh, if_pos hit])
      · have hit' : hitM (behindM M c.key c.seq) c = false := by simpa using hit
        have hB' : ∀ n ∈ LB, 0 < lessC n.c c.key c.seq := fun n hn => by
          have := behind_gt hm.sorted hit' (x := (n.c, n.h)) (by rw [← hB]; exact List.mem_map.2 ⟨n, hn, rfl⟩)
          unfold lessC; rw [cellCmp_gt this]; omega
        have hlen : (LA ++ LB).length = M.length := by
          rw [← hab, ← hL, List.length_map]
        have hsz := sizeM_le hm.ok
        have hsz0 := sizeM_nonneg M
        rw [hhn]
        refine (put_new hs hh1 c hc hn (by omega) (by omega) hA' hB' hsz0 (by omega) (by omega)).mono ?_
        rintro e w' ⟨nb, he, hnb, hsk, hon⟩
        have hr : putRes M c (hn : Int) = (0, aheadM M c.key c.seq ++ (c, hn) :: behindM M c.key c.seq) := by
          unfold putRes; rw [if_neg (by omega), if_neg (by omega), if_neg hit, Int.toNat_natCast]
        have hS := sorted_put hm.sorted c hn
        rw [hr] at hS
        refine ⟨fun k => F k ∨ k = nb, by rw [hr]; exact he, ?_, ?_, hon.mono fun k _ hk => hF k hk⟩
        · rw [hr]
          refine ⟨?_, hS, ?_, ?_, hb, _, by rw [sizeM_insert, hab]; exact hsk, by rw [List.map_append, List.map_cons, hA, hB], ?_⟩
          · rintro k (hk | rfl)
            · exact Nat.lt_of_lt_of_le (hm.lt k hk) hon.size
            · exact hsk.foot_lt (.inr (.inr ⟨⟨k, c, hn⟩, by simp, rfl⟩))
          · intro x hx
            rcases List.mem_append.1 hx with hx | hx
            · exact hm.pos x (by rw [← hab]; simp [hx])
            · rcases List.mem_cons.1 hx with rfl | hx
              · exact ⟨by simp; omega, by simp; omega⟩
              · exact hm.pos x (by rw [← hab]; simp [hx])
          · intro x hx
            rcases List.mem_append.1 hx with hx | hx
            · exact hm.ok x (by rw [← hab]; simp [hx])
            · rcases List.mem_cons.1 hx with rfl | hx
              · exact hc
              · exact hm.ok x (by rw [← hab]; simp [hx])
          · rintro k (rfl | rfl | ⟨n, hn, rfl⟩)
            · exact .inl (hF _ (.inl rfl))
            · exact .inl (hF _ (.inr (.inl rfl)))
            · rcases List.mem_append.1 hn with hn | hn
              · exact .inl (hF _ (.inr (.inr ⟨n, by simp [hn], rfl⟩)))
              · rcases List.mem_cons.1 hn with rfl | hn
                · exact .inr rfl
                · exact .inl (hF _ (.inr (.inr ⟨n, by simp [hn], rfl⟩)))
        · rintro k (hk | rfl)
          · exact .inl hk
          · exact .inr hnb
  · exact (put_bad hm0 c hc h).mono (stay 60 (by unfold putRes; rw [if_pos hc]))

theorem get_model {w : World} {a : Nat} {F : Nat → Prop} {M : MM} (hm : MemIs w a F M) (key : ByteArray) (seq : Int) :
    Calls Try.prog 23 #[.pointer (some ⟨a, 0, none⟩), .string key, .int .u64 seq] w (GetPost w (getM M key seq)) := by
  obtain ⟨hb, L, hs, hL, hF⟩ := hm.skip
  have hab := ahead_behind M key seq
  rw [← hab] at hL
  obtain ⟨LA, LB, rfl, hA, hB⟩ := split_nodes hL
  have hh1 : ∀ n ∈ LA ++ LB, 1 ≤ n.h := fun n hn => (hm.pos (n.c, n.h) (by rw [← hab, ← hA, ← hB, ← List.map_append]; exact List.mem_map.2 ⟨n, hn, rfl⟩)).1
  have hA' : ∀ n ∈ LA, lessC n.c key seq < 0 := fun n hn => cellCmp_neg_iff.2 (mem_ahead (x := (n.c, n.h)) (by rw [← hA]; exact List.mem_map.2 ⟨n, hn, rfl⟩))
  have hB' : ∀ n ∈ LB, 0 ≤ lessC n.c key seq := fun n hn => ge_of_not (mem_behind hm.sorted (x := (n.c, n.h)) (by rw [← hB]; exact List.mem_map.2 ⟨n, hn, rfl⟩))
  have hr : getM M key seq = getRes key LB := by
    unfold getM
    rw [← hB]
    cases LB <;> rfl
  rw [hr]
  exact get_spec hs hh1 key seq hA' hB'

end Go.Proofs.Ytbcaiegglbdonaa
