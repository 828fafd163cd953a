/-
  A node is linked one level higher: the plain part of mem.Put.
-/
import Derived.Test.YtbcaiegglbdonaaMemGet
namespace Go.Proofs.Ytbcaiegglbdonaa
open Go.RowKit

theorem nxt_cons (l : Nat) (n : Node) (L : List Node) : nxt l (n :: L) = if l < n.h then some n.b else nxt l L := by
  by_cases h : l < n.h <;> simp [nxt, h]
theorem links_zero (A : List Node) (nb : Nat) (c : Cell) (B : List Node) (h l : Nat) : links h (A ++ ⟨nb, c, 0⟩ :: B) l = links h (A ++ B) l := by
  unfold links
  congr 2
  induction A with
  | nil => simp [nxt_cons]
  | cons x A ih => simp only [List.cons_append, nxt_cons, ih]
theorem tall_zero (A : List Node) (nb : Nat) (c : Cell) (B : List Node) (l : Nat) : tall l (A ++ ⟨nb, c, 0⟩ :: B) = tall l (A ++ B) := by
  simp [tall, List.filter_append]
theorem nxt_raise (l i nb : Nat) (c : Cell) (A B : List Node) :
    nxt l (A ++ ⟨nb, c, i + 1⟩ :: B) = if l = i ∧ ∀ m ∈ A, ¬ i < m.h then some nb else nxt l (A ++ ⟨nb, c, i⟩ :: B) := by
  induction A with
  | nil =>
    simp only [List.nil_append, nxt_cons]
    by_cases h : l = i
    · subst h; simp
    · rw [if_neg (show ¬ (l = i ∧ _) from fun h' => h h'.1)]
      by_cases h' : l < i
      · rw [if_pos (by omega), if_pos h']
      · rw [if_neg (by omega), if_neg h']
  | cons x A ih =>
    simp only [List.cons_append, nxt_cons, ih]
    by_cases hx : l < x.h
    · rw [if_pos hx, if_pos hx, if_neg]
      rintro ⟨rfl, h⟩
      exact h x (by simp) hx
    · rw [if_neg hx, if_neg hx]
      by_cases h : l = i
      · subst h
        have hx' : x.h ≤ l := by omega
        simp [hx']
      · rw [if_neg (show ¬ (l = i ∧ _) from fun h' => h h'.1), if_neg (show ¬ (l = i ∧ _) from fun h' => h h'.1)]
theorem links_raise_no (h i nb : Nat) (c : Cell) (A B : List Node) (hn : ¬ i < h ∨ ∃ m ∈ A, i < m.h) (l : Nat) :
    links h (A ++ ⟨nb, c, i + 1⟩ :: B) l = links h (A ++ ⟨nb, c, i⟩ :: B) l := by
  unfold links
  by_cases hl : l < h
  · rw [if_pos hl, if_pos hl, nxt_raise, if_neg]
    rintro ⟨rfl, hA⟩
    rcases hn with hn | ⟨m, hm, hi⟩
    · exact hn hl
    · exact hA m hm hi
  · rw [if_neg hl, if_neg hl]
theorem links_raise_yes (h i nb : Nat) (c : Cell) (A B : List Node) (hi : i < h) (hA : ∀ m ∈ A, ¬ i < m.h) (l : Nat) :
    put1 (links h (A ++ ⟨nb, c, i⟩ :: B)) i (.pointer (some ⟨nb, 0, none⟩)) l = links h (A ++ ⟨nb, c, i + 1⟩ :: B) l := by
  unfold put1 links
  by_cases hl : l = i
  · subst hl
    rw [if_pos rfl, if_pos hi, nxt_raise, if_pos ⟨rfl, hA⟩]; rfl
  · rw [if_neg hl, nxt_raise, if_neg (show ¬ (l = i ∧ _) from fun h' => hl h'.1)]
theorem tall_raise (l i nb : Nat) (c : Cell) (A B : List Node) :
    put1 (fun l => tall l (A ++ ⟨nb, c, i⟩ :: B)) i (tall i (A ++ ⟨nb, c, i⟩ :: B) + 1) l = tall l (A ++ ⟨nb, c, i + 1⟩ :: B) := by
  unfold put1
  by_cases hl : l = i
  · subst hl
    simp [tall, List.filter_append]; omega
  · rw [if_neg hl]
    by_cases h' : l < i
    · simp [tall, List.filter_append, h', show l < i + 1 by omega]
    · simp [tall, List.filter_append, h', show ¬ l < i + 1 by omega]

theorem nodes_raise {w w' : World} {i nb : Nat} {c : Cell} {B : List Node} (hB : NodesOK w' B) (hn : Blk w' nb (nodeArr c (links (i + 1) B)) 105) :
    ∀ A : List Node, (∀ X m Y, A = X ++ m :: Y → Blk w m.b (nodeArr m.c (links m.h (Y ++ ⟨nb, c, i⟩ :: B))) 105 → Blk w' m.b (nodeArr m.c (links m.h (Y ++ ⟨nb, c, i + 1⟩ :: B))) 105) →
      NodesOK w (A ++ ⟨nb, c, i⟩ :: B) → NodesOK w' (A ++ ⟨nb, c, i + 1⟩ :: B) := by
  intro A
  induction A with
  | nil => intro _ _; exact ⟨hn, hB⟩
  | cons x A ih =>
    intro hk h
    exact ⟨hk [] x A rfl h.1, ih (fun X m Y e => hk (x :: X) m Y (by simp [e])) h.2⟩

theorem NodesOK.tail {w : World} {A : List Node} {n : Node} {B : List Node} (h : NodesOK w (A ++ n :: B)) : NodesOK w B := by
  induction A with
  | nil => exact h.2
  | cons x A ih => exact ih h.2

theorem Skip.add_zero {w w' : World} {a hb : Nat} {A B : List Node} {sz : Int} (hs : Skip w a hb (A ++ B) sz) (hb' : Below w.heap.size w w') {nb : Nat} (hnb : w.heap.size ≤ nb) (c : Cell)
    (hn : Blk w' nb (nodeArr c fun _ => .pointer none) 105) : Skip w' a hb (A ++ ⟨nb, c, 0⟩ :: B) sz := by
  refine ⟨?_, ?_, ?_, ?_, ?_⟩
  · rw [memArr_congr (g := fun l => tall l (A ++ B)) fun i _ => tall_zero ..]; exact hs.mem.kept hb'
  · rw [nodeArr_congr fun i _ => links_zero A nb c B 12 i]; exact hs.head.kept hb'
  · have h : ∀ A : List Node, NodesOK w (A ++ B) → NodesOK w' (A ++ ⟨nb, c, 0⟩ :: B) := by
      intro A
      induction A with
      | nil => intro h; exact ⟨by rw [nodeArr_congr (g := fun _ => .pointer none) fun i _ => by simp [links]]; exact hn, h.imp fun _ _ _ hB => hB.kept hb'⟩
      | cons x A ih => intro h; exact ⟨by show Blk w' x.b (nodeArr x.c (links x.h (A ++ ⟨nb, c, 0⟩ :: B))) 105; rw [nodeArr_congr fun i _ => links_zero A nb c B x.h i]; exact h.1.kept hb', ih h.2⟩
    exact h A hs.nodes
  · have h := hs.nodup
    have hlt : ∀ k, foot a hb (A ++ B) k → k ≠ nb := fun k hk => by have := hs.foot_lt hk; omega
    have h' : (nb :: (a :: hb :: (A ++ B).map (·.b))).Nodup := List.nodup_cons.2 ⟨fun hm => by
      simp only [List.mem_cons] at hm
      rcases hm with rfl | rfl | hm
      · exact hlt _ (.inl rfl) rfl
      · exact hlt _ (.inr (.inl rfl)) rfl
      · obtain ⟨n, hn', rfl⟩ := List.mem_map.1 hm
        exact hlt _ (.inr (.inr ⟨n, hn', rfl⟩)) rfl, h⟩
    refine (List.Perm.nodup_iff ?_).1 h'
    simp only [List.map_append, List.map_cons]
    exact ((List.Perm.swap a nb _).trans ((List.Perm.swap hb nb _).cons a)).trans ((List.perm_middle (l₁ := A.map (·.b))).symm.cons hb |>.cons a)
  · intro n hn
    rcases List.mem_append.1 hn with h | h
    · exact hs.hts n (by simp [h])
    · rcases List.mem_cons.1 h with rfl | h
      · simp
      · exact hs.hts n (by simp [h])

theorem lastAt_foot (l hb : Nat) (A : List Node) : lastAt l hb A = hb ∨ ∃ n ∈ A, n.b = lastAt l hb A := by
  obtain ⟨suf, h | ⟨pre, n, rfl, hp, _⟩, _⟩ := lastAt_last l hb A
  · exact .inl h.1
  · exact .inr ⟨n, by simp, hp.symm⟩

theorem Skip.ne {w : World} {a hb : Nat} {A B : List Node} {nb : Nat} {c : Cell} {i : Nat} {sz : Int} (hs : Skip w a hb (A ++ ⟨nb, c, i⟩ :: B) sz) (l : Nat) :
    lastAt l hb A ≠ nb ∧ lastAt l hb A ≠ a ∧ a ≠ nb ∧ hb ≠ nb ∧ hb ≠ a := by
  have h := hs.nodup
  simp only [List.map_append, List.map_cons, List.nodup_cons, List.mem_cons, List.mem_append, List.mem_map, List.nodup_append] at h
  obtain ⟨h1, h2, h3, h4, h5⟩ := h
  have e1 : a ≠ nb := fun e => h1 (.inr (.inr (.inl e)))
  have e2 : hb ≠ nb := fun e => h2 (.inr (.inl e))
  have e3 : hb ≠ a := fun e => h1 (.inl e.symm)
  refine ⟨?_, ?_, e1, e2, e3⟩
  · rcases lastAt_foot l hb A with h | ⟨n, hn, h⟩
    · rw [h]; exact e2
    · rw [← h]; intro e; exact h5 _ ⟨n, hn, rfl⟩ nb (.inl rfl) e
  · rcases lastAt_foot l hb A with h | ⟨n, hn, h⟩
    · rw [h]; exact e3
    · rw [← h]; intro e; exact h1 (.inr (.inl ⟨n, hn, e⟩))

theorem split_unique : ∀ {X : List Node} {A : List Node} {m : Node} {Y pre : List Node} {n : Node} {suf : List Node}, (A.map (·.b)).Nodup → A = X ++ m :: Y → A = pre ++ n :: suf → m.b = n.b → X = pre ∧ m = n ∧ Y = suf := by
  intro X
  induction X with
  | nil =>
    intro A m Y pre n suf hnd e1 e2 hmn
    cases pre with
    | nil =>
      rw [e1] at e2
      injection e2 with h1 h2
      exact ⟨rfl, h1, h2⟩
    | cons p pre =>
      exfalso
      rw [e1] at e2 hnd
      injection e2 with h1 h2
      subst h1
      rw [h2] at hnd
      simp only [List.nil_append, List.map_cons, List.nodup_cons] at hnd
      exact hnd.1 (List.mem_map.2 ⟨n, by simp, hmn.symm⟩)
  | cons x X ih =>
    intro A m Y pre n suf hnd e1 e2 hmn
    cases pre with
    | nil =>
      exfalso
      rw [e1] at e2 hnd
      injection e2 with h1 h2
      subst h1
      simp only [List.cons_append, List.map_cons, List.map_append, List.nodup_cons, List.mem_append, List.mem_cons] at hnd
      exact hnd.1 (.inr (.inl hmn.symm))
    | cons p pre =>
      rw [e1] at e2 hnd
      injection e2 with h1 h2
      subst h1
      simp only [List.cons_append, List.map_cons, List.nodup_cons] at hnd
      obtain ⟨rfl, h4, h5⟩ := ih hnd.2 rfl h2 hmn
      exact ⟨rfl, h4, h5⟩
theorem mem_after {i : Nat} : ∀ {X : List Node} {m : Node} {Y pre : List Node} {n : Node} {suf : List Node}, X ++ m :: Y = pre ++ n :: suf → i < m.h → (∀ m' ∈ suf, ¬ i < m'.h) → m ≠ n → n ∈ Y := by
  intro X
  induction X with
  | nil =>
    intro m Y pre n suf e hi hs hne
    cases pre with
    | nil => injection e with h1 h2; exact absurd h1 hne
    | cons p pre => injection e with h1 h2; rw [h2]; simp
  | cons x X ih =>
    intro m Y pre n suf e hi hs hne
    cases pre with
    | nil =>
      injection e with h1 h2
      exact absurd hi (hs m (by rw [← h2]; simp))
    | cons p pre =>
      injection e with h1 h2
      exact ih h2 hi hs hne

/-- One level higher: three stores. -/
theorem Skip.raise {w : World} {a hb : Nat} {A B : List Node} {nb : Nat} {c : Cell} {i : Nat} {sz : Int} (hs : Skip w a hb (A ++ ⟨nb, c, i⟩ :: B) sz) (hi : i < 12) :
    Skip (((w.setCell ⟨nb, 4 + i, none⟩ (ptrv (nxt i B))).setCell ⟨lastAt i hb A, 4 + i, none⟩ (.pointer (some ⟨nb, 0, none⟩))).setCell ⟨a, 1 + i, none⟩ (.int .i64 (tall i (A ++ ⟨nb, c, i⟩ :: B) + 1)))
      a hb (A ++ ⟨nb, c, i + 1⟩ :: B) sz := by
  obtain ⟨n1, n2, n3, n4, n5⟩ := hs.ne i
  have nd := hs.nodup
  simp only [List.map_append, List.map_cons, List.nodup_cons, List.mem_cons, List.mem_append, List.mem_map, List.nodup_append] at nd
  obtain ⟨d1, d2, d3, ⟨d4, d5⟩, d6⟩ := nd
  have hne : ∀ m ∈ A, m.b ≠ nb ∧ m.b ≠ a ∧ m.b ≠ hb := fun m hm => ⟨fun e => d6 _ ⟨m, hm, rfl⟩ nb (.inl rfl) e, fun e => d1 (.inr (.inl ⟨m, hm, e⟩)), fun e => d2 (.inl ⟨m, hm, e⟩)⟩
  have hneB : ∀ m ∈ B, m.b ≠ nb ∧ m.b ≠ a ∧ m.b ≠ lastAt i hb A := fun m hm => ⟨fun e => d4 ⟨m, hm, e⟩, fun e => d1 (.inr (.inr (.inr ⟨m, hm, e⟩))), fun e => by
    rcases lastAt_foot i hb A with h | ⟨n, hn, h⟩
    · exact d2 (.inr (.inr ⟨m, hm, e.trans h⟩))
    · exact d6 n.b ⟨n, hn, rfl⟩ m.b (.inr ⟨m, hm, rfl⟩) (h.trans e.symm)⟩
  have other : ∀ {b : Nat} {arr : Array Value}, b ≠ nb → b ≠ a → b ≠ lastAt i hb A → Blk w b arr 105 →
      Blk (((w.setCell ⟨nb, 4 + i, none⟩ (ptrv (nxt i B))).setCell ⟨lastAt i hb A, 4 + i, none⟩ (.pointer (some ⟨nb, 0, none⟩))).setCell ⟨a, 1 + i, none⟩ (.int .i64 (tall i (A ++ ⟨nb, c, i⟩ :: B) + 1))) b arr 105 :=
    fun h1 h2 h3 h => ((h.setCell_ne h1 _ _).setCell_ne h3 _ _).setCell_ne h2 _ _
  have self : ∀ {h : Nat} {c' : Cell} {Y : List Node}, i < h → (∀ m ∈ Y, ¬ i < m.h) → Blk w (lastAt i hb A) (nodeArr c' (links h (Y ++ ⟨nb, c, i⟩ :: B))) 105 →
      Blk (((w.setCell ⟨nb, 4 + i, none⟩ (ptrv (nxt i B))).setCell ⟨lastAt i hb A, 4 + i, none⟩ (.pointer (some ⟨nb, 0, none⟩))).setCell ⟨a, 1 + i, none⟩ (.int .i64 (tall i (A ++ ⟨nb, c, i⟩ :: B) + 1))) (lastAt i hb A) (nodeArr c' (links h (Y ++ ⟨nb, c, i + 1⟩ :: B))) 105 := by
    intro h c' Y hh hY hblk
    have := ((hblk.setCell_ne n1 (4 + i) (ptrv (nxt i B))).setCell (4 + i) (.pointer (some ⟨nb, 0, none⟩))).setCell_ne n2 (1 + i) (.int .i64 (tall i (A ++ ⟨nb, c, i⟩ :: B) + 1))
    rw [nodeArr_set _ _ hi, nodeArr_congr fun l _ => links_raise_yes h i nb c Y B hh hY l] at this
    exact this
  obtain ⟨suf, hst, hno⟩ := lastAt_last i hb A
  refine ⟨?_, ?_, ?_, ?_, ?_⟩
  · have := ((hs.mem.setCell_ne n3 (4 + i) (ptrv (nxt i B))).setCell_ne (Ne.symm n2) (4 + i) (.pointer (some ⟨nb, 0, none⟩))).setCell (1 + i) (.int .i64 (tall i (A ++ ⟨nb, c, i⟩ :: B) + 1))
    rw [memArr_set _ _ _ hi, memArr_congr fun l _ => tall_raise l i nb c A B] at this
    exact this
  · rcases hst with ⟨hp, rfl⟩ | ⟨pre, n, rfl, hp, hn⟩
    · have := self (h := 12) (c' := Cell.zero) (Y := suf) hi hno (by rw [hp]; exact hs.head)
      rw [hp] at this ⊢
      exact this
    · rw [nodeArr_congr fun l _ => links_raise_no 12 i nb c _ B (.inr ⟨n, by simp, hn⟩) l]
      exact other n4 n5 (by rw [hp]; exact fun e => (hne n (by simp)).2.2 e.symm) hs.head
  · refine nodes_raise (w := w) ?_ ?_ A ?_ hs.nodes
    · exact (hs.nodes.tail).imp fun m hm arr h => other (hneB m hm).1 (hneB m hm).2.1 (hneB m hm).2.2 h
    · have := ((hs.nodes.at_.setCell (4 + i) (ptrv (nxt i B))).setCell_ne (Ne.symm n1) (4 + i) (.pointer (some ⟨nb, 0, none⟩))).setCell_ne (Ne.symm n3) (1 + i) (.int .i64 (tall i (A ++ ⟨nb, c, i⟩ :: B) + 1))
      rw [nodeArr_set _ _ hi, nodeArr_congr (g := links (i + 1) B) fun l _ => by
        unfold put1 links
        by_cases hl : l = i
        · subst hl; rw [if_pos rfl, if_pos (by omega)]
        · rw [if_neg hl]
          by_cases h' : l < i
          · rw [if_pos h', if_pos (by omega)]
          · rw [if_neg h', if_neg (by omega)]] at this
      exact this
    · intro X m Y e hm
      have hmA : m ∈ A := by rw [e]; simp
      rcases hst with ⟨hp, hs'⟩ | ⟨pre, n, e', hp, hn⟩
      · have hm' : ¬ i < m.h := hno m (by rw [hs']; exact hmA)
        rw [nodeArr_congr fun l _ => links_raise_no m.h i nb c Y B (.inl hm') l]
        exact other (hne m hmA).1 (hne m hmA).2.1 (by rw [hp]; exact (hne m hmA).2.2) hm
      · by_cases hmp : m.b = lastAt i hb A
        · -- it is the last one
          have hlen : X = pre ∧ m = n ∧ Y = suf := by
            have hnd : (A.map (·.b)).Nodup := d3
            exact split_unique hnd e e' (hmp.trans hp)
          obtain ⟨rfl, rfl, rfl⟩ := hlen
          rw [hmp] at hm ⊢
          exact self hn hno hm
        · have hcase : ¬ i < m.h ∨ ∃ m' ∈ Y, i < m'.h := by
            by_cases hih : i < m.h
            · right
              refine ⟨n, ?_, hn⟩
              have h1 : X ++ m :: Y = pre ++ n :: suf := e.symm.trans e'
              exact mem_after h1 hih hno (fun e => hmp (by rw [e, hp]))
            · exact .inl hih
          rw [nodeArr_congr fun l _ => links_raise_no m.h i nb c Y B hcase l]
          exact other (hne m hmA).1 (hne m hmA).2.1 hmp hm
  · have h := hs.nodup
    simpa using h
  · intro n hn
    rcases List.mem_append.1 hn with h | h
    · exact hs.hts n (by simp [h])
    · rcases List.mem_cons.1 h with rfl | h
      · simp; omega
      · exact hs.hts n (by simp [h])

end Go.Proofs.Ytbcaiegglbdonaa
