/-
  The table in memory as it lies in the heap: blocks known whole, nodes, their links by levels; plain lemmas on them. No program in sight.
-/
import Derived.WalkKit
import Derived.Lib.Bytealg
import Derived.Lib.Hide
namespace Go.Proofs.Ytbcaiegglbdonaa
open Go.RowKit

/-! ### A block that is known whole -/
def Blk (w : World) (b : Nat) (arr : Array Value) (t : TypeId) : Prop := w.heap[b]? = some (.cells arr t (0, 0))
theorem Blk.cell {w : World} {b : Nat} {arr : Array Value} {t : TypeId} (h : Blk w b arr t) (i : Nat) (v : Value) (hv : arr[i]? = some v) : w.cell? ⟨b, i, none⟩ = some v := by
  unfold Blk at h; simp [World.cell?, h, hv]
theorem Blk.frozen {w : World} {b : Nat} {arr : Array Value} {t : TypeId} (h : Blk w b arr t) (i : Nat) : w.frozen? ⟨b, i, none⟩ = false := by
  unfold Blk at h; simp [World.frozen?, h]
theorem Blk.lt {w : World} {b : Nat} {arr : Array Value} {t : TypeId} (h : Blk w b arr t) : b < w.heap.size := lt_of_block h
theorem Blk.below {w w' : World} {b B : Nat} {arr : Array Value} {t : TypeId} (h : Blk w b arr t) (hb : Below B w w') (hB : b < B) : Blk w' b arr t := (hb.block b hB).trans h
theorem Blk.kept {w w' : World} {b : Nat} {arr : Array Value} {t : TypeId} (h : Blk w b arr t) (hb : Below w.heap.size w w') : Blk w' b arr t := h.below hb h.lt
theorem Blk.setCell {w : World} {b : Nat} {arr : Array Value} {t : TypeId} (h : Blk w b arr t) (i : Nat) (v : Value) : Blk (w.setCell ⟨b, i, none⟩ v) b (arr.setIfInBounds i v) t := by
  unfold Blk at h ⊢
  simp [World.setCell, Array.getElem?_modify, h]
theorem Blk.setCell_ne {w : World} {b b' : Nat} {arr : Array Value} {t : TypeId} (h : Blk w b arr t) (hn : b ≠ b') (i : Nat) (v : Value) : Blk (w.setCell ⟨b', i, none⟩ v) b arr t := by
  unfold Blk at h ⊢
  rw [Below.heap_setCell _ _ _ _ hn]; exact h
theorem Blk.alloc {w : World} {b : Nat} {arr : Array Value} {t : TypeId} (h : Blk w b arr t) (o : Obj) : Blk (w.alloc o) b arr t := (Below.heap_alloc w o b h.lt).trans h
theorem Blk.drew {w : World} {b : Nat} {arr : Array Value} {t : TypeId} (h : Blk w b arr t) : Blk w.drew b arr t := h
theorem Blk.new (w : World) (arr : Array Value) (t : TypeId) : Blk (w.alloc (.cells arr t)) w.heap.size arr t := by
  unfold Blk; show (w.heap.push _)[w.heap.size]? = _; simp

/-! ### What has changed: nothing but blocks of a set, and new ones -/
structure Only (S : Nat → Prop) (w w' : World) : Prop where
  os : w'.os = w.os
  tape : w'.tape = w.tape
  output : w'.output = w.output
  size : w.heap.size ≤ w'.heap.size
  block : ∀ k, k < w.heap.size → ¬ S k → w'.heap[k]? = w.heap[k]?
theorem Only.refl (S : Nat → Prop) (w : World) : Only S w w := ⟨rfl, rfl, rfl, Nat.le_refl _, fun _ _ _ => rfl⟩
theorem Only.trans {S : Nat → Prop} {a b c : World} (h : Only S a b) (k : Only S b c) : Only S a c :=
  ⟨k.os.trans h.os, k.tape.trans h.tape, k.output.trans h.output, Nat.le_trans h.size k.size, fun i hi hs => (k.block i (Nat.lt_of_lt_of_le hi h.size) hs).trans (h.block i hi hs)⟩
theorem Only.mono {S S' : Nat → Prop} {w w' : World} (h : Only S w w') (hs : ∀ k, k < w.heap.size → S k → S' k) : Only S' w w' :=
  ⟨h.os, h.tape, h.output, h.size, fun k hk hn => h.block k hk fun hS => hn (hs k hk hS)⟩
theorem Only.of_below {S : Nat → Prop} {w w' : World} (h : Below w.heap.size w w') : Only S w w' := ⟨h.os, h.tape, h.output, h.size, fun k hk _ => h.block k hk⟩
theorem Only.below {S : Nat → Prop} {w w' : World} {B : Nat} (h : Only S w w') (hB : B ≤ w.heap.size) (hS : ∀ k, S k → B ≤ k) : Below B w w' :=
  ⟨h.os, h.tape, h.output, h.size, fun k hk => h.block k (by omega) fun hs => by have := hS k hs; omega⟩
theorem Only.setCell {S : Nat → Prop} {a w : World} (h : Only S a w) {b : Nat} (hb : S b ∨ a.heap.size ≤ b) (i : Nat) (v : Value) : Only S a (w.setCell ⟨b, i, none⟩ v) :=
  ⟨h.os, h.tape, h.output, by simpa [World.setCell] using h.size, fun k hk hn => by
    rw [Below.heap_setCell _ _ _ _ (by rintro rfl; rcases hb with hb | hb; exact hn hb; exact absurd hk (by simpa using hb))]
    exact h.block k hk hn⟩
theorem Only.alloc {S : Nat → Prop} {a w : World} (h : Only S a w) (o : Obj) : Only S a (w.alloc o) :=
  ⟨h.os, h.tape, h.output, by simp only [World.size_alloc]; have := h.size; omega, fun k hk hn => (Below.heap_alloc w o k (by have := h.size; omega)).trans (h.block k hk hn)⟩
theorem Only.drew {S : Nat → Prop} {a w : World} (h : Only S a w) : Only S a w.drew := ⟨h.os, h.tape, h.output, h.size, h.block⟩
theorem Blk.only {w w' : World} {S : Nat → Prop} {b : Nat} {arr : Array Value} {t : TypeId} (h : Blk w b arr t) (ho : Only S w w') (hn : ¬ S b) : Blk w' b arr t := (ho.block b h.lt hn).trans h

/-! ### Cells, nodes -/
structure Cell where
  key : ByteArray
  seq : Int
  val : ByteArray
  gone : Bool
def Cell.zero : Cell := ⟨ByteArray.empty, 0, ByteArray.empty, false⟩
structure Node where
  b : Nat
  c : Cell
  h : Nat
def arr12 (f : Nat → Value) : Array Value := #[f 0, f 1, f 2, f 3, f 4, f 5, f 6, f 7, f 8, f 9, f 10, f 11]
def nodeArr (c : Cell) (f : Nat → Value) : Array Value := #[.string c.key, .int .u64 c.seq, .string c.val, .bool c.gone, f 0, f 1, f 2, f 3, f 4, f 5, f 6, f 7, f 8, f 9, f 10, f 11]
def memArr (hb : Nat) (f : Nat → Int) (sz : Int) : Array Value :=
  #[.pointer (some ⟨hb, 0, none⟩), .int .i64 (f 0), .int .i64 (f 1), .int .i64 (f 2), .int .i64 (f 3), .int .i64 (f 4), .int .i64 (f 5), .int .i64 (f 6), .int .i64 (f 7), .int .i64 (f 8), .int .i64 (f 9), .int .i64 (f 10), .int .i64 (f 11), .int .i64 sz]
def put1 {α : Type} (f : Nat → α) (i : Nat) (v : α) : Nat → α := fun l => if l = i then v else f l
theorem lt12 {i : Nat} (h : i < 12) : i = 0 ∨ i = 1 ∨ i = 2 ∨ i = 3 ∨ i = 4 ∨ i = 5 ∨ i = 6 ∨ i = 7 ∨ i = 8 ∨ i = 9 ∨ i = 10 ∨ i = 11 := by omega
theorem arr12_get (f : Nat → Value) {i : Nat} (h : i < 12) : (arr12 f)[i]? = some (f i) := by
  rcases lt12 h with rfl | rfl | rfl | rfl | rfl | rfl | rfl | rfl | rfl | rfl | rfl | rfl <;> rfl
theorem arr12_set (f : Nat → Value) {i : Nat} (h : i < 12) (v : Value) : (arr12 f).setIfInBounds i v = arr12 (put1 f i v) := by
  rcases lt12 h with rfl | rfl | rfl | rfl | rfl | rfl | rfl | rfl | rfl | rfl | rfl | rfl <;> rfl
theorem nodeArr_get (c : Cell) (f : Nat → Value) {i : Nat} (h : i < 12) : (nodeArr c f)[4 + i]? = some (f i) := by
  rcases lt12 h with rfl | rfl | rfl | rfl | rfl | rfl | rfl | rfl | rfl | rfl | rfl | rfl <;> rfl
theorem nodeArr_set (c : Cell) (f : Nat → Value) {i : Nat} (h : i < 12) (v : Value) : (nodeArr c f).setIfInBounds (4 + i) v = nodeArr c (put1 f i v) := by
  rcases lt12 h with rfl | rfl | rfl | rfl | rfl | rfl | rfl | rfl | rfl | rfl | rfl | rfl <;> rfl
theorem memArr_get (hb : Nat) (f : Nat → Int) (sz : Int) {i : Nat} (h : i < 12) : (memArr hb f sz)[1 + i]? = some (.int .i64 (f i)) := by
  rcases lt12 h with rfl | rfl | rfl | rfl | rfl | rfl | rfl | rfl | rfl | rfl | rfl | rfl <;> rfl
theorem memArr_set (hb : Nat) (f : Nat → Int) (sz : Int) {i : Nat} (h : i < 12) (v : Int) : (memArr hb f sz).setIfInBounds (1 + i) (.int .i64 v) = memArr hb (put1 f i v) sz := by
  rcases lt12 h with rfl | rfl | rfl | rfl | rfl | rfl | rfl | rfl | rfl | rfl | rfl | rfl <;> rfl
theorem memArr_size (hb : Nat) (f : Nat → Int) (sz v : Int) : (memArr hb f sz).setIfInBounds 13 (.int .i64 v) = memArr hb f v := rfl
theorem arr12_congr {f g : Nat → Value} (h : ∀ i, i < 12 → f i = g i) : arr12 f = arr12 g := by simp [arr12, h]
theorem nodeArr_congr {c : Cell} {f g : Nat → Value} (h : ∀ i, i < 12 → f i = g i) : nodeArr c f = nodeArr c g := by simp [nodeArr, h]
theorem memArr_congr {hb : Nat} {f g : Nat → Int} {sz : Int} (h : ∀ i, i < 12 → f i = g i) : memArr hb f sz = memArr hb g sz := by simp [memArr, h]

/-! ### Links -/
def nxt (l : Nat) (L : List Node) : Option Nat := (L.find? (fun n => decide (l < n.h))).map (·.b)
def ptrv (o : Option Nat) : Value := .pointer (o.map fun b => ⟨b, 0, none⟩)
def links (h : Nat) (L : List Node) (l : Nat) : Value := if l < h then ptrv (nxt l L) else .pointer none
def tall (l : Nat) (L : List Node) : Int := ((L.filter (fun n => decide (l < n.h))).length : Int)
def NodesOK (w : World) : List Node → Prop
  | [] => True
  | n :: L => Blk w n.b (nodeArr n.c (links n.h L)) 105 ∧ NodesOK w L
structure Skip (w : World) (a hb : Nat) (L : List Node) (sz : Int) : Prop where
  mem : Blk w a (memArr hb (fun l => tall l L) sz) 60
  head : Blk w hb (nodeArr Cell.zero (links 12 L)) 105
  nodes : NodesOK w L
  nodup : (a :: hb :: L.map (·.b)).Nodup
  hts : ∀ n ∈ L, n.h ≤ 12
/-- The blocks of a table. -/
def foot (a hb : Nat) (L : List Node) (k : Nat) : Prop := k = a ∨ k = hb ∨ ∃ n ∈ L, n.b = k

theorem NodesOK.at_ {w : World} {A : List Node} {n : Node} {B : List Node} (h : NodesOK w (A ++ n :: B)) : Blk w n.b (nodeArr n.c (links n.h B)) 105 := by
  induction A with
  | nil => exact h.1
  | cons x A ih => exact ih h.2
theorem NodesOK.mem {w : World} {L : List Node} (h : NodesOK w L) {n : Node} (hn : n ∈ L) : ∃ f, Blk w n.b (nodeArr n.c f) 105 := by
  obtain ⟨A, B, rfl⟩ := List.append_of_mem hn
  exact ⟨_, h.at_⟩
theorem NodesOK.imp {w w' : World} {L : List Node} (h : NodesOK w L) (hk : ∀ n ∈ L, ∀ arr, Blk w n.b arr 105 → Blk w' n.b arr 105) : NodesOK w' L := by
  induction L with
  | nil => trivial
  | cons n L ih => exact ⟨hk n (by simp) _ h.1, ih h.2 fun m hm => hk m (by simp [hm])⟩
theorem Skip.only {w w' : World} {a hb : Nat} {L : List Node} {sz : Int} (h : Skip w a hb L sz) {S : Nat → Prop} (ho : Only S w w') (hS : ∀ k, foot a hb L k → ¬ S k) : Skip w' a hb L sz :=
  ⟨h.mem.only ho (hS _ (.inl rfl)), h.head.only ho (hS _ (.inr (.inl rfl))), h.nodes.imp fun n hn _ hB => hB.only ho (hS _ (.inr (.inr ⟨n, hn, rfl⟩))), h.nodup, h.hts⟩
theorem Skip.kept {w w' : World} {a hb : Nat} {L : List Node} {sz : Int} (h : Skip w a hb L sz) (hb' : Below w.heap.size w w') : Skip w' a hb L sz :=
  ⟨h.mem.kept hb', h.head.kept hb', h.nodes.imp fun _ _ _ hB => hB.kept hb', h.nodup, h.hts⟩
theorem Skip.foot_lt {w : World} {a hb : Nat} {L : List Node} {sz : Int} (h : Skip w a hb L sz) {k : Nat} (hk : foot a hb L k) : k < w.heap.size := by
  rcases hk with rfl | rfl | ⟨n, hn, rfl⟩
  · exact h.mem.lt
  · exact h.head.lt
  · obtain ⟨f, hf⟩ := h.nodes.mem hn; exact hf.lt

theorem nxt_append_none {l : Nat} {A B : List Node} (h : ∀ m ∈ A, ¬ l < m.h) : nxt l (A ++ B) = nxt l B := by
  unfold nxt
  rw [List.find?_append, List.find?_eq_none.2 (by simpa using h)]; rfl
theorem nxt_cases (l : Nat) (suf B : List Node) :
    (∃ pre n suf', suf = pre ++ n :: suf' ∧ l < n.h ∧ (∀ m ∈ pre, ¬ l < m.h) ∧ nxt l (suf ++ B) = some n.b) ∨ ((∀ m ∈ suf, ¬ l < m.h) ∧ nxt l (suf ++ B) = nxt l B) := by
  by_cases h : ∀ m ∈ suf, ¬ l < m.h
  · exact .inr ⟨h, nxt_append_none h⟩
  · refine .inl ?_
    induction suf with
    | nil => exact absurd (fun m hm => by cases hm) h
    | cons x suf ih =>
      by_cases hx : l < x.h
      · exact ⟨[], x, suf, rfl, hx, (fun m hm => by cases hm), by simp [nxt, hx]⟩
      · obtain ⟨pre, n, suf', e, h1, h2, h3⟩ := ih (fun hs => h (fun m hm => by rcases List.mem_cons.1 hm with rfl | hm; exact hx; exact hs m hm))
        refine ⟨x :: pre, n, suf', by simp [e], h1, (fun m hm => by rcases List.mem_cons.1 hm with rfl | hm; exact hx; exact h2 m hm), ?_⟩
        rw [← h3]; simp [nxt, hx]
theorem nxt_none_or (l : Nat) (B : List Node) : nxt l B = none ∨ ∃ n ∈ B, l < n.h ∧ nxt l B = some n.b := by
  rcases nxt_cases l B [] with ⟨pre, n, suf', rfl, h1, _, h3⟩ | ⟨_, h⟩
  · exact .inr ⟨n, by simp, h1, by simpa using h3⟩
  · left; simpa [nxt] using h

/-- A place on level l: the head, or a node that stands there; what is behind it. -/
def Stands (l hb : Nat) (A : List Node) (p : Nat) (suf : List Node) : Prop := (p = hb ∧ suf = A) ∨ ∃ pre n, A = pre ++ n :: suf ∧ p = n.b ∧ l < n.h
def lastAt (l hb : Nat) (A : List Node) : Nat := match A.reverse.find? (fun n => decide (l < n.h)) with | some n => n.b | none => hb
theorem Stands.last {l hb : Nat} {A : List Node} {p : Nat} {suf : List Node} (h : Stands l hb A p suf) (hs : ∀ m ∈ suf, ¬ l < m.h) : p = lastAt l hb A := by
  unfold lastAt
  rcases h with ⟨rfl, rfl⟩ | ⟨pre, n, rfl, rfl, hn⟩
  · rw [List.find?_eq_none.2 (by simpa using hs)]
  · rw [List.reverse_append, List.reverse_cons, List.append_assoc, List.find?_append, List.find?_eq_none.2 (by simpa using hs)]
    simp [hn]
theorem Stands.step {l hb : Nat} {A : List Node} {p : Nat} {pre : List Node} {n : Node} {suf : List Node} (h : Stands l hb A p (pre ++ n :: suf)) (hn : l < n.h) : Stands l hb A n.b suf := by
  rcases h with ⟨_, hA⟩ | ⟨pre', m, rfl, _, _⟩
  · exact .inr ⟨pre, n, hA.symm, rfl, hn⟩
  · exact .inr ⟨pre' ++ m :: pre, n, by simp, rfl, hn⟩
theorem Stands.mem {l hb : Nat} {A : List Node} {p : Nat} {pre : List Node} {n : Node} {suf : List Node} (h : Stands l hb A p (pre ++ n :: suf)) : n ∈ A := by
  rcases h with ⟨_, rfl⟩ | ⟨pre', m, rfl, _, _⟩ <;> simp
theorem lastAt_stands {k l hb : Nat} {A : List Node} (hl : l ≤ k) : ∃ suf, Stands l hb A (lastAt k hb A) suf := by
  unfold lastAt
  cases h : A.reverse.find? (fun n => decide (k < n.h)) with
  | none => exact ⟨A, .inl ⟨rfl, rfl⟩⟩
  | some n =>
    have h1 := List.find?_some h
    have h2 : n ∈ A := by simpa using List.mem_of_find?_eq_some h
    obtain ⟨pre, suf, rfl⟩ := List.append_of_mem h2
    exact ⟨suf, .inr ⟨pre, n, rfl, rfl, by have : k < n.h := by simpa using h1
                                           omega⟩⟩
theorem lastAt_top {hb : Nat} {A : List Node} (h : ∀ n ∈ A, n.h ≤ 12) : lastAt 12 hb A = hb := by
  unfold lastAt
  rw [List.find?_eq_none.2 (fun n hn => by have := h n (by simpa using hn); simp; omega)]
theorem Stands.blk {w : World} {a hb : Nat} {A B : List Node} {sz : Int} (hs : Skip w a hb (A ++ B) sz) {l p : Nat} (hl : l < 12) {suf : List Node} (h : Stands l hb A p suf) :
    ∃ c f, Blk w p (nodeArr c f) 105 ∧ f l = ptrv (nxt l (suf ++ B)) := by
  rcases h with ⟨rfl, rfl⟩ | ⟨pre, n, rfl, rfl, hn⟩
  · exact ⟨_, _, hs.head, by simp [links, hl]⟩
  · have h := hs.nodes
    rw [List.append_assoc, List.cons_append] at h
    exact ⟨_, _, h.at_, by simp [links, hn]⟩
def outv (k hb : Nat) (A : List Node) (l : Nat) : Value := if k ≤ l then .pointer (some ⟨lastAt l hb A, 0, none⟩) else .pointer none
theorem outv_step (k hb : Nat) (A : List Node) : arr12 (put1 (outv (k + 1) hb A) k (.pointer (some ⟨lastAt k hb A, 0, none⟩))) = arr12 (outv k hb A) :=
  arr12_congr fun i _ => by
    unfold put1 outv
    by_cases h : i = k
    · subst h; simp
    · by_cases h' : k + 1 ≤ i
      · rw [if_neg h, if_pos h', if_pos (by omega)]
      · rw [if_neg h, if_neg h', if_neg (by omega)]

end Go.Proofs.Ytbcaiegglbdonaa
