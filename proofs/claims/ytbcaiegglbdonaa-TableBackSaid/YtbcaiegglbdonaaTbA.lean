/-
  Texts of this seat, part 1: Ord, Leaf, MemRep, Ahead, MemGet, MemRaise, MemPut, MemPut2, MemModel, MemLevels, MemAwake.
-/
import Derived.Lib.Bytealg
import Derived.Lib.Strings
import Derived.Test.YtbcaiegglbdonaaRows
import Derived.Lib.Slices
import Derived.Lib.Walk
import Derived.Lib.Hide
import Derived.WalkKit
import Derived.StillTailTactics
import Derived.Deep.RegionHeld3
import Derived.Deep.QuietTactic
import Derived.BigQuiet
import Derived.WalkSpells
import Derived.WalkLawsBesides
import Derived.Deep.LoopGhost
import Derived.Deep.DeepMust
/-
  The order of strings and of cells. Plain.
-/
namespace Go.Proofs.Ytbcaiegglbdonaa

theorem str_beq {a b : ByteArray} : (a.toList == b.toList) = true ↔ a = b := by
  rw [beq_iff_eq, Lib.toList_data, Lib.toList_data]
  constructor
  · intro h
    cases a; cases b
    simp only [ByteArray.mk.injEq]
    exact Array.toList_inj.1 h
  · rintro rfl; rfl
theorem str_beq_false {a b : ByteArray} : (a.toList == b.toList) = false ↔ a ≠ b := by
  rw [Bool.eq_false_iff, Ne, str_beq]
theorem str_ext {a b : ByteArray} (h : a.data.toList = b.data.toList) : a = b := by
  cases a; cases b
  simp only [ByteArray.mk.injEq]
  exact Array.toList_inj.1 h
theorem toList_nil {a : ByteArray} : a.toList = [] ↔ a = ByteArray.empty := by
  rw [Lib.toList_data]
  constructor
  · intro h; exact str_ext h
  · rintro rfl; rfl

/-- Strings in order. -/
def SLt (a b : ByteArray) : Prop := Op.bytesLess a.data.toList b.data.toList = true
instance (a b : ByteArray) : Decidable (SLt a b) := by unfold SLt; infer_instance
theorem less_irrefl (a : List UInt8) : Op.bytesLess a a = false := by
  induction a with
  | nil => rfl
  | cons x a ih => simp [Op.bytesLess, ih]
theorem less_trans : ∀ {a b c : List UInt8}, Op.bytesLess a b = true → Op.bytesLess b c = true → Op.bytesLess a c = true := by
  intro a
  induction a with
  | nil => intro b c h1 h2; cases b with
    | nil => simp [Op.bytesLess] at h1
    | cons y b => cases c with
      | nil => simp [Op.bytesLess] at h2
      | cons z c => rfl
  | cons x a ih => intro b c h1 h2; cases b with
    | nil => simp [Op.bytesLess] at h1
    | cons y b => cases c with
      | nil => simp [Op.bytesLess] at h2
      | cons z c =>
        simp only [Op.bytesLess, Bool.or_eq_true, Bool.and_eq_true, decide_eq_true_eq, beq_iff_eq] at *
        rcases h1 with h1 | ⟨rfl, h1⟩
        · rcases h2 with h2 | ⟨rfl, _⟩
          · exact .inl (UInt8.lt_trans h1 h2)
          · exact .inl h1
        · rcases h2 with h2 | ⟨rfl, h2⟩
          · exact .inl h2
          · exact .inr ⟨rfl, ih h1 h2⟩
theorem less_total : ∀ (a b : List UInt8), Op.bytesLess a b = true ∨ a = b ∨ Op.bytesLess b a = true := by
  intro a
  induction a with
  | nil => intro b; cases b with
    | nil => exact .inr (.inl rfl)
    | cons y b => exact .inl rfl
  | cons x a ih => intro b; cases b with
    | nil => exact .inr (.inr rfl)
    | cons y b =>
      simp only [Op.bytesLess, Bool.or_eq_true, Bool.and_eq_true, decide_eq_true_eq, beq_iff_eq]
      rcases UInt8.lt_or_lt_of_ne (a := x) (b := y) |> fun h => Classical.em (x = y) |>.imp id h with rfl | h | h
      · rcases ih b with h | rfl | h
        · exact .inl (.inr ⟨rfl, h⟩)
        · exact .inr (.inl rfl)
        · exact .inr (.inr (.inr ⟨rfl, h⟩))
      · exact .inl (.inl h)
      · exact .inr (.inr (.inl h))
theorem cmpB_spec : ∀ (a b : List UInt8), (Op.bytesLess a b = true → Lib.compareBytes a b = -1) ∧ (a = b → Lib.compareBytes a b = 0) ∧ (Op.bytesLess b a = true → Lib.compareBytes a b = 1) := by
  intro a
  induction a with
  | nil => intro b; cases b <;> simp [Op.bytesLess, Lib.compareBytes]
  | cons x a ih => intro b; cases b with
    | nil => simp [Op.bytesLess, Lib.compareBytes]
    | cons y b =>
      obtain ⟨i1, i2, i3⟩ := ih b
      simp only [Op.bytesLess, Bool.or_eq_true, Bool.and_eq_true, decide_eq_true_eq, beq_iff_eq, Lib.compareBytes, List.cons.injEq]
      refine ⟨?_, ?_, ?_⟩
      · rintro (h | ⟨rfl, h⟩)
        · rw [if_pos h]
        · rw [if_neg (UInt8.lt_irrefl _), if_neg (UInt8.lt_irrefl _), i1 h]
      · rintro ⟨rfl, h⟩
        rw [if_neg (UInt8.lt_irrefl _), if_neg (UInt8.lt_irrefl _), i2 h]
      · rintro (h | ⟨rfl, h⟩)
        · rw [if_neg (fun h' => UInt8.lt_irrefl _ (UInt8.lt_trans h h')), if_pos h]
        · rw [if_neg (UInt8.lt_irrefl _), if_neg (UInt8.lt_irrefl _), i3 h]

theorem SLt.irrefl (a : ByteArray) : ¬ SLt a a := by unfold SLt; rw [less_irrefl]; simp
theorem SLt.trans {a b c : ByteArray} (h : SLt a b) (k : SLt b c) : SLt a c := less_trans h k
theorem SLt.total (a b : ByteArray) : SLt a b ∨ a = b ∨ SLt b a := by
  rcases less_total a.data.toList b.data.toList with h | h | h
  · exact .inl h
  · exact .inr (.inl (str_ext h))
  · exact .inr (.inr h)

/-- How two places stand. -/
def PLt (k1 : ByteArray) (s1 : Int) (k2 : ByteArray) (s2 : Int) : Prop := SLt k1 k2 ∨ (k1 = k2 ∧ s2 < s1)
instance (k1 : ByteArray) (s1 : Int) (k2 : ByteArray) (s2 : Int) : Decidable (PLt k1 s1 k2 s2) := by unfold PLt; infer_instance
theorem PLt.irrefl (k : ByteArray) (s : Int) : ¬ PLt k s k s := by rintro (h | ⟨_, h⟩); exact SLt.irrefl _ h; omega
theorem PLt.trans {k1 k2 k3 : ByteArray} {s1 s2 s3 : Int} (h : PLt k1 s1 k2 s2) (k : PLt k2 s2 k3 s3) : PLt k1 s1 k3 s3 := by
  rcases h with h | ⟨rfl, h⟩
  · rcases k with k | ⟨rfl, _⟩
    · exact .inl (h.trans k)
    · exact .inl h
  · rcases k with k | ⟨rfl, k⟩
    · exact .inl k
    · exact .inr ⟨rfl, by omega⟩
theorem PLt.total (k1 : ByteArray) (s1 : Int) (k2 : ByteArray) (s2 : Int) : PLt k1 s1 k2 s2 ∨ (k1 = k2 ∧ s1 = s2) ∨ PLt k2 s2 k1 s1 := by
  rcases SLt.total k1 k2 with h | rfl | h
  · exact .inl (.inl h)
  · rcases Int.lt_trichotomy s1 s2 with h | h | h
    · exact .inr (.inr (.inr ⟨rfl, h⟩))
    · exact .inr (.inl ⟨rfl, h⟩)
    · exact .inl (.inr ⟨rfl, h⟩)
  · exact .inr (.inr (.inl h))
theorem PLt.asymm {k1 k2 : ByteArray} {s1 s2 : Int} (h : PLt k1 s1 k2 s2) : ¬ PLt k2 s2 k1 s1 := fun k => PLt.irrefl _ _ (h.trans k)

def cmpInt (a b : Int) : Int := if a < b then -1 else if b < a then 1 else 0
def orInt (a b : Int) : Int := if a = 0 then b else a
def cellCmp (k1 : ByteArray) (s1 : Int) (k2 : ByteArray) (s2 : Int) : Int := orInt (Lib.compareBytes k1.data.toList k2.data.toList) (cmpInt s2 s1)
theorem cellCmp_lt {k1 : ByteArray} {s1 : Int} {k2 : ByteArray} {s2 : Int} (h : PLt k1 s1 k2 s2) : cellCmp k1 s1 k2 s2 = -1 := by
  obtain ⟨i1, i2, i3⟩ := cmpB_spec k1.data.toList k2.data.toList
  unfold cellCmp orInt
  rcases h with h | ⟨rfl, h⟩
  · rw [i1 h]; rfl
  · rw [i2 rfl, if_pos rfl]; unfold cmpInt; rw [if_pos h]
theorem cellCmp_eq (k : ByteArray) (s : Int) : cellCmp k s k s = 0 := by
  obtain ⟨i1, i2, i3⟩ := cmpB_spec k.data.toList k.data.toList
  unfold cellCmp orInt
  rw [i2 rfl, if_pos rfl]; unfold cmpInt; rw [if_neg (by omega), if_neg (by omega)]
theorem cellCmp_gt {k1 : ByteArray} {s1 : Int} {k2 : ByteArray} {s2 : Int} (h : PLt k2 s2 k1 s1) : cellCmp k1 s1 k2 s2 = 1 := by
  obtain ⟨i1, i2, i3⟩ := cmpB_spec k1.data.toList k2.data.toList
  unfold cellCmp orInt
  rcases h with h | ⟨rfl, h⟩
  · rw [i3 h]; rfl
  · rw [i2 rfl, if_pos rfl]; unfold cmpInt; rw [if_neg (by omega), if_pos h]
theorem cellCmp_neg_iff {k1 : ByteArray} {s1 : Int} {k2 : ByteArray} {s2 : Int} : cellCmp k1 s1 k2 s2 < 0 ↔ PLt k1 s1 k2 s2 := by
  rcases PLt.total k1 s1 k2 s2 with h | ⟨rfl, rfl⟩ | h
  · rw [cellCmp_lt h]; exact ⟨fun _ => h, fun _ => by omega⟩
  · rw [cellCmp_eq]; exact ⟨fun h => by omega, fun h => absurd h (PLt.irrefl _ _)⟩
  · rw [cellCmp_gt h]; exact ⟨fun h => by omega, fun k => absurd k h.asymm⟩
theorem cellCmp_zero_iff {k1 : ByteArray} {s1 : Int} {k2 : ByteArray} {s2 : Int} : cellCmp k1 s1 k2 s2 = 0 ↔ k1 = k2 ∧ s1 = s2 := by
  rcases PLt.total k1 s1 k2 s2 with h | ⟨rfl, rfl⟩ | h
  · rw [cellCmp_lt h]; exact ⟨fun h => by omega, by rintro ⟨rfl, rfl⟩; exact absurd h (PLt.irrefl _ _)⟩
  · rw [cellCmp_eq]; simp
  · rw [cellCmp_gt h]; exact ⟨fun h => by omega, by rintro ⟨rfl, rfl⟩; exact absurd h (PLt.irrefl _ _)⟩
end Go.Proofs.Ytbcaiegglbdonaa

/-
  Contracts of small leaf functions, over every world.
-/
namespace Go.Proofs.Ytbcaiegglbdonaa
open Go.RowKit


set_option maxHeartbeats 1000000 in
set_option maxRecDepth 100000 in
theorem bytealg_CompareString (a b : ByteArray) (w : World) :
    Calls Try.prog 147 #[.string a, .string b] w fun e w' => e = .returned (.int .i64 (Lib.compareBytes a.data.toList b.data.toList)) ∧ w = w' := by
  go_enter Try.func147, Try.ntmps147
  go_wp2
  rw [run_callFunc_extern Try.func156 (by kernel_rfl) (by kernel_rfl) (e := Extern.BytealgCompare.compare) (by kernel_rfl) (by kernel_rfl), Lib.run_compareString]
  simp only [Result.andThen]
  rw [Oper.upon_value]
  go_wp2
  go_ret
  exact ⟨rfl, rfl⟩

theorem strings_Compare (a b : ByteArray) (w : World) :
    Calls Try.prog 126 #[.string a, .string b] w fun e w' => e = .returned (.int .i64 (Lib.compareBytes a.data.toList b.data.toList)) ∧ w = w' := by
  go_enter Try.func126, Try.ntmps126
  go_wp2_with (go_at_call 147; refine (bytealg_CompareString _ _ _).mono ?_; rintro e w' ⟨rfl, rfl⟩)
  go_ret
  exact ⟨rfl, rfl⟩

theorem isNaN_u64 (a : Int) (w : World) :
    Calls Try.prog 148 #[.int .u64 a] w fun e w' => e = .returned (.bool false) ∧ w = w' := by
  go_enter Try.func148, Try.ntmps148
  go_wp2
  go_ret
  exact ⟨rfl, rfl⟩


theorem ret_eq {k : IntKind} {a b : Int} (h : a = b) : Ending.returned (Value.int k a) = .returned (.int k b) := by rw [h]

theorem cmp_u64 (a b : Int) (w : World) :
    Calls Try.prog 127 #[.int .u64 a, .int .u64 b] w fun e w' => e = .returned (.int .i64 (cmpInt a b)) ∧ w = w' := by
  go_enter Try.func127, Try.ntmps127
  go_wp2_with (go_at_call 148; refine (isNaN_u64 _ _).mono ?_; rintro e w' ⟨rfl, rfl⟩)
  all_goals go_ret
  · have h : a < b := by assumption
    exact ⟨ret_eq (by rw [cmpInt, if_pos h]), rfl⟩
  · have h : b < a := by assumption
    exact ⟨ret_eq (by rw [cmpInt, if_neg (by omega), if_pos h]), rfl⟩
  · exact ⟨ret_eq (by rw [cmpInt, if_neg (by omega), if_neg (by omega)]), rfl⟩

theorem or_two (b : Nat) (x y : Int) (c : Nat) (w : World) (h0 : w.cell? ⟨b, 0, none⟩ = some (.int .i64 x)) (h1 : w.cell? ⟨b, 1, none⟩ = some (.int .i64 y)) :
    Calls Try.prog 125 #[.slice (some ⟨b, 0, none⟩) 2 c] w fun e w' => e = .returned (.int .i64 (orInt x y)) ∧ w = w' := by
  by_cases hx : x = 0
  · subst hx
    by_cases hy : y = 0
    · subst hy
      go_enter Try.func125, Try.ntmps125
      go_wp2
      refine wp_loop_rounds 3 ?_; rw [rounds_succ]
      go_wp2
      rw [rounds_succ]
      go_wp2
      rw [rounds_succ]
      go_wp2
      go_ret
      exact ⟨rfl, rfl⟩
    · have hy' : (y != 0) = true := by simpa using hy
      clear hy
      go_enter Try.func125, Try.ntmps125
      go_wp2
      refine wp_loop_rounds 3 ?_; rw [rounds_succ]
      go_wp2
      rw [rounds_succ]
      go_wp2
      go_ret
      exact ⟨rfl, rfl⟩
  · have hx' : (x != 0) = true := by simpa using hx
    have ho : orInt x y = x := by rw [orInt, if_neg hx]
    rw [ho]
    clear hx ho
    go_enter Try.func125, Try.ntmps125
    go_wp2
    refine wp_loop_rounds 3 ?_; rw [rounds_succ]
    go_wp2
    go_ret
    exact ⟨rfl, rfl⟩



set_option maxRecDepth 100000 in
set_option maxHeartbeats 1000000 in
theorem mem_compare (k : ByteArray) (s : Int) (v : ByteArray) (g : Bool) (key : ByteArray) (seq : Int) (w : World) :
    Calls Try.prog 76 #[.agg #[.string k, .int .u64 s, .string v, .bool g], .string key, .int .u64 seq] w fun e w' => e = .returned (.int .i64 (cellCmp k s key seq)) ∧ Below w.heap.size w w' := by
  go_enter Try.func76, Try.ntmps76
  go_wp2
  go_region_held3 (fun w' => w'.cell? ⟨w.heap.size, 0, none⟩ = some (.string k) ∧ w'.cell? ⟨w.heap.size, 1, none⟩ = some (.int .u64 s)) (go_keep)
    (first | (go_at_call 126; refine (strings_Compare _ _ _).mono ?_; rintro e w' ⟨rfl, rfl⟩) | (go_at_call 127; refine (cmp_u64 _ _ _).mono ?_; rintro e w' ⟨rfl, rfl⟩) | (go_at_call 125; refine (or_two _ (Lib.compareBytes k.data.toList key.data.toList) (cmpInt seq s) _ _ ?_ ?_).mono ?_; (go_simp); (go_simp); rintro e w' ⟨rfl, rfl⟩))
  go_wp2
  go_ret
  exact ⟨rfl, (((Below.refl _ _).alloc (Nat.le_refl _) _).alloc (by simp) _).drew⟩

end Go.Proofs.Ytbcaiegglbdonaa

/-
  The table in memory as it lies in the heap: blocks known whole, nodes, their links by levels; plain lemmas on them. No program in sight.
-/
namespace Go.Proofs.Ytbcaiegglbdonaa
open Go.RowKit

/-! ### A block that is known whole -/
def Blk (w : World) (b : Nat) (arr : Array Value) (t : TypeId) : Prop := w.heap[b]? = some (.cells arr t (0, 0))
theorem Blk.cell {w : World} {b : Nat} {arr : Array Value} {t : TypeId} (h : Blk w b arr t) (i : Nat) (v : Value) (hv : arr[i]? = some v) : w.cell? ⟨b, i, none⟩ = some v := by
  unfold Blk at h; simp [World.cell?, h, hv]
theorem Blk.frozen {w : World} {b : Nat} {arr : Array Value} {t : TypeId} (h : Blk w b arr t) (i : Nat) : w.frozen? ⟨b, i, none⟩ = false := by
  unfold Blk at h; simp [World.frozen?, h]
theorem Blk.lt {w : World} {b : Nat} {arr : Array Value} {t : TypeId} (h : Blk w b arr t) : b < w.heap.size := lt_of_block h
theorem Blk.below {w w' : World} {b B : Nat} {arr : Array Value} {t : TypeId} (h : Blk w b arr t) (hb : Below B w w') (hB : b < B) : Blk w' b arr t := (hb.block b hB).trans h
theorem Blk.kept {w w' : World} {b : Nat} {arr : Array Value} {t : TypeId} (h : Blk w b arr t) (hb : Below w.heap.size w w') : Blk w' b arr t := h.below hb h.lt
theorem Blk.setCell {w : World} {b : Nat} {arr : Array Value} {t : TypeId} (h : Blk w b arr t) (i : Nat) (v : Value) : Blk (w.setCell ⟨b, i, none⟩ v) b (arr.setIfInBounds i v) t := by
  unfold Blk at h ⊢
  simp [World.setCell, Array.getElem?_modify, h]
theorem Blk.setCell_ne {w : World} {b b' : Nat} {arr : Array Value} {t : TypeId} (h : Blk w b arr t) (hn : b ≠ b') (i : Nat) (v : Value) : Blk (w.setCell ⟨b', i, none⟩ v) b arr t := by
  unfold Blk at h ⊢
  rw [Below.heap_setCell _ _ _ _ hn]; exact h
theorem Blk.alloc {w : World} {b : Nat} {arr : Array Value} {t : TypeId} (h : Blk w b arr t) (o : Obj) : Blk (w.alloc o) b arr t := (Below.heap_alloc w o b h.lt).trans h
theorem Blk.drew {w : World} {b : Nat} {arr : Array Value} {t : TypeId} (h : Blk w b arr t) : Blk w.drew b arr t := h
theorem Blk.new (w : World) (arr : Array Value) (t : TypeId) : Blk (w.alloc (.cells arr t)) w.heap.size arr t := by
  unfold Blk; show (w.heap.push _)[w.heap.size]? = _; simp

/-! ### What has changed: nothing but blocks of a set, and new ones -/
structure Only (S : Nat → Prop) (w w' : World) : Prop where
  os : w'.os = w.os
  tape : w'.tape = w.tape
  output : w'.output = w.output
  size : w.heap.size ≤ w'.heap.size
  block : ∀ k, k < w.heap.size → ¬ S k → w'.heap[k]? = w.heap[k]?
theorem Only.refl (S : Nat → Prop) (w : World) : Only S w w := ⟨rfl, rfl, rfl, Nat.le_refl _, fun _ _ _ => rfl⟩
theorem Only.trans {S : Nat → Prop} {a b c : World} (h : Only S a b) (k : Only S b c) : Only S a c :=
  ⟨k.os.trans h.os, k.tape.trans h.tape, k.output.trans h.output, Nat.le_trans h.size k.size, fun i hi hs => (k.block i (Nat.lt_of_lt_of_le hi h.size) hs).trans (h.block i hi hs)⟩
theorem Only.mono {S S' : Nat → Prop} {w w' : World} (h : Only S w w') (hs : ∀ k, k < w.heap.size → S k → S' k) : Only S' w w' :=
  ⟨h.os, h.tape, h.output, h.size, fun k hk hn => h.block k hk fun hS => hn (hs k hk hS)⟩
theorem Only.of_below {S : Nat → Prop} {w w' : World} (h : Below w.heap.size w w') : Only S w w' := ⟨h.os, h.tape, h.output, h.size, fun k hk _ => h.block k hk⟩
theorem Only.below {S : Nat → Prop} {w w' : World} {B : Nat} (h : Only S w w') (hB : B ≤ w.heap.size) (hS : ∀ k, S k → B ≤ k) : Below B w w' :=
  ⟨h.os, h.tape, h.output, h.size, fun k hk => h.block k (by omega) fun hs => by have := hS k hs; omega⟩
theorem Only.setCell {S : Nat → Prop} {a w : World} (h : Only S a w) {b : Nat} (hb : S b ∨ a.heap.size ≤ b) (i : Nat) (v : Value) : Only S a (w.setCell ⟨b, i, none⟩ v) :=
  ⟨h.os, h.tape, h.output, by simpa [World.setCell] using h.size, fun k hk hn => by
    rw [Below.heap_setCell _ _ _ _ (by rintro rfl; rcases hb with hb | hb; exact hn hb; exact absurd hk (by simpa using hb))]
    exact h.block k hk hn⟩
theorem Only.alloc {S : Nat → Prop} {a w : World} (h : Only S a w) (o : Obj) : Only S a (w.alloc o) :=
  ⟨h.os, h.tape, h.output, by simp only [World.size_alloc]; have := h.size; omega, fun k hk hn => (Below.heap_alloc w o k (by have := h.size; omega)).trans (h.block k hk hn)⟩
theorem Only.drew {S : Nat → Prop} {a w : World} (h : Only S a w) : Only S a w.drew := ⟨h.os, h.tape, h.output, h.size, h.block⟩
theorem Blk.only {w w' : World} {S : Nat → Prop} {b : Nat} {arr : Array Value} {t : TypeId} (h : Blk w b arr t) (ho : Only S w w') (hn : ¬ S b) : Blk w' b arr t := (ho.block b h.lt hn).trans h

/-! ### Cells, nodes -/
structure Cell where
  key : ByteArray
  seq : Int
  val : ByteArray
  gone : Bool
def Cell.zero : Cell := ⟨ByteArray.empty, 0, ByteArray.empty, false⟩
structure Node where
  b : Nat
  c : Cell
  h : Nat
def arr12 (f : Nat → Value) : Array Value := #[f 0, f 1, f 2, f 3, f 4, f 5, f 6, f 7, f 8, f 9, f 10, f 11]
def nodeArr (c : Cell) (f : Nat → Value) : Array Value := #[.string c.key, .int .u64 c.seq, .string c.val, .bool c.gone, f 0, f 1, f 2, f 3, f 4, f 5, f 6, f 7, f 8, f 9, f 10, f 11]
def memArr (hb : Nat) (f : Nat → Int) (sz : Int) : Array Value :=
  #[.pointer (some ⟨hb, 0, none⟩), .int .i64 (f 0), .int .i64 (f 1), .int .i64 (f 2), .int .i64 (f 3), .int .i64 (f 4), .int .i64 (f 5), .int .i64 (f 6), .int .i64 (f 7), .int .i64 (f 8), .int .i64 (f 9), .int .i64 (f 10), .int .i64 (f 11), .int .i64 sz]
def put1 {α : Type} (f : Nat → α) (i : Nat) (v : α) : Nat → α := fun l => if l = i then v else f l
theorem lt12 {i : Nat} (h : i < 12) : i = 0 ∨ i = 1 ∨ i = 2 ∨ i = 3 ∨ i = 4 ∨ i = 5 ∨ i = 6 ∨ i = 7 ∨ i = 8 ∨ i = 9 ∨ i = 10 ∨ i = 11 := by omega
theorem arr12_get (f : Nat → Value) {i : Nat} (h : i < 12) : (arr12 f)[i]? = some (f i) := by
  rcases lt12 h with rfl | rfl | rfl | rfl | rfl | rfl | rfl | rfl | rfl | rfl | rfl | rfl <;> rfl
theorem arr12_set (f : Nat → Value) {i : Nat} (h : i < 12) (v : Value) : (arr12 f).setIfInBounds i v = arr12 (put1 f i v) := by
  rcases lt12 h with rfl | rfl | rfl | rfl | rfl | rfl | rfl | rfl | rfl | rfl | rfl | rfl <;> rfl
theorem nodeArr_get (c : Cell) (f : Nat → Value) {i : Nat} (h : i < 12) : (nodeArr c f)[4 + i]? = some (f i) := by
  rcases lt12 h with rfl | rfl | rfl | rfl | rfl | rfl | rfl | rfl | rfl | rfl | rfl | rfl <;> rfl
theorem nodeArr_set (c : Cell) (f : Nat → Value) {i : Nat} (h : i < 12) (v : Value) : (nodeArr c f).setIfInBounds (4 + i) v = nodeArr c (put1 f i v) := by
  rcases lt12 h with rfl | rfl | rfl | rfl | rfl | rfl | rfl | rfl | rfl | rfl | rfl | rfl <;> rfl
theorem memArr_get (hb : Nat) (f : Nat → Int) (sz : Int) {i : Nat} (h : i < 12) : (memArr hb f sz)[1 + i]? = some (.int .i64 (f i)) := by
  rcases lt12 h with rfl | rfl | rfl | rfl | rfl | rfl | rfl | rfl | rfl | rfl | rfl | rfl <;> rfl
theorem memArr_set (hb : Nat) (f : Nat → Int) (sz : Int) {i : Nat} (h : i < 12) (v : Int) : (memArr hb f sz).setIfInBounds (1 + i) (.int .i64 v) = memArr hb (put1 f i v) sz := by
  rcases lt12 h with rfl | rfl | rfl | rfl | rfl | rfl | rfl | rfl | rfl | rfl | rfl | rfl <;> rfl
theorem memArr_size (hb : Nat) (f : Nat → Int) (sz v : Int) : (memArr hb f sz).setIfInBounds 13 (.int .i64 v) = memArr hb f v := rfl
theorem arr12_congr {f g : Nat → Value} (h : ∀ i, i < 12 → f i = g i) : arr12 f = arr12 g := by simp [arr12, h]
theorem nodeArr_congr {c : Cell} {f g : Nat → Value} (h : ∀ i, i < 12 → f i = g i) : nodeArr c f = nodeArr c g := by simp [nodeArr, h]
theorem memArr_congr {hb : Nat} {f g : Nat → Int} {sz : Int} (h : ∀ i, i < 12 → f i = g i) : memArr hb f sz = memArr hb g sz := by simp [memArr, h]

/-! ### Links -/
def nxt (l : Nat) (L : List Node) : Option Nat := (L.find? (fun n => decide (l < n.h))).map (·.b)
def ptrv (o : Option Nat) : Value := .pointer (o.map fun b => ⟨b, 0, none⟩)
def links (h : Nat) (L : List Node) (l : Nat) : Value := if l < h then ptrv (nxt l L) else .pointer none
def tall (l : Nat) (L : List Node) : Int := ((L.filter (fun n => decide (l < n.h))).length : Int)
def NodesOK (w : World) : List Node → Prop
  | [] => True
  | n :: L => Blk w n.b (nodeArr n.c (links n.h L)) 105 ∧ NodesOK w L
structure Skip (w : World) (a hb : Nat) (L : List Node) (sz : Int) : Prop where
  mem : Blk w a (memArr hb (fun l => tall l L) sz) 60
  head : Blk w hb (nodeArr Cell.zero (links 12 L)) 105
  nodes : NodesOK w L
  nodup : (a :: hb :: L.map (·.b)).Nodup
  hts : ∀ n ∈ L, n.h ≤ 12
/-- The blocks of a table. -/
def foot (a hb : Nat) (L : List Node) (k : Nat) : Prop := k = a ∨ k = hb ∨ ∃ n ∈ L, n.b = k

theorem NodesOK.at_ {w : World} {A : List Node} {n : Node} {B : List Node} (h : NodesOK w (A ++ n :: B)) : Blk w n.b (nodeArr n.c (links n.h B)) 105 := by
  induction A with
  | nil => exact h.1
  | cons x A ih => exact ih h.2
theorem NodesOK.mem {w : World} {L : List Node} (h : NodesOK w L) {n : Node} (hn : n ∈ L) : ∃ f, Blk w n.b (nodeArr n.c f) 105 := by
  obtain ⟨A, B, rfl⟩ := List.append_of_mem hn
  exact ⟨_, h.at_⟩
theorem NodesOK.imp {w w' : World} {L : List Node} (h : NodesOK w L) (hk : ∀ n ∈ L, ∀ arr, Blk w n.b arr 105 → Blk w' n.b arr 105) : NodesOK w' L := by
  induction L with
  | nil => trivial
  | cons n L ih => exact ⟨hk n (by simp) _ h.1, ih h.2 fun m hm => hk m (by simp [hm])⟩
theorem Skip.only {w w' : World} {a hb : Nat} {L : List Node} {sz : Int} (h : Skip w a hb L sz) {S : Nat → Prop} (ho : Only S w w') (hS : ∀ k, foot a hb L k → ¬ S k) : Skip w' a hb L sz :=
  ⟨h.mem.only ho (hS _ (.inl rfl)), h.head.only ho (hS _ (.inr (.inl rfl))), h.nodes.imp fun n hn _ hB => hB.only ho (hS _ (.inr (.inr ⟨n, hn, rfl⟩))), h.nodup, h.hts⟩
theorem Skip.kept {w w' : World} {a hb : Nat} {L : List Node} {sz : Int} (h : Skip w a hb L sz) (hb' : Below w.heap.size w w') : Skip w' a hb L sz :=
  ⟨h.mem.kept hb', h.head.kept hb', h.nodes.imp fun _ _ _ hB => hB.kept hb', h.nodup, h.hts⟩
theorem Skip.foot_lt {w : World} {a hb : Nat} {L : List Node} {sz : Int} (h : Skip w a hb L sz) {k : Nat} (hk : foot a hb L k) : k < w.heap.size := by
  rcases hk with rfl | rfl | ⟨n, hn, rfl⟩
  · exact h.mem.lt
  · exact h.head.lt
  · obtain ⟨f, hf⟩ := h.nodes.mem hn; exact hf.lt

theorem nxt_append_none {l : Nat} {A B : List Node} (h : ∀ m ∈ A, ¬ l < m.h) : nxt l (A ++ B) = nxt l B := by
  unfold nxt
  rw [List.find?_append, List.find?_eq_none.2 (by simpa using h)]; rfl
theorem nxt_cases (l : Nat) (suf B : List Node) :
    (∃ pre n suf', suf = pre ++ n :: suf' ∧ l < n.h ∧ (∀ m ∈ pre, ¬ l < m.h) ∧ nxt l (suf ++ B) = some n.b) ∨ ((∀ m ∈ suf, ¬ l < m.h) ∧ nxt l (suf ++ B) = nxt l B) := by
  by_cases h : ∀ m ∈ suf, ¬ l < m.h
  · exact .inr ⟨h, nxt_append_none h⟩
  · refine .inl ?_
    induction suf with
    | nil => exact absurd (fun m hm => by cases hm) h
    | cons x suf ih =>
      by_cases hx : l < x.h
      · exact ⟨[], x, suf, rfl, hx, (fun m hm => by cases hm), by simp [nxt, hx]⟩
      · obtain ⟨pre, n, suf', e, h1, h2, h3⟩ := ih (fun hs => h (fun m hm => by rcases List.mem_cons.1 hm with rfl | hm; exact hx; exact hs m hm))
        refine ⟨x :: pre, n, suf', by simp [e], h1, (fun m hm => by rcases List.mem_cons.1 hm with rfl | hm; exact hx; exact h2 m hm), ?_⟩
        rw [← h3]; simp [nxt, hx]
theorem nxt_none_or (l : Nat) (B : List Node) : nxt l B = none ∨ ∃ n ∈ B, l < n.h ∧ nxt l B = some n.b := by
  rcases nxt_cases l B [] with ⟨pre, n, suf', rfl, h1, _, h3⟩ | ⟨_, h⟩
  · exact .inr ⟨n, by simp, h1, by simpa using h3⟩
  · left; simpa [nxt] using h

/-- A place on level l: the head, or a node that stands there; what is behind it. -/
def Stands (l hb : Nat) (A : List Node) (p : Nat) (suf : List Node) : Prop := (p = hb ∧ suf = A) ∨ ∃ pre n, A = pre ++ n :: suf ∧ p = n.b ∧ l < n.h
def lastAt (l hb : Nat) (A : List Node) : Nat := match A.reverse.find? (fun n => decide (l < n.h)) with | some n => n.b | none => hb
theorem Stands.last {l hb : Nat} {A : List Node} {p : Nat} {suf : List Node} (h : Stands l hb A p suf) (hs : ∀ m ∈ suf, ¬ l < m.h) : p = lastAt l hb A := by
  unfold lastAt
  rcases h with ⟨rfl, rfl⟩ | ⟨pre, n, rfl, rfl, hn⟩
  · rw [List.find?_eq_none.2 (by simpa using hs)]
  · rw [List.reverse_append, List.reverse_cons, List.append_assoc, List.find?_append, List.find?_eq_none.2 (by simpa using hs)]
    simp [hn]
theorem Stands.step {l hb : Nat} {A : List Node} {p : Nat} {pre : List Node} {n : Node} {suf : List Node} (h : Stands l hb A p (pre ++ n :: suf)) (hn : l < n.h) : Stands l hb A n.b suf := by
  rcases h with ⟨_, hA⟩ | ⟨pre', m, rfl, _, _⟩
  · exact .inr ⟨pre, n, hA.symm, rfl, hn⟩
  · exact .inr ⟨pre' ++ m :: pre, n, by simp, rfl, hn⟩
theorem Stands.mem {l hb : Nat} {A : List Node} {p : Nat} {pre : List Node} {n : Node} {suf : List Node} (h : Stands l hb A p (pre ++ n :: suf)) : n ∈ A := by
  rcases h with ⟨_, rfl⟩ | ⟨pre', m, rfl, _, _⟩ <;> simp
theorem lastAt_stands {k l hb : Nat} {A : List Node} (hl : l ≤ k) : ∃ suf, Stands l hb A (lastAt k hb A) suf := by
  unfold lastAt
  cases h : A.reverse.find? (fun n => decide (k < n.h)) with
  | none => exact ⟨A, .inl ⟨rfl, rfl⟩⟩
  | some n =>
    have h1 := List.find?_some h
    have h2 : n ∈ A := by simpa using List.mem_of_find?_eq_some h
    obtain ⟨pre, suf, rfl⟩ := List.append_of_mem h2
    exact ⟨suf, .inr ⟨pre, n, rfl, rfl, by have : k < n.h := by simpa using h1
                                           omega⟩⟩
theorem lastAt_top {hb : Nat} {A : List Node} (h : ∀ n ∈ A, n.h ≤ 12) : lastAt 12 hb A = hb := by
  unfold lastAt
  rw [List.find?_eq_none.2 (fun n hn => by have := h n (by simpa using hn); simp; omega)]
theorem Stands.blk {w : World} {a hb : Nat} {A B : List Node} {sz : Int} (hs : Skip w a hb (A ++ B) sz) {l p : Nat} (hl : l < 12) {suf : List Node} (h : Stands l hb A p suf) :
    ∃ c f, Blk w p (nodeArr c f) 105 ∧ f l = ptrv (nxt l (suf ++ B)) := by
  rcases h with ⟨rfl, rfl⟩ | ⟨pre, n, rfl, rfl, hn⟩
  · exact ⟨_, _, hs.head, by simp [links, hl]⟩
  · have h := hs.nodes
    rw [List.append_assoc, List.cons_append] at h
    exact ⟨_, _, h.at_, by simp [links, hn]⟩
def outv (k hb : Nat) (A : List Node) (l : Nat) : Value := if k ≤ l then .pointer (some ⟨lastAt l hb A, 0, none⟩) else .pointer none
theorem outv_step (k hb : Nat) (A : List Node) : arr12 (put1 (outv (k + 1) hb A) k (.pointer (some ⟨lastAt k hb A, 0, none⟩))) = arr12 (outv k hb A) :=
  arr12_congr fun i _ => by
    unfold put1 outv
    by_cases h : i = k
    · subst h; simp
    · by_cases h' : k + 1 ≤ i
      · rw [if_neg h, if_pos h', if_pos (by omega)]
      · rw [if_neg h, if_neg h', if_neg (by omega)]

end Go.Proofs.Ytbcaiegglbdonaa

namespace Go.Proofs.Ytbcaiegglbdonaa
open Go.RowKit

def lessC (c : Cell) (key : ByteArray) (seq : Int) : Int := cellCmp c.key c.seq key seq
def outp (hb : Nat) (A : List Node) (l : Nat) : Value := .pointer (some ⟨lastAt l hb A, 0, none⟩)
def outAgg (hb : Nat) (A : List Node) : Value := .agg (arr12 (outp hb A))
theorem outv_zero (hb : Nat) (A : List Node) : arr12 (outv 0 hb A) = arr12 (outp hb A) := arr12_congr fun i _ => by unfold outv outp; rw [if_pos (by omega)]

def AheadRel (w : World) (hb : Nat) (A : List Node) (res out : Nat) (n lv : Value) (wr : World) : Prop :=
  ∃ k : Nat, k ≤ 12 ∧ lv = .int .i64 ((k : Int) - 1) ∧ n = .pointer (some ⟨lastAt k hb A, 0, none⟩) ∧ Blk wr out (arr12 (outv k hb A)) 103 ∧ Blk wr res (arr12 fun _ => .pointer none) 103 ∧ Below w.heap.size w wr
def AheadIn (wo : World) (l hb : Nat) (A : List Node) (k : Nat) (n : Value) (wi : World) : Prop :=
  ∃ p suf, n = .pointer (some ⟨p, 0, none⟩) ∧ Stands l hb A p suf ∧ suf.length ≤ k ∧ Below wo.heap.size wo wi
theorem nodeArr_cells {w : World} {b : Nat} {c : Cell} {f : Nat → Value} {t : TypeId} (h : Blk w b (nodeArr c f) t) :
    w.cell? ⟨b, 0, none⟩ = some (.string c.key) ∧ w.cell? ⟨b, 1, none⟩ = some (.int .u64 c.seq) ∧ w.cell? ⟨b, 2, none⟩ = some (.string c.val) ∧ w.cell? ⟨b, 3, none⟩ = some (.bool c.gone) :=
  ⟨h.cell 0 _ rfl, h.cell 1 _ rfl, h.cell 2 _ rfl, h.cell 3 _ rfl⟩
theorem bcell {W w1 : World} (hb : Below W.heap.size W w1) : (∀ b o, b < W.heap.size → w1.cell? ⟨b, o, none⟩ = W.cell? ⟨b, o, none⟩) ∧ (∀ b o, b < W.heap.size → w1.frozen? ⟨b, o, none⟩ = W.frozen? ⟨b, o, none⟩) :=
  ⟨fun b o h => hb.cell (p := ⟨b, o, none⟩) h, fun b o h => hb.frozen (p := ⟨b, o, none⟩) h⟩

theorem arr12_cells {w : World} {b : Nat} {f : Nat → Value} {t : TypeId} (h : Blk w b (arr12 f) t) :
    w.cell? ⟨b, 0, none⟩ = some (f 0) ∧ w.cell? ⟨b, 1, none⟩ = some (f 1) ∧ w.cell? ⟨b, 2, none⟩ = some (f 2) ∧ w.cell? ⟨b, 3, none⟩ = some (f 3) ∧ w.cell? ⟨b, 4, none⟩ = some (f 4) ∧ w.cell? ⟨b, 5, none⟩ = some (f 5) ∧
    w.cell? ⟨b, 6, none⟩ = some (f 6) ∧ w.cell? ⟨b, 7, none⟩ = some (f 7) ∧ w.cell? ⟨b, 8, none⟩ = some (f 8) ∧ w.cell? ⟨b, 9, none⟩ = some (f 9) ∧ w.cell? ⟨b, 10, none⟩ = some (f 10) ∧ w.cell? ⟨b, 11, none⟩ = some (f 11) :=
  ⟨h.cell 0 _ rfl, h.cell 1 _ rfl, h.cell 2 _ rfl, h.cell 3 _ rfl, h.cell 4 _ rfl, h.cell 5 _ rfl, h.cell 6 _ rfl, h.cell 7 _ rfl, h.cell 8 _ rfl, h.cell 9 _ rfl, h.cell 10 _ rfl, h.cell 11 _ rfl⟩
theorem outv_top (hb : Nat) (A : List Node) : arr12 (outv 12 hb A) = arr12 fun _ => .pointer none := arr12_congr fun i hi => by unfold outv; rw [if_neg (by omega)]

theorem ahead_close {w wr : World} {hb : Nat} {A : List Node} {l p : Nat} (hp : p = lastAt l hb A) (hl : l < 12) (hout : Blk wr (w.heap.size + 1) (arr12 (outv (l + 1) hb A)) 103)
    (hres : Blk wr w.heap.size (arr12 fun _ => .pointer none) 103) (hbel : Below w.heap.size w wr) (_h : l ≤ 12) :
    AheadRel w hb A w.heap.size (w.heap.size + 1) (.pointer (some ⟨p, 0, none⟩)) (.int .i64 ((l : Int) - 1)) (wr.setCell ⟨w.heap.size + 1, l, none⟩ (.pointer (some ⟨p, 0, none⟩))) := by
  subst hp
  refine ⟨l, by omega, rfl, rfl, ?_, hres.setCell_ne (by omega) _ _, hbel.setCell (by simp) _⟩
  have h := hout.setCell l (.pointer (some ⟨lastAt l hb A, 0, none⟩))
  rw [arr12_set _ hl, outv_step] at h
  exact h

set_option maxRecDepth 100000 in
set_option maxHeartbeats 1000000 in
theorem ahead_spec {w : World} {a hb : Nat} {A B : List Node} {sz : Int} (hs : Skip w a hb (A ++ B) sz) (key : ByteArray) (seq : Int)
    (hA : ∀ n ∈ A, lessC n.c key seq < 0) (hB : ∀ n ∈ B, 0 ≤ lessC n.c key seq) :
    Calls Try.prog 75 #[.pointer (some ⟨a, 0, none⟩), .string key, .int .u64 seq] w fun e w' => e = .returned (outAgg hb A) ∧ Below w.heap.size w w' := by
  have hm0 : w.cell? ⟨a, 0, none⟩ = some (.pointer (some ⟨hb, 0, none⟩)) := hs.mem.cell 0 _ rfl
  have ha : a < w.heap.size := hs.mem.lt
  go_enter Try.func75, Try.ntmps75
  go_wp2
  go_loopw [8, 9] (AheadRel w hb A w.heap.size (w.heap.size + 1)) (fun _ lv _ => (intOf lv + 1).toNat)
  case atStart =>
    have ht : lastAt 12 hb A = hb := lastAt_top fun n hn => hs.hts n (by simp [hn])
    exact ⟨12, by omega, rfl, by rw [ht], by have h := Blk.new (w.alloc (.cells (arr12 fun _ => .pointer none) 103)) (arr12 fun _ => .pointer none) 103; rw [World.size_alloc] at h; rw [outv_top]; exact h, (Blk.new w _ _).alloc _, ((Below.refl _ _).alloc (Nat.le_refl _) _).alloc (by simp) _⟩
  case round =>
    obtain ⟨k, hk, rfl, rfl, hout, hres, hbel⟩ := hrel
    cases k with
    | zero =>
      rw [outv_zero] at hout
      obtain ⟨c0, c1, c2, c3, c4, c5, c6, c7, c8, c9, c10, c11⟩ := arr12_cells hout
      obtain ⟨d0, d1, d2, d3, d4, d5, d6, d7, d8, d9, d10, d11⟩ := arr12_cells hres
      have hf := hres.frozen
      unfold outp at c0 c1 c2 c3 c4 c5 c6 c7 c8 c9 c10 c11
      go_wp2
      refine bodyPost_ret (v := outAgg hb A) ?_ rfl ⟨rfl, ?_⟩
      · simp [results, Try.results75, go_sem, outAgg, arr12, outp, d0, d1, d2, d3, d4, d5, d6, d7, d8, d9, d10, d11]
      · exact (((((((((((((hbel.setCell (by simp) _).setCell (by simp) _).setCell (by simp) _).setCell (by simp) _).setCell (by simp) _).setCell (by simp) _).setCell (by simp) _).setCell (by simp) _).setCell (by simp) _).setCell (by simp) _).setCell (by simp) _).setCell (by simp) _))
    | succ l =>
      obtain ⟨wo, rfl⟩ : ∃ wo : World, wo = wr := ⟨_, rfl⟩
      rw [show ((l + 1 : Nat) : Int) - 1 = (l : Int) by omega]
      have hl : l < 12 := by omega
      obtain ⟨suf0, hst0⟩ := lastAt_stands (k := l + 1) (l := l) (hb := hb) (A := A) (by omega)
      go_wp2
      go_loopg [8] suf0.length (AheadIn wo l hb A)
      case atStart => exact ⟨_, suf0, rfl, hst0, Nat.le_refl _, Below.refl _ _⟩
      case round =>
        obtain ⟨p, suf, rfl, hp, hgk, hbi⟩ := hrel
        have hsk : Skip wr a hb (A ++ B) sz := (hs.kept hbel).kept hbi
        obtain ⟨cp, fp, hbp, hfp⟩ := hp.blk hsk hl
        have hcn := hbp.cell (4 + l) _ (nodeArr_get cp fp hl)
        rw [hfp] at hcn
        have hpl : p < wr.heap.size := hbp.lt
        clear hfp hbp
        rcases nxt_cases l suf B with ⟨pre, n, suf', rfl, hln, _, hnx⟩ | ⟨hno, hnx⟩
        · -- a node of A comes next: on
          rw [hnx] at hcn
          have hcn' : wr.cell? ⟨p, 4 + l, none⟩ = some (.pointer (some ⟨n.b, 0, none⟩)) := hcn
          clear hcn hnx
          have hnA : n ∈ A := hp.mem
          obtain ⟨fn, hbn⟩ := hsk.nodes.mem (n := n) (by simp [hnA])
          have hneg := hA n hnA
          unfold lessC at hneg
          obtain ⟨k0, k1, k2, k3⟩ := nodeArr_cells hbn
          clear hbn
          go_wp2_with (go_at_call 76; refine (mem_compare _ _ _ _ _ _ _).mono ?_; rintro e w' ⟨rfl, hb1⟩; obtain ⟨hc, hf⟩ := bcell hb1)
          go_roundg suf'.length
          case measure => simp at hgk; omega
          case rel => exact ⟨n.b, suf', rfl, hp.step hln, Nat.le_refl _, hbi.trans (hb1.mono hbi.size)⟩
        · have hlast : p = lastAt l hb A := hp.last hno
          have HL := Lib.hid hlast
          clear hlast
          rw [hnx] at hcn
          clear hnx
          have hno' : wr.cell? ⟨w.heap.size + 1, l, none⟩ = some (outv (l + 1) hb A l) := (hout.kept hbi).cell l _ (arr12_get _ hl)
          have hfo : ∀ i, wr.frozen? ⟨w.heap.size + 1, i, none⟩ = false := (hout.kept hbi).frozen
          have hol : w.heap.size + 1 < wr.heap.size := (hout.kept hbi).lt
          rcases nxt_none_or l B with hn0 | ⟨n, hnB, hln, hn0⟩
          · rw [hn0] at hcn
            have hcn' : wr.cell? ⟨p, 4 + l, none⟩ = some (.pointer none) := hcn
            clear hcn hn0
            go_wp2
            go_roundw
            case rel => exact ahead_close HL.out hl ((hout.kept hbi)) (hres.kept hbi) (hbel.trans (hbi.mono hbel.size)) (by omega)
            case measure => simp [intOf]
          · rw [hn0] at hcn
            have hcn' : wr.cell? ⟨p, 4 + l, none⟩ = some (.pointer (some ⟨n.b, 0, none⟩)) := hcn
            clear hcn hn0
            obtain ⟨fn, hbn⟩ := hsk.nodes.mem (n := n) (by simp [hnB])
            have hneg := hB n hnB
            unfold lessC at hneg
            obtain ⟨k0, k1, k2, k3⟩ := nodeArr_cells hbn
            clear hbn
            go_wp2_with (go_at_call 76; refine (mem_compare _ _ _ _ _ _ _).mono ?_; rintro e w' ⟨rfl, hb1⟩; obtain ⟨hc, hf⟩ := bcell hb1)
            go_roundw
            case rel => exact ahead_close HL.out hl (((hout.kept hbi)).kept hb1) ((hres.kept hbi).kept hb1) ((hbel.trans (hbi.mono hbel.size)).trans (hb1.mono (Nat.le_trans hbel.size hbi.size))) (by omega)
            case measure => simp [intOf]

end Go.Proofs.Ytbcaiegglbdonaa

/-
  Contracts of mem.New, made, Check, Get, Len, Size, over every world.
-/
namespace Go.Proofs.Ytbcaiegglbdonaa
open Go.RowKit

theorem Below.set4 {B : Nat} {a w : World} (h : Below B a w) {b : Nat} (hp : B ≤ b) (i j k l : Nat) (u v x y : Value) :
    Below B a ((((w.setCell ⟨b, i, none⟩ u).setCell ⟨b, j, none⟩ v).setCell ⟨b, k, none⟩ x).setCell ⟨b, l, none⟩ y) :=
  (((h.setCell hp _).setCell hp _).setCell hp _).setCell hp _
def Cell.v (c : Cell) : Value := .agg #[.string c.key, .int .u64 c.seq, .string c.val, .bool c.gone]
def NewPost (w : World) (e : Ending) (w' : World) : Prop :=
  e = .returned (.pointer (some ⟨w.heap.size + 1, 0, none⟩)) ∧ Skip w' (w.heap.size + 1) w.heap.size [] 0 ∧ Below w.heap.size w w' ∧ w'.heap.size = w.heap.size + 2

set_option maxRecDepth 100000 in
set_option maxHeartbeats 1000000 in
theorem new_spec (w : World) : Calls Try.prog 20 #[] w (NewPost w) := by
  go_enter Try.func20, Try.ntmps20
  go_wp2
  go_ret
  refine ⟨rfl, ⟨?_, ?_, trivial, by simp, by simp⟩, ((Below.refl _ _).alloc (Nat.le_refl _) _).alloc (by simp) _, by simp⟩
  · have h := Blk.new (w.alloc (.cells (nodeArr Cell.zero (links 12 [])) 105)) (memArr w.heap.size (fun l => tall l []) 0) 60
    rw [World.size_alloc] at h
    exact h
  · exact (Blk.new w (nodeArr Cell.zero (links 12 [])) 105).alloc _

theorem made_yes {w : World} {a : Nat} {p : Addr} (h : w.cell? ⟨a, 0, none⟩ = some (.pointer (some p))) :
    Calls Try.prog 73 #[.pointer (some ⟨a, 0, none⟩)] w fun e w' => e = .returned (.bool true) ∧ w = w' := by
  go_enter Try.func73, Try.ntmps73
  go_wp2
  go_ret
  exact ⟨rfl, rfl⟩
theorem made_zero {w : World} {a : Nat} (h : w.cell? ⟨a, 0, none⟩ = some (.pointer none)) :
    Calls Try.prog 73 #[.pointer (some ⟨a, 0, none⟩)] w fun e w' => e = .returned (.bool false) ∧ w = w' := by
  go_enter Try.func73, Try.ntmps73
  go_wp2
  go_ret
  exact ⟨rfl, rfl⟩
theorem made_nil (w : World) : Calls Try.prog 73 #[.pointer none] w fun e w' => e = .returned (.bool false) ∧ w = w' := by
  go_enter Try.func73, Try.ntmps73
  go_wp2
  go_ret
  exact ⟨rfl, rfl⟩

def CellOk (c : Cell) : Prop := 1 ≤ c.key.size ∧ c.key.size ≤ 128 ∧ c.val.size ≤ 1024 ∧ (c.gone = true → c.val.toList = []) ∧ c.seq ≤ 72057594037927935
def checkN (c : Cell) : Int := if 1 ≤ c.key.size ∧ c.key.size ≤ 128 ∧ c.val.size ≤ 1024 ∧ (c.gone = true → c.val.toList = []) ∧ c.seq ≤ 72057594037927935 then 0 else 60

set_option maxRecDepth 100000 in
set_option maxHeartbeats 1000000 in
theorem check_spec (c : Cell) (w : World) :
    Calls Try.prog 74 #[.agg #[.string c.key, .int .u64 c.seq, .string c.val, .bool c.gone]] w fun e w' => e = .returned (.int .i64 (checkN c)) ∧ Below w.heap.size w w' := by
  go_enter Try.func74, Try.ntmps74
  go_wp2
  all_goals go_ret
  all_goals refine ⟨ret_eq ?_, (Below.refl _ _).alloc (Nat.le_refl _) _⟩
  all_goals (unfold checkN; split)
  all_goals first | rfl | (exfalso; rename_i h; obtain ⟨h1, h2, h3, h4, h5⟩ := h; first | omega | (exact absurd (h4 ‹_›) ‹_›)) | (exfalso; rename_i h; refine h ⟨by omega, by omega, by omega, fun hg => ?_, by omega⟩; first | assumption | exact absurd hg ‹_›)

theorem nxt0 {B : List Node} (h : ∀ n ∈ B, 1 ≤ n.h) : nxt 0 B = B.head?.map (·.b) := by
  cases B with
  | nil => rfl
  | cons n B => have := h n (by simp); simp [nxt, show 0 < n.h by omega]
theorem lastAt_last (l hb : Nat) (A : List Node) : ∃ suf, Stands l hb A (lastAt l hb A) suf ∧ ∀ m ∈ suf, ¬ l < m.h := by
  unfold lastAt
  cases h : A.reverse.find? (fun n => decide (l < n.h)) with
  | none => exact ⟨A, .inl ⟨rfl, rfl⟩, fun m hm => by simpa using List.find?_eq_none.1 h m (by simpa using hm)⟩
  | some n =>
    obtain ⟨h1, xs, ys, h2, h3⟩ := List.find?_eq_some_iff_append.1 h
    have hA : A = ys.reverse ++ n :: xs.reverse := by
      have := congrArg List.reverse h2
      simpa using this
    exact ⟨xs.reverse, .inr ⟨ys.reverse, n, hA, rfl, by simpa using h1⟩, fun m hm => by simpa using h3 m (by simpa using hm)⟩
theorem lastAt_blk {w : World} {a hb : Nat} {A B : List Node} {sz : Int} (hs : Skip w a hb (A ++ B) sz) {l : Nat} (hl : l < 12) :
    ∃ c f, Blk w (lastAt l hb A) (nodeArr c f) 105 ∧ f l = ptrv (nxt l B) := by
  obtain ⟨suf, hst, hno⟩ := lastAt_last l hb A
  obtain ⟨c, f, h1, h2⟩ := hst.blk hs hl
  exact ⟨c, f, h1, h2.trans (by rw [nxt_append_none hno])⟩

def getRes (key : ByteArray) : List Node → Cell × Bool
  | [] => (Cell.zero, false)
  | n :: _ => if n.c.key = key then (n.c, true) else (Cell.zero, false)

def GetPost (w : World) (r : Cell × Bool) (e : Ending) (w' : World) : Prop := e = .returned (.tuple #[r.1.v, .bool r.2]) ∧ Below w.heap.size w w'

set_option maxRecDepth 100000 in
set_option maxHeartbeats 1000000 in
theorem get_spec {w : World} {a hb : Nat} {A B : List Node} {sz : Int} (hs : Skip w a hb (A ++ B) sz) (hh : ∀ n ∈ A ++ B, 1 ≤ n.h) (key : ByteArray) (seq : Int)
    (hA : ∀ n ∈ A, lessC n.c key seq < 0) (hB : ∀ n ∈ B, 0 ≤ lessC n.c key seq) :
    Calls Try.prog 23 #[.pointer (some ⟨a, 0, none⟩), .string key, .int .u64 seq] w (GetPost w (getRes key B)) := by
  have hm0 : w.cell? ⟨a, 0, none⟩ = some (.pointer (some ⟨hb, 0, none⟩)) := hs.mem.cell 0 _ rfl
  have ha : a < w.heap.size := hs.mem.lt
  obtain ⟨cp, fp, hbp, hfp⟩ := lastAt_blk hs (l := 0) (by omega)
  have hcn := hbp.cell 4 _ (nodeArr_get cp fp (i := 0) (by omega))
  have hpl := hbp.lt
  rw [hfp, nxt0 fun n hn => hh n (by simp [hn])] at hcn
  clear hfp hbp
  have hout : outAgg hb A = .agg #[.pointer (some ⟨lastAt 0 hb A, 0, none⟩), outp hb A 1, outp hb A 2, outp hb A 3, outp hb A 4, outp hb A 5, outp hb A 6, outp hb A 7, outp hb A 8, outp hb A 9, outp hb A 10, outp hb A 11] := rfl
  have hahead := fun W hsk => @ahead_spec W a hb A B sz hsk key seq hA hB
  rw [hout] at hahead
  clear hout
  have HA := Lib.hid hahead
  clear hahead
  have i0 : ∀ (x1 x2 x3 x4 x5 x6 x7 x8 x9 x10 x11 : Value) (W : World), (Instr.index 103 (.agg #[.pointer (some ⟨lastAt 0 hb A, 0, none⟩), x1, x2, x3, x4, x5, x6, x7, x8, x9, x10, x11]) (.int .i64 0)).run Try.prog W = .ok (.pointer (some ⟨lastAt 0 hb A, 0, none⟩)) W := fun _ _ _ _ _ _ _ _ _ _ _ _ => by kernel_rfl
  cases B with
  | nil =>
    have hcn' : w.cell? ⟨lastAt 0 hb A, 4, none⟩ = some (.pointer none) := hcn
    clear hcn
    go_enter Try.func23, Try.ntmps23
    go_wp2_with (first | (go_at_call 73; refine (made_yes (p := ⟨hb, 0, none⟩) ?_).mono ?_; (go_simp); rintro e w' ⟨rfl, rfl⟩) | (go_at_call 75; refine (HA.out _ (hs.kept ((Below.refl _ _).alloc (Nat.le_refl _) _))).mono ?_; rintro e w' ⟨rfl, hb1⟩; obtain ⟨hc, hf⟩ := bcell hb1))
    refine bodyPost_ret (v := .tuple #[Cell.zero.v, .bool false]) ?_ rfl ⟨rfl, ?_⟩
    · simp [results, Try.results23, go_sem, hc, Cell.v, Cell.zero]; rfl
    · exact Below.set4 (((Below.refl _ _).alloc (Nat.le_refl _) _).trans (hb1.mono (by simp))) (Nat.le_refl _) ..
  | cons n B =>
    have hcn' : w.cell? ⟨lastAt 0 hb A, 4, none⟩ = some (.pointer (some ⟨n.b, 0, none⟩)) := hcn
    clear hcn
    obtain ⟨k0, k1, k2, k3⟩ := nodeArr_cells hs.nodes.at_
    have hnl := hs.nodes.at_.lt
    by_cases hkey : n.c.key = key
    · have hk' : (n.c.key.toList == key.toList) = true := str_beq.2 hkey
      have hr : getRes key (n :: B) = (n.c, true) := by simp [getRes, hkey]
      rw [hr]
      clear hkey hr
      go_enter Try.func23, Try.ntmps23
      go_wp2_with (first | (go_at_call 73; refine (made_yes (p := ⟨hb, 0, none⟩) ?_).mono ?_; (go_simp); rintro e w' ⟨rfl, rfl⟩) | (go_at_call 75; refine (HA.out _ (hs.kept ((Below.refl _ _).alloc (Nat.le_refl _) _))).mono ?_; rintro e w' ⟨rfl, hb1⟩; obtain ⟨hc, hf⟩ := bcell hb1))
      refine bodyPost_ret (v := .tuple #[n.c.v, .bool true]) ?_ rfl ⟨rfl, ?_⟩
      · simp [results, Try.results23, go_sem, hc, Cell.v]
      · exact Below.set4 (((Below.refl _ _).alloc (Nat.le_refl _) _).trans (hb1.mono (by simp))) (Nat.le_refl _) ..
    · have hk' : (n.c.key.toList == key.toList) = false := str_beq_false.2 hkey
      have hr : getRes key (n :: B) = (Cell.zero, false) := by simp [getRes, hkey]
      rw [hr]
      clear hkey hr
      go_enter Try.func23, Try.ntmps23
      go_wp2_with (first | (go_at_call 73; refine (made_yes (p := ⟨hb, 0, none⟩) ?_).mono ?_; (go_simp); rintro e w' ⟨rfl, rfl⟩) | (go_at_call 75; refine (HA.out _ (hs.kept ((Below.refl _ _).alloc (Nat.le_refl _) _))).mono ?_; rintro e w' ⟨rfl, hb1⟩; obtain ⟨hc, hf⟩ := bcell hb1))
      refine bodyPost_ret (v := .tuple #[Cell.zero.v, .bool false]) ?_ rfl ⟨rfl, ?_⟩
      · simp [results, Try.results23, go_sem, hc, Cell.v, Cell.zero]; rfl
      · exact Below.set4 (((Below.refl _ _).alloc (Nat.le_refl _) _).trans (hb1.mono (by simp))) (Nat.le_refl _) ..

theorem len_spec {w : World} {a hb : Nat} {L : List Node} {sz : Int} (hs : Skip w a hb L sz) :
    Calls Try.prog 30 #[.pointer (some ⟨a, 0, none⟩)] w fun e w' => e = .returned (.int .i64 (tall 0 L)) ∧ w = w' := by
  have hm0 : w.cell? ⟨a, 0, none⟩ = some (.pointer (some ⟨hb, 0, none⟩)) := hs.mem.cell 0 _ rfl
  have hm1 : w.cell? ⟨a, 1, none⟩ = some (.int .i64 (tall 0 L)) := hs.mem.cell 1 _ rfl
  go_enter Try.func30, Try.ntmps30
  go_wp2_with (first | (go_at_call 73; refine (made_yes hm0).mono ?_; rintro e w' ⟨rfl, rfl⟩))
  go_ret
  exact ⟨rfl, rfl⟩
theorem size_spec {w : World} {a hb : Nat} {L : List Node} {sz : Int} (hs : Skip w a hb L sz) :
    Calls Try.prog 29 #[.pointer (some ⟨a, 0, none⟩)] w fun e w' => e = .returned (.int .i64 sz) ∧ w = w' := by
  have hm0 : w.cell? ⟨a, 0, none⟩ = some (.pointer (some ⟨hb, 0, none⟩)) := hs.mem.cell 0 _ rfl
  have hm1 : w.cell? ⟨a, 13, none⟩ = some (.int .i64 sz) := hs.mem.cell 13 _ rfl
  go_enter Try.func29, Try.ntmps29
  go_wp2_with (first | (go_at_call 73; refine (made_yes hm0).mono ?_; rintro e w' ⟨rfl, rfl⟩))
  go_ret
  exact ⟨rfl, rfl⟩

end Go.Proofs.Ytbcaiegglbdonaa

/-
  A node is linked one level higher: the plain part of mem.Put.
-/
namespace Go.Proofs.Ytbcaiegglbdonaa
open Go.RowKit

theorem nxt_cons (l : Nat) (n : Node) (L : List Node) : nxt l (n :: L) = if l < n.h then some n.b else nxt l L := by
  by_cases h : l < n.h <;> simp [nxt, h]
theorem links_zero (A : List Node) (nb : Nat) (c : Cell) (B : List Node) (h l : Nat) : links h (A ++ ⟨nb, c, 0⟩ :: B) l = links h (A ++ B) l := by
  unfold links
  congr 2
  induction A with
  | nil => simp [nxt_cons]
  | cons x A ih => simp only [List.cons_append, nxt_cons, ih]
theorem tall_zero (A : List Node) (nb : Nat) (c : Cell) (B : List Node) (l : Nat) : tall l (A ++ ⟨nb, c, 0⟩ :: B) = tall l (A ++ B) := by
  simp [tall, List.filter_append]
theorem nxt_raise (l i nb : Nat) (c : Cell) (A B : List Node) :
    nxt l (A ++ ⟨nb, c, i + 1⟩ :: B) = if l = i ∧ ∀ m ∈ A, ¬ i < m.h then some nb else nxt l (A ++ ⟨nb, c, i⟩ :: B) := by
  induction A with
  | nil =>
    simp only [List.nil_append, nxt_cons]
    by_cases h : l = i
    · subst h; simp
    · rw [if_neg (show ¬ (l = i ∧ _) from fun h' => h h'.1)]
      by_cases h' : l < i
      · rw [if_pos (by omega), if_pos h']
      · rw [if_neg (by omega), if_neg h']
  | cons x A ih =>
    simp only [List.cons_append, nxt_cons, ih]
    by_cases hx : l < x.h
    · rw [if_pos hx, if_pos hx, if_neg]
      rintro ⟨rfl, h⟩
      exact h x (by simp) hx
    · rw [if_neg hx, if_neg hx]
      by_cases h : l = i
      · subst h
        have hx' : x.h ≤ l := by omega
        simp [hx']
      · rw [if_neg (show ¬ (l = i ∧ _) from fun h' => h h'.1), if_neg (show ¬ (l = i ∧ _) from fun h' => h h'.1)]
theorem links_raise_no (h i nb : Nat) (c : Cell) (A B : List Node) (hn : ¬ i < h ∨ ∃ m ∈ A, i < m.h) (l : Nat) :
    links h (A ++ ⟨nb, c, i + 1⟩ :: B) l = links h (A ++ ⟨nb, c, i⟩ :: B) l := by
  unfold links
  by_cases hl : l < h
  · rw [if_pos hl, if_pos hl, nxt_raise, if_neg]
    rintro ⟨rfl, hA⟩
    rcases hn with hn | ⟨m, hm, hi⟩
    · exact hn hl
    · exact hA m hm hi
  · rw [if_neg hl, if_neg hl]
theorem links_raise_yes (h i nb : Nat) (c : Cell) (A B : List Node) (hi : i < h) (hA : ∀ m ∈ A, ¬ i < m.h) (l : Nat) :
    put1 (links h (A ++ ⟨nb, c, i⟩ :: B)) i (.pointer (some ⟨nb, 0, none⟩)) l = links h (A ++ ⟨nb, c, i + 1⟩ :: B) l := by
  unfold put1 links
  by_cases hl : l = i
  · subst hl
    rw [if_pos rfl, if_pos hi, nxt_raise, if_pos ⟨rfl, hA⟩]; rfl
  · rw [if_neg hl, nxt_raise, if_neg (show ¬ (l = i ∧ _) from fun h' => hl h'.1)]
theorem tall_raise (l i nb : Nat) (c : Cell) (A B : List Node) :
    put1 (fun l => tall l (A ++ ⟨nb, c, i⟩ :: B)) i (tall i (A ++ ⟨nb, c, i⟩ :: B) + 1) l = tall l (A ++ ⟨nb, c, i + 1⟩ :: B) := by
  unfold put1
  by_cases hl : l = i
  · subst hl
    simp [tall, List.filter_append]; omega
  · rw [if_neg hl]
    by_cases h' : l < i
    · simp [tall, List.filter_append, h', show l < i + 1 by omega]
    · simp [tall, List.filter_append, h', show ¬ l < i + 1 by omega]

theorem nodes_raise {w w' : World} {i nb : Nat} {c : Cell} {B : List Node} (hB : NodesOK w' B) (hn : Blk w' nb (nodeArr c (links (i + 1) B)) 105) :
    ∀ A : List Node, (∀ X m Y, A = X ++ m :: Y → Blk w m.b (nodeArr m.c (links m.h (Y ++ ⟨nb, c, i⟩ :: B))) 105 → Blk w' m.b (nodeArr m.c (links m.h (Y ++ ⟨nb, c, i + 1⟩ :: B))) 105) →
      NodesOK w (A ++ ⟨nb, c, i⟩ :: B) → NodesOK w' (A ++ ⟨nb, c, i + 1⟩ :: B) := by
  intro A
  induction A with
  | nil => intro _ _; exact ⟨hn, hB⟩
  | cons x A ih =>
    intro hk h
    exact ⟨hk [] x A rfl h.1, ih (fun X m Y e => hk (x :: X) m Y (by simp [e])) h.2⟩

theorem NodesOK.tail {w : World} {A : List Node} {n : Node} {B : List Node} (h : NodesOK w (A ++ n :: B)) : NodesOK w B := by
  induction A with
  | nil => exact h.2
  | cons x A ih => exact ih h.2

theorem Skip.add_zero {w w' : World} {a hb : Nat} {A B : List Node} {sz : Int} (hs : Skip w a hb (A ++ B) sz) (hb' : Below w.heap.size w w') {nb : Nat} (hnb : w.heap.size ≤ nb) (c : Cell)
    (hn : Blk w' nb (nodeArr c fun _ => .pointer none) 105) : Skip w' a hb (A ++ ⟨nb, c, 0⟩ :: B) sz := by
  refine ⟨?_, ?_, ?_, ?_, ?_⟩
  · rw [memArr_congr (g := fun l => tall l (A ++ B)) fun i _ => tall_zero ..]; exact hs.mem.kept hb'
  · rw [nodeArr_congr fun i _ => links_zero A nb c B 12 i]; exact hs.head.kept hb'
  · have h : ∀ A : List Node, NodesOK w (A ++ B) → NodesOK w' (A ++ ⟨nb, c, 0⟩ :: B) := by
      intro A
      induction A with
      | nil => intro h; exact ⟨by rw [nodeArr_congr (g := fun _ => .pointer none) fun i _ => by simp [links]]; exact hn, h.imp fun _ _ _ hB => hB.kept hb'⟩
      | cons x A ih => intro h; exact ⟨by show Blk w' x.b (nodeArr x.c (links x.h (A ++ ⟨nb, c, 0⟩ :: B))) 105; rw [nodeArr_congr fun i _ => links_zero A nb c B x.h i]; exact h.1.kept hb', ih h.2⟩
    exact h A hs.nodes
  · have h := hs.nodup
    have hlt : ∀ k, foot a hb (A ++ B) k → k ≠ nb := fun k hk => by have := hs.foot_lt hk; omega
    have h' : (nb :: (a :: hb :: (A ++ B).map (·.b))).Nodup := List.nodup_cons.2 ⟨fun hm => by
      simp only [List.mem_cons] at hm
      rcases hm with rfl | rfl | hm
      · exact hlt _ (.inl rfl) rfl
      · exact hlt _ (.inr (.inl rfl)) rfl
      · obtain ⟨n, hn', rfl⟩ := List.mem_map.1 hm
        exact hlt _ (.inr (.inr ⟨n, hn', rfl⟩)) rfl, h⟩
    refine (List.Perm.nodup_iff ?_).1 h'
    simp only [List.map_append, List.map_cons]
    exact ((List.Perm.swap a nb _).trans ((List.Perm.swap hb nb _).cons a)).trans ((List.perm_middle (l₁ := A.map (·.b))).symm.cons hb |>.cons a)
  · intro n hn
    rcases List.mem_append.1 hn with h | h
    · exact hs.hts n (by simp [h])
    · rcases List.mem_cons.1 h with rfl | h
      · simp
      · exact hs.hts n (by simp [h])

theorem lastAt_foot (l hb : Nat) (A : List Node) : lastAt l hb A = hb ∨ ∃ n ∈ A, n.b = lastAt l hb A := by
  obtain ⟨suf, h | ⟨pre, n, rfl, hp, _⟩, _⟩ := lastAt_last l hb A
  · exact .inl h.1
  · exact .inr ⟨n, by simp, hp.symm⟩

theorem Skip.ne {w : World} {a hb : Nat} {A B : List Node} {nb : Nat} {c : Cell} {i : Nat} {sz : Int} (hs : Skip w a hb (A ++ ⟨nb, c, i⟩ :: B) sz) (l : Nat) :
    lastAt l hb A ≠ nb ∧ lastAt l hb A ≠ a ∧ a ≠ nb ∧ hb ≠ nb ∧ hb ≠ a := by
  have h := hs.nodup
  simp only [List.map_append, List.map_cons, List.nodup_cons, List.mem_cons, List.mem_append, List.mem_map, List.nodup_append] at h
  obtain ⟨h1, h2, h3, h4, h5⟩ := h
  have e1 : a ≠ nb := fun e => h1 (.inr (.inr (.inl e)))
  have e2 : hb ≠ nb := fun e => h2 (.inr (.inl e))
  have e3 : hb ≠ a := fun e => h1 (.inl e.symm)
  refine ⟨?_, ?_, e1, e2, e3⟩
  · rcases lastAt_foot l hb A with h | ⟨n, hn, h⟩
    · rw [h]; exact e2
    · rw [← h]; intro e; exact h5 _ ⟨n, hn, rfl⟩ nb (.inl rfl) e
  · rcases lastAt_foot l hb A with h | ⟨n, hn, h⟩
    · rw [h]; exact e3
    · rw [← h]; intro e; exact h1 (.inr (.inl ⟨n, hn, e⟩))

theorem split_unique : ∀ {X : List Node} {A : List Node} {m : Node} {Y pre : List Node} {n : Node} {suf : List Node}, (A.map (·.b)).Nodup → A = X ++ m :: Y → A = pre ++ n :: suf → m.b = n.b → X = pre ∧ m = n ∧ Y = suf := by
  intro X
  induction X with
  | nil =>
    intro A m Y pre n suf hnd e1 e2 hmn
    cases pre with
    | nil =>
      rw [e1] at e2
      injection e2 with h1 h2
      exact ⟨rfl, h1, h2⟩
    | cons p pre =>
      exfalso
      rw [e1] at e2 hnd
      injection e2 with h1 h2
      subst h1
      rw [h2] at hnd
      simp only [List.nil_append, List.map_cons, List.nodup_cons] at hnd
      exact hnd.1 (List.mem_map.2 ⟨n, by simp, hmn.symm⟩)
  | cons x X ih =>
    intro A m Y pre n suf hnd e1 e2 hmn
    cases pre with
    | nil =>
      exfalso
      rw [e1] at e2 hnd
      injection e2 with h1 h2
      subst h1
      simp only [List.cons_append, List.map_cons, List.map_append, List.nodup_cons, List.mem_append, List.mem_cons] at hnd
      exact hnd.1 (.inr (.inl hmn.symm))
    | cons p pre =>
      rw [e1] at e2 hnd
      injection e2 with h1 h2
      subst h1
      simp only [List.cons_append, List.map_cons, List.nodup_cons] at hnd
      obtain ⟨rfl, h4, h5⟩ := ih hnd.2 rfl h2 hmn
      exact ⟨rfl, h4, h5⟩
theorem mem_after {i : Nat} : ∀ {X : List Node} {m : Node} {Y pre : List Node} {n : Node} {suf : List Node}, X ++ m :: Y = pre ++ n :: suf → i < m.h → (∀ m' ∈ suf, ¬ i < m'.h) → m ≠ n → n ∈ Y := by
  intro X
  induction X with
  | nil =>
    intro m Y pre n suf e hi hs hne
    cases pre with
    | nil => injection e with h1 h2; exact absurd h1 hne
    | cons p pre => injection e with h1 h2; rw [h2]; simp
  | cons x X ih =>
    intro m Y pre n suf e hi hs hne
    cases pre with
    | nil =>
      injection e with h1 h2
      exact absurd hi (hs m (by rw [← h2]; simp))
    | cons p pre =>
      injection e with h1 h2
      exact ih h2 hi hs hne

/-- One level higher: three stores. -/
theorem Skip.raise {w : World} {a hb : Nat} {A B : List Node} {nb : Nat} {c : Cell} {i : Nat} {sz : Int} (hs : Skip w a hb (A ++ ⟨nb, c, i⟩ :: B) sz) (hi : i < 12) :
    Skip (((w.setCell ⟨nb, 4 + i, none⟩ (ptrv (nxt i B))).setCell ⟨lastAt i hb A, 4 + i, none⟩ (.pointer (some ⟨nb, 0, none⟩))).setCell ⟨a, 1 + i, none⟩ (.int .i64 (tall i (A ++ ⟨nb, c, i⟩ :: B) + 1)))
      a hb (A ++ ⟨nb, c, i + 1⟩ :: B) sz := by
  obtain ⟨n1, n2, n3, n4, n5⟩ := hs.ne i
  have nd := hs.nodup
  simp only [List.map_append, List.map_cons, List.nodup_cons, List.mem_cons, List.mem_append, List.mem_map, List.nodup_append] at nd
  obtain ⟨d1, d2, d3, ⟨d4, d5⟩, d6⟩ := nd
  have hne : ∀ m ∈ A, m.b ≠ nb ∧ m.b ≠ a ∧ m.b ≠ hb := fun m hm => ⟨fun e => d6 _ ⟨m, hm, rfl⟩ nb (.inl rfl) e, fun e => d1 (.inr (.inl ⟨m, hm, e⟩)), fun e => d2 (.inl ⟨m, hm, e⟩)⟩
  have hneB : ∀ m ∈ B, m.b ≠ nb ∧ m.b ≠ a ∧ m.b ≠ lastAt i hb A := fun m hm => ⟨fun e => d4 ⟨m, hm, e⟩, fun e => d1 (.inr (.inr (.inr ⟨m, hm, e⟩))), fun e => by
    rcases lastAt_foot i hb A with h | ⟨n, hn, h⟩
    · exact d2 (.inr (.inr ⟨m, hm, e.trans h⟩))
    · exact d6 n.b ⟨n, hn, rfl⟩ m.b (.inr ⟨m, hm, rfl⟩) (h.trans e.symm)⟩
  have other : ∀ {b : Nat} {arr : Array Value}, b ≠ nb → b ≠ a → b ≠ lastAt i hb A → Blk w b arr 105 →
      Blk (((w.setCell ⟨nb, 4 + i, none⟩ (ptrv (nxt i B))).setCell ⟨lastAt i hb A, 4 + i, none⟩ (.pointer (some ⟨nb, 0, none⟩))).setCell ⟨a, 1 + i, none⟩ (.int .i64 (tall i (A ++ ⟨nb, c, i⟩ :: B) + 1))) b arr 105 :=
    fun h1 h2 h3 h => ((h.setCell_ne h1 _ _).setCell_ne h3 _ _).setCell_ne h2 _ _
  have self : ∀ {h : Nat} {c' : Cell} {Y : List Node}, i < h → (∀ m ∈ Y, ¬ i < m.h) → Blk w (lastAt i hb A) (nodeArr c' (links h (Y ++ ⟨nb, c, i⟩ :: B))) 105 →
      Blk (((w.setCell ⟨nb, 4 + i, none⟩ (ptrv (nxt i B))).setCell ⟨lastAt i hb A, 4 + i, none⟩ (.pointer (some ⟨nb, 0, none⟩))).setCell ⟨a, 1 + i, none⟩ (.int .i64 (tall i (A ++ ⟨nb, c, i⟩ :: B) + 1))) (lastAt i hb A) (nodeArr c' (links h (Y ++ ⟨nb, c, i + 1⟩ :: B))) 105 := by
    intro h c' Y hh hY hblk
    have := ((hblk.setCell_ne n1 (4 + i) (ptrv (nxt i B))).setCell (4 + i) (.pointer (some ⟨nb, 0, none⟩))).setCell_ne n2 (1 + i) (.int .i64 (tall i (A ++ ⟨nb, c, i⟩ :: B) + 1))
    rw [nodeArr_set _ _ hi, nodeArr_congr fun l _ => links_raise_yes h i nb c Y B hh hY l] at this
    exact this
  obtain ⟨suf, hst, hno⟩ := lastAt_last i hb A
  refine ⟨?_, ?_, ?_, ?_, ?_⟩
  · have := ((hs.mem.setCell_ne n3 (4 + i) (ptrv (nxt i B))).setCell_ne (Ne.symm n2) (4 + i) (.pointer (some ⟨nb, 0, none⟩))).setCell (1 + i) (.int .i64 (tall i (A ++ ⟨nb, c, i⟩ :: B) + 1))
    rw [memArr_set _ _ _ hi, memArr_congr fun l _ => tall_raise l i nb c A B] at this
    exact this
  · rcases hst with ⟨hp, rfl⟩ | ⟨pre, n, rfl, hp, hn⟩
    · have := self (h := 12) (c' := Cell.zero) (Y := suf) hi hno (by rw [hp]; exact hs.head)
      rw [hp] at this ⊢
      exact this
    · rw [nodeArr_congr fun l _ => links_raise_no 12 i nb c _ B (.inr ⟨n, by simp, hn⟩) l]
      exact other n4 n5 (by rw [hp]; exact fun e => (hne n (by simp)).2.2 e.symm) hs.head
  · refine nodes_raise (w := w) ?_ ?_ A ?_ hs.nodes
    · exact (hs.nodes.tail).imp fun m hm arr h => other (hneB m hm).1 (hneB m hm).2.1 (hneB m hm).2.2 h
    · have := ((hs.nodes.at_.setCell (4 + i) (ptrv (nxt i B))).setCell_ne (Ne.symm n1) (4 + i) (.pointer (some ⟨nb, 0, none⟩))).setCell_ne (Ne.symm n3) (1 + i) (.int .i64 (tall i (A ++ ⟨nb, c, i⟩ :: B) + 1))
      rw [nodeArr_set _ _ hi, nodeArr_congr (g := links (i + 1) B) fun l _ => by
        unfold put1 links
        by_cases hl : l = i
        · subst hl; rw [if_pos rfl, if_pos (by omega)]
        · rw [if_neg hl]
          by_cases h' : l < i
          · rw [if_pos h', if_pos (by omega)]
          · rw [if_neg h', if_neg (by omega)]] at this
      exact this
    · intro X m Y e hm
      have hmA : m ∈ A := by rw [e]; simp
      rcases hst with ⟨hp, hs'⟩ | ⟨pre, n, e', hp, hn⟩
      · have hm' : ¬ i < m.h := hno m (by rw [hs']; exact hmA)
        rw [nodeArr_congr fun l _ => links_raise_no m.h i nb c Y B (.inl hm') l]
        exact other (hne m hmA).1 (hne m hmA).2.1 (by rw [hp]; exact (hne m hmA).2.2) hm
      · by_cases hmp : m.b = lastAt i hb A
        · -- it is the last one
          have hlen : X = pre ∧ m = n ∧ Y = suf := by
            have hnd : (A.map (·.b)).Nodup := d3
            exact split_unique hnd e e' (hmp.trans hp)
          obtain ⟨rfl, rfl, rfl⟩ := hlen
          rw [hmp] at hm ⊢
          exact self hn hno hm
        · have hcase : ¬ i < m.h ∨ ∃ m' ∈ Y, i < m'.h := by
            by_cases hih : i < m.h
            · right
              refine ⟨n, ?_, hn⟩
              have h1 : X ++ m :: Y = pre ++ n :: suf := e.symm.trans e'
              exact mem_after h1 hih hno (fun e => hmp (by rw [e, hp]))
            · exact .inl hih
          rw [nodeArr_congr fun l _ => links_raise_no m.h i nb c Y B hcase l]
          exact other (hne m hmA).1 (hne m hmA).2.1 hmp hm
  · have h := hs.nodup
    simpa using h
  · intro n hn
    rcases List.mem_append.1 hn with h | h
    · exact hs.hts n (by simp [h])
    · rcases List.mem_cons.1 h with rfl | h
      · simp; omega
      · exact hs.hts n (by simp [h])

end Go.Proofs.Ytbcaiegglbdonaa

/-
  mem.Put.
-/
namespace Go.Proofs.Ytbcaiegglbdonaa
open Go.RowKit

def PutPost (w : World) (a hb : Nat) (A B : List Node) (c : Cell) (h : Nat) (sz : Int) (e : Ending) (w' : World) : Prop :=
  ∃ nb, e = .returned (.int .i64 0) ∧ w.heap.size ≤ nb ∧ Skip w' a hb (A ++ ⟨nb, c, h⟩ :: B) (sz + (c.key.size + c.val.size + 16 : Nat)) ∧ Only (foot a hb (A ++ B)) w w'

def cellArr (c : Cell) : Array Value := #[.string c.key, .int .u64 c.seq, .string c.val, .bool c.gone]
def PutRel (w : World) (a hb : Nat) (A B : List Node) (c : Cell) (h : Nat) (sz : Int) (cb lk nb : Nat) (v : Value) (wr : World) : Prop :=
  ∃ i : Nat, i ≤ h ∧ v = .int .i64 i ∧ Skip wr a hb (A ++ ⟨nb, c, i⟩ :: B) sz ∧ Blk wr lk (arr12 (outp hb A)) 103 ∧ Blk wr cb (cellArr c) 25 ∧ Only (foot a hb (A ++ B)) w wr
theorem tall_get (i : Nat) (A B : List Node) (nb : Nat) (c : Cell) (hl : (A ++ B).length ≤ 4611686018427387904) :
    ∃ t : Int, Hid (tall i (A ++ ⟨nb, c, i⟩ :: B) = t) ∧ 0 ≤ t ∧ t ≤ 4611686018427387905 := by
  refine ⟨_, Lib.hid rfl, by unfold tall; omega, ?_⟩
  have h := List.length_filter_le (fun n : Node => decide (i < n.h)) (A ++ ⟨nb, c, i⟩ :: B)
  simp only [List.length_append, List.length_cons] at h hl
  unfold tall
  omega
theorem put_lt {w : World} {a hb : Nat} {A B : List Node} {sz : Int} (hs : Skip w a hb (A ++ B) sz) (i : Nat) : lastAt i hb A < w.heap.size := by
  rcases lastAt_foot i hb A with h | ⟨n, hn, h⟩
  · rw [h]; exact hs.head.lt
  · rw [← h]; exact hs.foot_lt (.inr (.inr ⟨n, by simp [hn], rfl⟩))
theorem Blk.drewN {w : World} {b : Nat} {arr : Array Value} {t : TypeId} (h : Blk w b arr t) (n : Nat) : Blk (w.drewN n) b arr t := h
theorem Blk.new' (w : World) (arr : Array Value) (t : TypeId) {n : Nat} (hn : n = w.heap.size) : Blk (w.alloc (.cells arr t)) n arr t := by subst hn; exact Blk.new ..
theorem Skip.drew {w : World} {a hb : Nat} {L : List Node} {sz : Int} (h : Skip w a hb L sz) : Skip w.drew a hb L sz := ⟨h.mem, h.head, h.nodes.imp fun _ _ _ hB => hB, h.nodup, h.hts⟩
theorem PutRel.drew {w : World} {a hb : Nat} {A B : List Node} {c : Cell} {h : Nat} {sz : Int} {cb lk nb : Nat} {v : Value} {wr : World} (hr : PutRel w a hb A B c h sz cb lk nb v wr) : PutRel w a hb A B c h sz cb lk nb v wr.drew := by
  obtain ⟨i, h1, h2, h3, h4, h5, h6⟩ := hr
  exact ⟨i, h1, h2, h3.drew, h4, h5, h6.drew⟩
theorem put_close {w wr : World} {a hb : Nat} {A B : List Node} {c : Cell} {h : Nat} {sz : Int} {cb lk nb i : Nat} {t : Int} (hs : Skip w a hb (A ++ B) sz) (hsk : Skip wr a hb (A ++ ⟨nb, c, i⟩ :: B) sz) (hlk : Blk wr lk (arr12 (outp hb A)) 103) (hcb : Blk wr cb (cellArr c) 25)
    (hon : Only (foot a hb (A ++ B)) w wr) (hih : i < h) (h12 : h ≤ 12) (hcw : w.heap.size ≤ cb) (hlw : w.heap.size ≤ lk) (hnw : w.heap.size ≤ nb) (hln : lk ≠ nb) (hcn : cb ≠ nb) (ht : tall i (A ++ ⟨nb, c, i⟩ :: B) = t) :
    PutRel w a hb A B c h sz cb lk nb (.int .i64 ((i : Int) + 1)) (((wr.setCell ⟨nb, 4 + i, none⟩ (.pointer (Option.map (fun b => ⟨b, 0, none⟩) (nxt i B)))).setCell ⟨lastAt i hb A, 4 + i, none⟩ (.pointer (some ⟨nb, 0, none⟩))).setCell ⟨a, 1 + i, none⟩ (.int .i64 (t + 1))) := by
  have hp := put_lt hs i
  have ha : a < w.heap.size := hs.mem.lt
  subst ht
  refine ⟨i + 1, by omega, by simp, hsk.raise (by omega), ((hlk.setCell_ne hln _ _).setCell_ne (by omega) _ _).setCell_ne (by omega) _ _, ((hcb.setCell_ne hcn _ _).setCell_ne (by omega) _ _).setCell_ne (by omega) _ _, ?_⟩
  refine ((hon.setCell (.inr hnw) _ _).setCell (.inl ?_) _ _).setCell (.inl (.inl rfl)) _ _
  rcases lastAt_foot i hb A with h | ⟨n, hn, h⟩
  · exact .inr (.inl h)
  · exact .inr (.inr ⟨n, by simp [hn], h⟩)
theorem put_end {wr : World} {a hb : Nat} {L : List Node} {c : Cell} {sz : Int} (hsk : Skip wr a hb L sz) :
    Skip (wr.setCell ⟨a, 13, none⟩ (.int .i64 (sz + ((c.key.size : Int) + c.val.size + 16)))).drew a hb L (sz + (c.key.size + c.val.size + 16 : Nat)) := by
  have nd := hsk.nodup
  simp only [List.nodup_cons, List.mem_cons, List.mem_map] at nd
  refine ⟨?_, hsk.head.setCell_ne (fun e => nd.1 (.inl e.symm)) _ _, hsk.nodes.imp fun n hn _ hB => hB.setCell_ne (fun e => nd.1 (.inr ⟨n, hn, e⟩)) _ _, hsk.nodup, hsk.hts⟩
  have h := hsk.mem.setCell 13 (.int .i64 (sz + ((c.key.size : Int) + c.val.size + 16)))
  rw [memArr_size] at h
  rw [show sz + (c.key.size + c.val.size + 16 : Nat) = sz + ((c.key.size : Int) + c.val.size + 16) by omega]
  exact h
theorem check_sizes {c : Cell} (h : checkN c = 0) : c.key.size ≤ 128 ∧ c.val.size ≤ 1024 := by
  unfold checkN at h
  split at h
  · rename_i h'; exact ⟨h'.2.1, h'.2.2.1⟩
  · cases h
theorem put_two {w w1 w2 : World} {o : Obj} (h1 : Below (w.alloc o).heap.size (w.alloc o) w1) (h2 : Below w1.heap.size w1 w2) : Below w.heap.size w w2 :=
  (((Below.refl _ _).alloc (Nat.le_refl _) o).trans (h1.mono (by simp))).trans (h2.mono (by have := h1.size; simp at this; omega))
theorem put_three {w w1 w2 w3 : World} {o o' : Obj} (h1 : Below (w.alloc o).heap.size (w.alloc o) w1) (h2 : Below w1.heap.size w1 w2) (h3 : Below (w2.alloc o').drew.heap.size (w2.alloc o').drew w3) : Below w.heap.size w w3 :=
  ((put_two h1 h2).alloc (put_two h1 h2).size o').drew.trans (h3.mono (by have := (put_two h1 h2).size; simp; omega))
/-- A region that draws: n operations that read, then a tail in one order. -/
theorem region_tail {P : Program} {id : Nat} {Q : Exit → Act → World → Prop} {a : Act} {w : World} {l : List Oper} (n : Nat) (hm : P.follows .mixedOrders = true) (hB : Region.lexTailB .any l.toArray n = true)
    (h : wpStill P l.toArray w.drew (fun a' => wpList P l.toArray Q (l.drop n) a' w.drew) (l.take n) a) : (Code.region id l.toArray true).wp P Q a w := wp_region_still_tail n hm hB h
theorem cell4 {w : World} {b : Nat} {v0 v1 v2 v3 : Value} {t : TypeId} (h : Blk w b #[v0, v1, v2, v3] t) :
    w.cell? ⟨b, 0, none⟩ = some v0 ∧ w.cell? ⟨b, 1, none⟩ = some v1 ∧ w.cell? ⟨b, 2, none⟩ = some v2 ∧ w.cell? ⟨b, 3, none⟩ = some v3 :=
  ⟨h.cell 0 _ rfl, h.cell 1 _ rfl, h.cell 2 _ rfl, h.cell 3 _ rfl⟩
set_option maxRecDepth 100000 in
set_option maxHeartbeats 1000000 in
theorem put_new {w : World} {a hb : Nat} {A B : List Node} {sz : Int} (hs : Skip w a hb (A ++ B) sz) (hh : ∀ n ∈ A ++ B, 1 ≤ n.h) (c : Cell) (hc : checkN c = 0) (h : Nat) (h1 : 1 ≤ h) (h12 : h ≤ 12)
    (hA : ∀ n ∈ A, lessC n.c c.key c.seq < 0) (hB : ∀ n ∈ B, 0 < lessC n.c c.key c.seq) (hz0 : 0 ≤ sz) (hz1 : sz ≤ 4611686018427387904) (hl1 : (A ++ B).length ≤ 4611686018427387904) :
    Calls Try.prog 22 #[.pointer (some ⟨a, 0, none⟩), .agg #[.string c.key, .int .u64 c.seq, .string c.val, .bool c.gone], .int .i64 h] w (PutPost w a hb A B c h sz) := by
  have hm0 : w.cell? ⟨a, 0, none⟩ = some (.pointer (some ⟨hb, 0, none⟩)) := hs.mem.cell 0 _ rfl
  have ha : a < w.heap.size := hs.mem.lt
  obtain ⟨cp, fp, hbp, hfp⟩ := lastAt_blk hs (l := 0) (by omega)
  have hcn := hbp.cell 4 _ (nodeArr_get cp fp (i := 0) (by omega))
  have hpl := hbp.lt
  rw [hfp, nxt0 fun n hn => hh n (by simp [hn])] at hcn
  clear hfp hbp
  have hout : outAgg hb A = .agg #[.pointer (some ⟨lastAt 0 hb A, 0, none⟩), .pointer (some ⟨lastAt 1 hb A, 0, none⟩), .pointer (some ⟨lastAt 2 hb A, 0, none⟩), .pointer (some ⟨lastAt 3 hb A, 0, none⟩), .pointer (some ⟨lastAt 4 hb A, 0, none⟩), .pointer (some ⟨lastAt 5 hb A, 0, none⟩), .pointer (some ⟨lastAt 6 hb A, 0, none⟩), .pointer (some ⟨lastAt 7 hb A, 0, none⟩), .pointer (some ⟨lastAt 8 hb A, 0, none⟩), .pointer (some ⟨lastAt 9 hb A, 0, none⟩), .pointer (some ⟨lastAt 10 hb A, 0, none⟩), .pointer (some ⟨lastAt 11 hb A, 0, none⟩)] := rfl
  have hahead := fun W hsk => @ahead_spec W a hb A B sz hsk c.key c.seq hA (fun n hn => Int.le_of_lt (hB n hn))
  rw [hout] at hahead
  clear hout
  have HA := Lib.hid hahead
  clear hahead
  have hcheck := fun W => check_spec c W
  rw [hc] at hcheck
  have HC := Lib.hid hcheck
  obtain ⟨hks, hvs⟩ := check_sizes hc
  clear hcheck hc
  have hi1 : (1 : Int) ≤ (h : Int) := by omega
  have hi12 : (h : Int) ≤ 12 := by omega
  cases B with
  | nil =>
    have hcn' : w.cell? ⟨lastAt 0 hb A, 4, none⟩ = some (.pointer none) := hcn
    have HN : ∀ w2, Below w.heap.size w w2 → w2.cell? ⟨lastAt 0 hb A, 4, none⟩ = some (.pointer none) := fun w2 hb2 => (hb2.cell (p := ⟨lastAt 0 hb A, 4, none⟩) hpl).trans hcn'
    clear hcn hcn'
    have HN' := Lib.hid HN
    clear HN
    go_enter Try.func22, Try.ntmps22
    go_wp2_with (first | (go_at_call 73; refine (made_yes (p := ⟨hb, 0, none⟩) ?_).mono ?_; (go_simp); rintro e w' ⟨rfl, rfl⟩) | (go_at_call 74; refine (HC.out _).mono ?_; rintro e w1 ⟨rfl, hb1⟩; obtain ⟨x0, x1, x2, x3⟩ := cell4 ((Blk.new w _ _).kept hb1)) | (go_at_call 75; refine (HA.out _ ((hs.kept ((Below.refl _ _).alloc (Nat.le_refl _) _)).kept hb1)).mono ?_; rintro e w2 ⟨rfl, hb2⟩; obtain ⟨x0, x1, x2, x3⟩ := cell4 (((Blk.new w _ _).kept hb1).kept hb2); have hcn2 := HN'.out w2 (put_two hb1 hb2); have hpl2 := Nat.lt_of_lt_of_le hpl (put_two hb1 hb2).size; have hsz2 : w.heap.size < w2.heap.size := (((Blk.new w _ _).kept hb1).kept hb2).lt))
    go_quiet (fail)
    go_wp2
    go_loopw [56] (PutRel w a hb A [] c h sz w.heap.size w2.heap.size (w2.heap.size + 1)) (fun i _ => h - (intOf i).toNat)
    case atStart =>
      exact ⟨0, by omega, rfl, (hs.add_zero ((below_drewN ((put_two hb1 hb2).alloc (by omega) _) nq).alloc (by simp; omega) _) (by omega) c (Blk.new' _ _ _ (by simp))), ((Blk.new w2 (arr12 (outp hb A)) 103).drewN nq).alloc _, ((((((Blk.new w (cellArr c) 25).kept hb1).kept hb2)).alloc _).drewN nq).alloc _,
        Only.of_below ((below_drewN ((put_two hb1 hb2).alloc (by omega) _) nq).alloc (by simp; omega) _)⟩
    case round =>
      obtain ⟨i, hi, rfl, hsk, hlk, hcb, hon⟩ := hrel
      by_cases hih : i < h
      · obtain ⟨n1, n2, n3, n4, n5⟩ := hsk.ne i
        obtain ⟨cq, fq, hbq, hfq⟩ := lastAt_blk hsk (l := i) (by omega)
        have hq := hbq.cell (4 + i) _ (nodeArr_get cq fq (i := i) (by omega))
        have hqf := hbq.frozen
        have hql := hbq.lt
        rw [hfq, nxt_cons, if_neg (Nat.lt_irrefl i)] at hq
        unfold ptrv at hq
        clear hbq hfq
        have hn0 := hsk.nodes.at_.cell (4 + i) _ (nodeArr_get _ _ (i := i) (by omega))
        have hnf := hsk.nodes.at_.frozen
        have hl0 : wr.cell? ⟨w2.heap.size, i, none⟩ = some (.pointer (some ⟨lastAt i hb A, 0, none⟩)) := hlk.cell i _ (arr12_get _ (by omega))
        have hc0 : wr.cell? ⟨a, 1 + i, none⟩ = some (.int .i64 (tall i (A ++ ⟨w2.heap.size + 1, c, i⟩ :: []))) := hsk.mem.cell (1 + i) _ (memArr_get _ _ _ (i := i) (by omega))
        have hcf := hsk.mem.frozen
        have hi' : (i : Int) < (h : Int) := by omega
        have hi12' : i < 12 := by omega
        have hi12i : (i : Int) < 12 := by omega
        have hi0i : (0 : Int) ≤ (i : Int) := by omega
        have e1 : w2.heap.size ≠ w2.heap.size + 1 := by omega
        have hpw := put_lt hs i
        have e2 : w2.heap.size ≠ lastAt i hb A := by omega
        have e3 : w2.heap.size ≠ a := by omega
        obtain ⟨t, HT, ht0, ht1⟩ := tall_get i A [] (w2.heap.size + 1) c hl1
        rw [HT.out] at hc0
        have hts : IntKind.i64.wrap (t + 1) = t + 1 := IntWalk.i64_in _ (by omega)
        go_wp2
        refine region_tail 12 (by kernel_rfl) (by kernel_rfl) ?_
        simp only [List.take_succ_cons, List.take_zero, List.drop_succ_cons, List.drop_zero]
        repeat still_step
        refine wpStill_nil ?_
        go_wp2
        refine region_tail 9 (by kernel_rfl) (by kernel_rfl) ?_
        simp only [List.take_succ_cons, List.take_zero, List.drop_succ_cons, List.drop_zero]
        repeat still_step
        refine wpStill_nil ?_
        go_wp2
        go_roundw
        case rel => exact (put_close (t := t) hs hsk hlk hcb hon hih h12 (by omega) (by omega) (by omega) e1 (by omega) HT.out).drew.drew
        case measure => simp [intOf]; omega
      · obtain rfl : i = h := by omega
        obtain ⟨z0, z1, z2, z3⟩ := cell4 hcb
        have hsz : wr.cell? ⟨a, 13, none⟩ = some (.int .i64 sz) := hsk.mem.cell 13 _ rfl
        have hcf := hsk.mem.frozen
        have hs1 : IntKind.i64.wrap ((c.key.size : Int) + c.val.size) = (c.key.size : Int) + c.val.size := IntWalk.i64_in _ (by omega)
        have hs2 : IntKind.i64.wrap ((c.key.size : Int) + c.val.size + 16) = (c.key.size : Int) + c.val.size + 16 := IntWalk.i64_in _ (by omega)
        have hs3 : IntKind.i64.wrap (sz + ((c.key.size : Int) + c.val.size + 16)) = sz + ((c.key.size : Int) + c.val.size + 16) := IntWalk.i64_in _ (by omega)
        go_wp2
        refine region_tail 13 (by kernel_rfl) (by kernel_rfl) ?_
        simp only [List.take_succ_cons, List.take_zero, List.drop_succ_cons, List.drop_zero]
        repeat still_step
        refine wpStill_nil ?_
        go_wp2
        go_ret
        exact ⟨w2.heap.size + 1, rfl, by omega, put_end hsk, (hon.setCell (.inl (.inl rfl)) _ _).drew⟩
  | cons n B =>
    have hcn' : w.cell? ⟨lastAt 0 hb A, 4, none⟩ = some (.pointer (some ⟨n.b, 0, none⟩)) := hcn
    have hnB := hs.nodes.at_
    have hlB := hB n (by simp)
    have hneq : (cellCmp n.c.key n.c.seq c.key c.seq == 0) = false := by
      have : cellCmp n.c.key n.c.seq c.key c.seq ≠ 0 := by unfold lessC at hlB; omega
      simpa using this
    clear hlB
    have HN : ∀ w2, Below w.heap.size w w2 → w2.cell? ⟨lastAt 0 hb A, 4, none⟩ = some (.pointer (some ⟨n.b, 0, none⟩)) := fun w2 hb2 => (hb2.cell (p := ⟨lastAt 0 hb A, 4, none⟩) hpl).trans hcn'
    clear hcn hcn'
    have HN' := Lib.hid HN
    clear HN
    go_enter Try.func22, Try.ntmps22
    go_wp2_with (first | (go_at_call 73; refine (made_yes (p := ⟨hb, 0, none⟩) ?_).mono ?_; (go_simp); rintro e w' ⟨rfl, rfl⟩) | (go_at_call 74; refine (HC.out _).mono ?_; rintro e w1 ⟨rfl, hb1⟩; obtain ⟨x0, x1, x2, x3⟩ := cell4 ((Blk.new w _ _).kept hb1)) | (go_at_call 75; refine (HA.out _ ((hs.kept ((Below.refl _ _).alloc (Nat.le_refl _) _)).kept hb1)).mono ?_; rintro e w2 ⟨rfl, hb2⟩; obtain ⟨x0, x1, x2, x3⟩ := cell4 (((Blk.new w _ _).kept hb1).kept hb2); have hcn2 := HN'.out w2 (put_two hb1 hb2); have hpl2 := Nat.lt_of_lt_of_le hpl (put_two hb1 hb2).size; have hsz2 : w.heap.size < w2.heap.size := (((Blk.new w _ _).kept hb1).kept hb2).lt; obtain ⟨k0, k1, k2, k3⟩ := nodeArr_cells (hnB.kept (put_two hb1 hb2)); have hnl := (hnB.kept (put_two hb1 hb2)).lt))
    refine region_tail 11 (by kernel_rfl) (by kernel_rfl) ?_
    simp only [List.take_succ_cons, List.take_zero, List.drop_succ_cons, List.drop_zero]
    repeat still_step
    refine wpStill_nil ?_
    go_wp2_with (go_at_call 76; refine (mem_compare _ _ _ _ _ _ _).mono ?_; rintro e w3 ⟨rfl, hb3⟩; have hb3' := put_three hb1 hb2 hb3; obtain ⟨x0, x1, x2, x3⟩ := cell4 (((((Blk.new w _ _).kept hb1).kept hb2).alloc _).drew.kept hb3); have hsz3 := hb3.size; simp only [World.size_drew, World.size_alloc] at hsz3)
    go_loopw [56] (PutRel w a hb A (n :: B) c h sz w.heap.size w2.heap.size (w3.heap.size)) (fun i _ => h - (intOf i).toNat)
    case atStart =>
      exact ⟨0, by omega, rfl, (hs.add_zero (hb3'.alloc (by omega) _) (by omega) c (Blk.new _ _ _)), ((Blk.new w2 (arr12 (outp hb A)) 103).drew.kept hb3).alloc _, (((((Blk.new w (cellArr c) 25).kept hb1).kept hb2).alloc _).drew.kept hb3).alloc _,
        Only.of_below (hb3'.alloc (by omega) _)⟩
    case round =>
      obtain ⟨i, hi, rfl, hsk, hlk, hcb, hon⟩ := hrel
      by_cases hih : i < h
      · obtain ⟨n1, n2, n3, n4, n5⟩ := hsk.ne i
        obtain ⟨cq, fq, hbq, hfq⟩ := lastAt_blk hsk (l := i) (by omega)
        have hq := hbq.cell (4 + i) _ (nodeArr_get cq fq (i := i) (by omega))
        have hqf := hbq.frozen
        have hql := hbq.lt
        rw [hfq, nxt_cons, if_neg (Nat.lt_irrefl i)] at hq
        unfold ptrv at hq
        clear hbq hfq
        have hn0 := hsk.nodes.at_.cell (4 + i) _ (nodeArr_get _ _ (i := i) (by omega))
        have hnf := hsk.nodes.at_.frozen
        have hl0 : wr.cell? ⟨w2.heap.size, i, none⟩ = some (.pointer (some ⟨lastAt i hb A, 0, none⟩)) := hlk.cell i _ (arr12_get _ (by omega))
        have hc0 : wr.cell? ⟨a, 1 + i, none⟩ = some (.int .i64 (tall i (A ++ ⟨w3.heap.size, c, i⟩ :: n :: B))) := hsk.mem.cell (1 + i) _ (memArr_get _ _ _ (i := i) (by omega))
        have hcf := hsk.mem.frozen
        have hi' : (i : Int) < (h : Int) := by omega
        have hi12' : i < 12 := by omega
        have hi12i : (i : Int) < 12 := by omega
        have hi0i : (0 : Int) ≤ (i : Int) := by omega
        have e1 : w2.heap.size ≠ w3.heap.size := by omega
        have hpw := put_lt hs i
        have e2 : w2.heap.size ≠ lastAt i hb A := by omega
        have e3 : w2.heap.size ≠ a := by omega
        obtain ⟨t, HT, ht0, ht1⟩ := tall_get i A (n :: B) (w3.heap.size) c hl1
        rw [HT.out] at hc0
        have hts : IntKind.i64.wrap (t + 1) = t + 1 := IntWalk.i64_in _ (by omega)
        go_wp2
        refine region_tail 12 (by kernel_rfl) (by kernel_rfl) ?_
        simp only [List.take_succ_cons, List.take_zero, List.drop_succ_cons, List.drop_zero]
        repeat still_step
        refine wpStill_nil ?_
        go_wp2
        refine region_tail 9 (by kernel_rfl) (by kernel_rfl) ?_
        simp only [List.take_succ_cons, List.take_zero, List.drop_succ_cons, List.drop_zero]
        repeat still_step
        refine wpStill_nil ?_
        go_wp2
        go_roundw
        case rel => exact (put_close (t := t) hs hsk hlk hcb hon hih h12 (by omega) (by omega) (by omega) e1 (by omega) HT.out).drew.drew
        case measure => simp [intOf]; omega
      · obtain rfl : i = h := by omega
        obtain ⟨z0, z1, z2, z3⟩ := cell4 hcb
        have hsz : wr.cell? ⟨a, 13, none⟩ = some (.int .i64 sz) := hsk.mem.cell 13 _ rfl
        have hcf := hsk.mem.frozen
        have hs1 : IntKind.i64.wrap ((c.key.size : Int) + c.val.size) = (c.key.size : Int) + c.val.size := IntWalk.i64_in _ (by omega)
        have hs2 : IntKind.i64.wrap ((c.key.size : Int) + c.val.size + 16) = (c.key.size : Int) + c.val.size + 16 := IntWalk.i64_in _ (by omega)
        have hs3 : IntKind.i64.wrap (sz + ((c.key.size : Int) + c.val.size + 16)) = sz + ((c.key.size : Int) + c.val.size + 16) := IntWalk.i64_in _ (by omega)
        go_wp2
        refine region_tail 13 (by kernel_rfl) (by kernel_rfl) ?_
        simp only [List.take_succ_cons, List.take_zero, List.drop_succ_cons, List.drop_zero]
        repeat still_step
        refine wpStill_nil ?_
        go_wp2
        go_ret
        exact ⟨w3.heap.size, rfl, by omega, put_end hsk, (hon.setCell (.inl (.inl rfl)) _ _).drew⟩

end Go.Proofs.Ytbcaiegglbdonaa

/-
  mem.Put where it refuses.
-/
namespace Go.Proofs.Ytbcaiegglbdonaa
open Go.RowKit

set_option maxRecDepth 100000 in
set_option maxHeartbeats 1000000 in
theorem put_bad {w : World} {a : Nat} {p : Addr} (hm0 : w.cell? ⟨a, 0, none⟩ = some (.pointer (some p))) (c : Cell) (hc : checkN c = 60) (h : Int) :
    Calls Try.prog 22 #[.pointer (some ⟨a, 0, none⟩), .agg #[.string c.key, .int .u64 c.seq, .string c.val, .bool c.gone], .int .i64 h] w fun e w' => e = .returned (.int .i64 60) ∧ Below w.heap.size w w' := by
  have ha := World.block_lt_of_cell? w _ hm0
  have hcheck := fun W => check_spec c W
  rw [hc] at hcheck
  have HC := Lib.hid hcheck
  clear hcheck hc
  go_enter Try.func22, Try.ntmps22
  go_wp2_with (first | (go_at_call 73; refine (made_yes (p := p) ?_).mono ?_; (go_simp); rintro e w' ⟨rfl, rfl⟩) | (go_at_call 74; refine (HC.out _).mono ?_; rintro e w1 ⟨rfl, hb1⟩))
  go_ret
  exact ⟨rfl, ((Below.refl _ _).alloc (Nat.le_refl _) _).trans (hb1.mono (by simp))⟩

set_option maxRecDepth 100000 in
set_option maxHeartbeats 1000000 in
theorem put_height {w : World} {a : Nat} {p : Addr} (hm0 : w.cell? ⟨a, 0, none⟩ = some (.pointer (some p))) (c : Cell) (hc : checkN c = 0) (h : Int) (hh : h < 1 ∨ 12 < h) :
    Calls Try.prog 22 #[.pointer (some ⟨a, 0, none⟩), .agg #[.string c.key, .int .u64 c.seq, .string c.val, .bool c.gone], .int .i64 h] w fun e w' => e = .returned (.int .i64 1) ∧ Below w.heap.size w w' := by
  have ha := World.block_lt_of_cell? w _ hm0
  have hcheck := fun W => check_spec c W
  rw [hc] at hcheck
  have HC := Lib.hid hcheck
  clear hcheck hc
  rcases hh with hh | hh
  all_goals
    go_enter Try.func22, Try.ntmps22
    go_wp2_with (first | (go_at_call 73; refine (made_yes (p := p) ?_).mono ?_; (go_simp); rintro e w' ⟨rfl, rfl⟩) | (go_at_call 74; refine (HC.out _).mono ?_; rintro e w1 ⟨rfl, hb1⟩))
    go_ret
    exact ⟨rfl, ((Below.refl _ _).alloc (Nat.le_refl _) _).trans (hb1.mono (by simp))⟩

set_option maxRecDepth 100000 in
set_option maxHeartbeats 1000000 in
theorem put_zero {w : World} {a : Nat} (hm0 : w.cell? ⟨a, 0, none⟩ = some (.pointer none)) (c : Cell) (h : Int) :
    Calls Try.prog 22 #[.pointer (some ⟨a, 0, none⟩), .agg #[.string c.key, .int .u64 c.seq, .string c.val, .bool c.gone], .int .i64 h] w fun e w' => e = .returned (.int .i64 6) ∧ Below w.heap.size w w' := by
  have ha := World.block_lt_of_cell? w _ hm0
  go_enter Try.func22, Try.ntmps22
  go_wp2_with (first | (go_at_call 73; refine (made_zero ?_).mono ?_; (go_simp); rintro e w' ⟨rfl, rfl⟩))
  go_ret
  exact ⟨rfl, (Below.refl _ _).alloc (Nat.le_refl _) _⟩
set_option maxRecDepth 100000 in
set_option maxHeartbeats 1000000 in
theorem put_nil (w : World) (c : Cell) (h : Int) :
    Calls Try.prog 22 #[.pointer none, .agg #[.string c.key, .int .u64 c.seq, .string c.val, .bool c.gone], .int .i64 h] w fun e w' => e = .returned (.int .i64 6) ∧ Below w.heap.size w w' := by
  go_enter Try.func22, Try.ntmps22
  go_wp2_with (first | (go_at_call 73; refine (made_nil _).mono ?_; rintro e w' ⟨rfl, rfl⟩))
  go_ret
  exact ⟨rfl, (Below.refl _ _).alloc (Nat.le_refl _) _⟩

set_option maxRecDepth 100000 in
set_option maxHeartbeats 1000000 in
theorem put_twice {w : World} {a hb : Nat} {A B : List Node} {n : Node} {sz : Int} (hs : Skip w a hb (A ++ n :: B) sz) (hh : ∀ n' ∈ A ++ n :: B, 1 ≤ n'.h) (c : Cell) (hc : checkN c = 0) (h : Int) (h1 : 1 ≤ h) (h12 : h ≤ 12)
    (hA : ∀ n ∈ A, lessC n.c c.key c.seq < 0) (hn : lessC n.c c.key c.seq = 0) (hB : ∀ n' ∈ B, 0 ≤ lessC n'.c c.key c.seq) :
    Calls Try.prog 22 #[.pointer (some ⟨a, 0, none⟩), .agg #[.string c.key, .int .u64 c.seq, .string c.val, .bool c.gone], .int .i64 h] w fun e w' => e = .returned (.int .i64 61) ∧ Below w.heap.size w w' := by
  have hm0 : w.cell? ⟨a, 0, none⟩ = some (.pointer (some ⟨hb, 0, none⟩)) := hs.mem.cell 0 _ rfl
  have ha : a < w.heap.size := hs.mem.lt
  obtain ⟨cp, fp, hbp, hfp⟩ := lastAt_blk hs (l := 0) (by omega)
  have hcn := hbp.cell 4 _ (nodeArr_get cp fp (i := 0) (by omega))
  have hpl := hbp.lt
  rw [hfp, nxt0 fun n' hn' => hh n' (by simp only [List.mem_append]; exact .inr hn')] at hcn
  clear hfp hbp
  have hout : outAgg hb A = .agg #[.pointer (some ⟨lastAt 0 hb A, 0, none⟩), .pointer (some ⟨lastAt 1 hb A, 0, none⟩), .pointer (some ⟨lastAt 2 hb A, 0, none⟩), .pointer (some ⟨lastAt 3 hb A, 0, none⟩), .pointer (some ⟨lastAt 4 hb A, 0, none⟩), .pointer (some ⟨lastAt 5 hb A, 0, none⟩), .pointer (some ⟨lastAt 6 hb A, 0, none⟩), .pointer (some ⟨lastAt 7 hb A, 0, none⟩), .pointer (some ⟨lastAt 8 hb A, 0, none⟩), .pointer (some ⟨lastAt 9 hb A, 0, none⟩), .pointer (some ⟨lastAt 10 hb A, 0, none⟩), .pointer (some ⟨lastAt 11 hb A, 0, none⟩)] := rfl
  have hahead := fun W hsk => @ahead_spec W a hb A (n :: B) sz hsk c.key c.seq hA (fun n' hn' => by
    rcases List.mem_cons.1 hn' with rfl | hn'
    · omega
    · exact hB n' hn')
  rw [hout] at hahead
  clear hout
  have HA := Lib.hid hahead
  clear hahead
  have hcheck := fun W => check_spec c W
  rw [hc] at hcheck
  have HC := Lib.hid hcheck
  clear hcheck hc
  have hcn' : w.cell? ⟨lastAt 0 hb A, 4, none⟩ = some (.pointer (some ⟨n.b, 0, none⟩)) := hcn
  have hnB := hs.nodes.at_
  have hneq : (cellCmp n.c.key n.c.seq c.key c.seq == 0) = true := by
    unfold lessC at hn
    simpa using hn
  clear hn
  have HN : ∀ w2, Below w.heap.size w w2 → w2.cell? ⟨lastAt 0 hb A, 4, none⟩ = some (.pointer (some ⟨n.b, 0, none⟩)) := fun w2 hb2 => (hb2.cell (p := ⟨lastAt 0 hb A, 4, none⟩) hpl).trans hcn'
  clear hcn hcn'
  have HN' := Lib.hid HN
  clear HN
  go_enter Try.func22, Try.ntmps22
  go_wp2_with (first | (go_at_call 73; refine (made_yes (p := ⟨hb, 0, none⟩) ?_).mono ?_; (go_simp); rintro e w' ⟨rfl, rfl⟩) | (go_at_call 74; refine (HC.out _).mono ?_; rintro e w1 ⟨rfl, hb1⟩; obtain ⟨x0, x1, x2, x3⟩ := cell4 ((Blk.new w _ _).kept hb1)) | (go_at_call 75; refine (HA.out _ ((hs.kept ((Below.refl _ _).alloc (Nat.le_refl _) _)).kept hb1)).mono ?_; rintro e w2 ⟨rfl, hb2⟩; obtain ⟨x0, x1, x2, x3⟩ := cell4 (((Blk.new w _ _).kept hb1).kept hb2); have hcn2 := HN'.out w2 (put_two hb1 hb2); have hpl2 := Nat.lt_of_lt_of_le hpl (put_two hb1 hb2).size; have hsz2 : w.heap.size < w2.heap.size := (((Blk.new w _ _).kept hb1).kept hb2).lt; obtain ⟨k0, k1, k2, k3⟩ := nodeArr_cells (hnB.kept (put_two hb1 hb2)); have hnl := (hnB.kept (put_two hb1 hb2)).lt))
  refine region_tail 11 (by kernel_rfl) (by kernel_rfl) ?_
  simp only [List.take_succ_cons, List.take_zero, List.drop_succ_cons, List.drop_zero]
  repeat still_step
  refine wpStill_nil ?_
  go_wp2_with (go_at_call 76; refine (mem_compare _ _ _ _ _ _ _).mono ?_; rintro e w3 ⟨rfl, hb3⟩; have hb3' := put_three hb1 hb2 hb3)
  go_ret
  exact ⟨rfl, hb3'⟩

end Go.Proofs.Ytbcaiegglbdonaa

/-
  The table in memory as a list of cells with their heights, and the calls of Put and Get told by it.
-/
namespace Go.Proofs.Ytbcaiegglbdonaa
open Go.RowKit

abbrev MM := List (Cell × Nat)
/-- A cell stands ahead of a place. -/
def ahd (key : ByteArray) (seq : Int) (x : Cell × Nat) : Bool := decide (PLt x.1.key x.1.seq key seq)
def aheadM (M : MM) (key : ByteArray) (seq : Int) : MM := M.takeWhile (ahd key seq)
def behindM (M : MM) (key : ByteArray) (seq : Int) : MM := M.dropWhile (ahd key seq)
def SortedM (M : MM) : Prop := M.Pairwise fun x y => PLt x.1.key x.1.seq y.1.key y.1.seq
def sizeM (M : MM) : Int := ((M.map fun x => x.1.key.size + x.1.val.size + 16).sum : Nat)
def cellOkM (M : MM) : Prop := ∀ x ∈ M, checkN x.1 = 0
instance : DecidableEq Cell := fun a b => by
  cases a; cases b
  simp only [Cell.mk.injEq]
  infer_instance
def hitM (B : MM) (c : Cell) : Bool := match B with
  | [] => false
  | x :: _ => decide (x.1.key = c.key ∧ x.1.seq = c.seq)
def putRes (M : MM) (c : Cell) (h : Int) : Int × MM :=
  if checkN c = 60 then (60, M)
  else if h < 1 ∨ 12 < h then (1, M)
  else if hitM (behindM M c.key c.seq) c = true then (61, M)
  else (0, aheadM M c.key c.seq ++ (c, h.toNat) :: behindM M c.key c.seq)
def getM (M : MM) (key : ByteArray) (seq : Int) : Cell × Bool := match behindM M key seq with
  | [] => (Cell.zero, false)
  | x :: _ => if x.1.key = key then (x.1, true) else (Cell.zero, false)

theorem ahead_behind (M : MM) (key : ByteArray) (seq : Int) : aheadM M key seq ++ behindM M key seq = M := List.takeWhile_append_dropWhile
theorem mem_ahead {M : MM} {key : ByteArray} {seq : Int} {x : Cell × Nat} (h : x ∈ aheadM M key seq) : PLt x.1.key x.1.seq key seq := by
  unfold aheadM at h
  induction M with
  | nil => cases h
  | cons y M ih =>
    rw [List.takeWhile_cons] at h
    split at h
    · rename_i hy
      rcases List.mem_cons.1 h with rfl | h
      · exact of_decide_eq_true hy
      · exact ih h
    · cases h
theorem behind_head {M : MM} {key : ByteArray} {seq : Int} {x : Cell × Nat} {B : MM} (h : behindM M key seq = x :: B) : ¬ PLt x.1.key x.1.seq key seq := by
  unfold behindM at h
  induction M with
  | nil => cases h
  | cons y M ih =>
    rw [List.dropWhile_cons] at h
    split at h
    · exact ih h
    · rename_i hy
      injection h with h1 _
      subst h1
      exact fun hp => hy (decide_eq_true hp)
theorem mem_behind {M : MM} (hs : SortedM M) {key : ByteArray} {seq : Int} {x : Cell × Nat} (h : x ∈ behindM M key seq) : ¬ PLt x.1.key x.1.seq key seq := by
  have hsb : SortedM (behindM M key seq) := by
    have : SortedM (aheadM M key seq ++ behindM M key seq) := by rw [ahead_behind]; exact hs
    exact (List.pairwise_append.1 this).2.1
  cases hB : behindM M key seq with
  | nil => rw [hB] at h; cases h
  | cons y B =>
    have hy := behind_head hB
    rw [hB] at h hsb
    rcases List.mem_cons.1 h with rfl | h
    · exact hy
    · intro hx
      exact hy (((List.pairwise_cons.1 hsb).1 x h).trans hx)
theorem ge_of_not {k1 : ByteArray} {s1 : Int} {k2 : ByteArray} {s2 : Int} (h : ¬ PLt k1 s1 k2 s2) : 0 ≤ cellCmp k1 s1 k2 s2 := by
  have := (not_congr (cellCmp_neg_iff (k1 := k1) (s1 := s1) (k2 := k2) (s2 := s2))).2 h
  omega
theorem sorted_split {M : MM} (hs : SortedM M) (key : ByteArray) (seq : Int) : SortedM (aheadM M key seq) ∧ SortedM (behindM M key seq) ∧ ∀ x ∈ aheadM M key seq, ∀ y ∈ behindM M key seq, PLt x.1.key x.1.seq y.1.key y.1.seq := by
  have : SortedM (aheadM M key seq ++ behindM M key seq) := by rw [ahead_behind]; exact hs
  exact List.pairwise_append.1 this
theorem behind_gt {M : MM} (hs : SortedM M) {c : Cell} (hh : hitM (behindM M c.key c.seq) c = false) {x : Cell × Nat} (h : x ∈ behindM M c.key c.seq) : PLt c.key c.seq x.1.key x.1.seq := by
  have hsb := (sorted_split hs c.key c.seq).2.1
  cases hB : behindM M c.key c.seq with
  | nil => rw [hB] at h; cases h
  | cons y B =>
    have hy := behind_head hB
    rw [hB] at h hh hsb
    have hne : ¬ (y.1.key = c.key ∧ y.1.seq = c.seq) := by simpa [hitM] using hh
    have hcy : PLt c.key c.seq y.1.key y.1.seq := by
      rcases PLt.total y.1.key y.1.seq c.key c.seq with h | h | h
      · exact absurd h hy
      · exact absurd h hne
      · exact h
    rcases List.mem_cons.1 h with rfl | h
    · exact hcy
    · exact hcy.trans ((List.pairwise_cons.1 hsb).1 x h)
theorem sorted_put {M : MM} (hs : SortedM M) (c : Cell) (h : Int) : SortedM (putRes M c h).2 := by
  unfold putRes
  split
  · exact hs
  · split
    · exact hs
    · split
      · exact hs
      · rename_i hh
        obtain ⟨h1, h2, h3⟩ := sorted_split hs c.key c.seq
        refine List.pairwise_append.2 ⟨h1, List.pairwise_cons.2 ⟨fun y hy => behind_gt hs (by simpa using hh) hy, h2⟩, fun x hx y hy => ?_⟩
        rcases List.mem_cons.1 hy with rfl | hy
        · exact mem_ahead hx
        · exact h3 x hx y hy

/-- A block's set, a table's list. -/
structure MemIs (w : World) (a : Nat) (F : Nat → Prop) (M : MM) : Prop where
  lt : ∀ k, F k → k < w.heap.size
  sorted : SortedM M
  pos : ∀ x ∈ M, 1 ≤ x.2 ∧ x.2 ≤ 12
  ok : cellOkM M
  skip : ∃ hb L, Skip w a hb L (sizeM M) ∧ L.map (fun n => (n.c, n.h)) = M ∧ ∀ k, foot a hb L k → F k
theorem MemIs.only {w w' : World} {a : Nat} {F : Nat → Prop} {M : MM} (h : MemIs w a F M) {S : Nat → Prop} (ho : Only S w w') (hS : ∀ k, F k → ¬ S k) : MemIs w' a F M := by
  obtain ⟨hb, L, h1, h2, h3⟩ := h.skip
  exact ⟨fun k hk => Nat.lt_of_lt_of_le (h.lt k hk) ho.size, h.sorted, h.pos, h.ok, hb, L, h1.only ho fun k hk => hS k (h3 k hk), h2, h3⟩
theorem MemIs.kept {w w' : World} {a : Nat} {F : Nat → Prop} {M : MM} (h : MemIs w a F M) (hb : Below w.heap.size w w') : MemIs w' a F M :=
  h.only (Only.of_below (S := fun _ => False) hb) fun _ _ h => h
theorem MemIs.head {w : World} {a : Nat} {F : Nat → Prop} {M : MM} (h : MemIs w a F M) : F a ∧ ∃ hb, w.cell? ⟨a, 0, none⟩ = some (.pointer (some ⟨hb, 0, none⟩)) := by
  obtain ⟨hb, L, h1, h2, h3⟩ := h.skip
  exact ⟨h3 a (.inl rfl), hb, h1.mem.cell 0 _ rfl⟩

theorem sizeM_nonneg (M : MM) : 0 ≤ sizeM M := by unfold sizeM; omega
theorem sizeM_le {M : MM} (hM : cellOkM M) : sizeM M ≤ 1168 * M.length := by
  unfold sizeM
  induction M with
  | nil => simp
  | cons x M ih =>
    obtain ⟨h1, h2⟩ := check_sizes (hM x (by simp))
    have := ih (fun y hy => hM y (by simp [hy]))
    simp only [List.map_cons, List.sum_cons, List.length_cons]
    omega
theorem sizeM_insert (A B : MM) (c : Cell) (h : Nat) : sizeM (A ++ (c, h) :: B) = sizeM (A ++ B) + (c.key.size + c.val.size + 16 : Nat) := by
  unfold sizeM
  simp only [List.map_append, List.map_cons, List.sum_append, List.sum_cons]
  omega
theorem check_or (c : Cell) : checkN c = 0 ∨ checkN c = 60 := by unfold checkN; split <;> simp

theorem split_nodes {L : List Node} {A B : MM} (h : L.map (fun n => (n.c, n.h)) = A ++ B) : ∃ LA LB, L = LA ++ LB ∧ LA.map (fun n => (n.c, n.h)) = A ∧ LB.map (fun n => (n.c, n.h)) = B :=
  List.map_eq_append_iff.1 h

def PutM (w : World) (a : Nat) (F : Nat → Prop) (M : MM) (c : Cell) (h : Int) (e : Ending) (w' : World) : Prop :=
  ∃ F', e = .returned (.int .i64 (putRes M c h).1) ∧ MemIs w' a F' (putRes M c h).2 ∧ (∀ k, F' k → F k ∨ w.heap.size ≤ k) ∧ Only F w w'

theorem put_model {w : World} {a : Nat} {F : Nat → Prop} {M : MM} (hm : MemIs w a F M) (c : Cell) (h : Int) (hl : M.length ≤ 1099511627776000) :
    Calls Try.prog 22 #[.pointer (some ⟨a, 0, none⟩), .agg #[.string c.key, .int .u64 c.seq, .string c.val, .bool c.gone], .int .i64 h] w (PutM w a F M c h) := by
  have stay : ∀ r : Int, (putRes M c h) = (r, M) → ∀ e w', e = Ending.returned (.int .i64 r) ∧ Below w.heap.size w w' → PutM w a F M c h e w' := by
    intro r hr e w' ⟨he, hb⟩
    exact ⟨F, by rw [hr]; exact he, by rw [hr]; exact hm.kept hb, fun k hk => .inl hk, Only.of_below hb⟩
  obtain ⟨_, hb0, hm0⟩ := hm.head
  obtain ⟨hb, L, hs, hL, hF⟩ := hm.skip
  rcases check_or c with hc | hc
  · by_cases hh : h < 1 ∨ 12 < h
    · exact (put_height hm0 c hc h hh).mono (stay 1 (by unfold putRes; rw [if_neg (by omega), if_pos hh]))
    · have hab := ahead_behind M c.key c.seq
      rw [← hab] at hL
      obtain ⟨LA, LB, rfl, hA, hB⟩ := split_nodes hL
      have hh1 : ∀ n ∈ LA ++ LB, 1 ≤ n.h := fun n hn => (hm.pos (n.c, n.h) (by rw [← hab, ← hA, ← hB, ← List.map_append]; exact List.mem_map.2 ⟨n, hn, rfl⟩)).1
      have hA' : ∀ n ∈ LA, lessC n.c c.key c.seq < 0 := fun n hn => cellCmp_neg_iff.2 (mem_ahead (x := (n.c, n.h)) (by rw [← hA]; exact List.mem_map.2 ⟨n, hn, rfl⟩))
      obtain ⟨hn, hhn⟩ : ∃ hn : Nat, h = hn := ⟨h.toNat, by omega⟩
      by_cases hit : hitM (behindM M c.key c.seq) c = true
      · cases LB with
        | nil => rw [← hB] at hit; cases hit
        | cons n LB =>
          have hit' := hit
          rw [← hB] at hit'
          have hnc : n.c.key = c.key ∧ n.c.seq = c.seq := by simpa [hitM] using hit'
          rw [hhn]
          refine (put_twice hs hh1 c hc hn (by omega) (by omega) hA' (cellCmp_zero_iff.2 hnc) (fun n' hn' => ?_)).mono ?_
          · exact ge_of_not (mem_behind hm.sorted (x := (n'.c, n'.h)) (by rw [← hB]; exact List.mem_map.2 ⟨n', by simp [hn'], rfl⟩))
          · rw [← hhn]; exact stay 61 (by unfold putRes; rw [if_neg (by omega), if_neg hh, if_pos hit])
      · have hit' : hitM (behindM M c.key c.seq) c = false := by simpa using hit
        have hB' : ∀ n ∈ LB, 0 < lessC n.c c.key c.seq := fun n hn => by
          have := behind_gt hm.sorted hit' (x := (n.c, n.h)) (by rw [← hB]; exact List.mem_map.2 ⟨n, hn, rfl⟩)
          unfold lessC; rw [cellCmp_gt this]; omega
        have hlen : (LA ++ LB).length = M.length := by
          rw [← hab, ← hL, List.length_map]
        have hsz := sizeM_le hm.ok
        have hsz0 := sizeM_nonneg M
        rw [hhn]
        refine (put_new hs hh1 c hc hn (by omega) (by omega) hA' hB' hsz0 (by omega) (by omega)).mono ?_
        rintro e w' ⟨nb, he, hnb, hsk, hon⟩
        have hr : putRes M c (hn : Int) = (0, aheadM M c.key c.seq ++ (c, hn) :: behindM M c.key c.seq) := by
          unfold putRes; rw [if_neg (by omega), if_neg (by omega), if_neg hit, Int.toNat_natCast]
        have hS := sorted_put hm.sorted c hn
        rw [hr] at hS
        refine ⟨fun k => F k ∨ k = nb, by rw [hr]; exact he, ?_, ?_, hon.mono fun k _ hk => hF k hk⟩
        · rw [hr]
          refine ⟨?_, hS, ?_, ?_, hb, _, by rw [sizeM_insert, hab]; exact hsk, by rw [List.map_append, List.map_cons, hA, hB], ?_⟩
          · rintro k (hk | rfl)
            · exact Nat.lt_of_lt_of_le (hm.lt k hk) hon.size
            · exact hsk.foot_lt (.inr (.inr ⟨⟨k, c, hn⟩, by simp, rfl⟩))
          · intro x hx
            rcases List.mem_append.1 hx with hx | hx
            · exact hm.pos x (by rw [← hab]; simp [hx])
            · rcases List.mem_cons.1 hx with rfl | hx
              · exact ⟨by simp; omega, by simp; omega⟩
              · exact hm.pos x (by rw [← hab]; simp [hx])
          · intro x hx
            rcases List.mem_append.1 hx with hx | hx
            · exact hm.ok x (by rw [← hab]; simp [hx])
            · rcases List.mem_cons.1 hx with rfl | hx
              · exact hc
              · exact hm.ok x (by rw [← hab]; simp [hx])
          · rintro k (rfl | rfl | ⟨n, hn, rfl⟩)
            · exact .inl (hF _ (.inl rfl))
            · exact .inl (hF _ (.inr (.inl rfl)))
            · rcases List.mem_append.1 hn with hn | hn
              · exact .inl (hF _ (.inr (.inr ⟨n, by simp [hn], rfl⟩)))
              · rcases List.mem_cons.1 hn with rfl | hn
                · exact .inr rfl
                · exact .inl (hF _ (.inr (.inr ⟨n, by simp [hn], rfl⟩)))
        · rintro k (hk | rfl)
          · exact .inl hk
          · exact .inr hnb
  · exact (put_bad hm0 c hc h).mono (stay 60 (by unfold putRes; rw [if_pos hc]))

theorem get_model {w : World} {a : Nat} {F : Nat → Prop} {M : MM} (hm : MemIs w a F M) (key : ByteArray) (seq : Int) :
    Calls Try.prog 23 #[.pointer (some ⟨a, 0, none⟩), .string key, .int .u64 seq] w (GetPost w (getM M key seq)) := by
  obtain ⟨hb, L, hs, hL, hF⟩ := hm.skip
  have hab := ahead_behind M key seq
  rw [← hab] at hL
  obtain ⟨LA, LB, rfl, hA, hB⟩ := split_nodes hL
  have hh1 : ∀ n ∈ LA ++ LB, 1 ≤ n.h := fun n hn => (hm.pos (n.c, n.h) (by rw [← hab, ← hA, ← hB, ← List.map_append]; exact List.mem_map.2 ⟨n, hn, rfl⟩)).1
  have hA' : ∀ n ∈ LA, lessC n.c key seq < 0 := fun n hn => cellCmp_neg_iff.2 (mem_ahead (x := (n.c, n.h)) (by rw [← hA]; exact List.mem_map.2 ⟨n, hn, rfl⟩))
  have hB' : ∀ n ∈ LB, 0 ≤ lessC n.c key seq := fun n hn => ge_of_not (mem_behind hm.sorted (x := (n.c, n.h)) (by rw [← hB]; exact List.mem_map.2 ⟨n, hn, rfl⟩))
  have hr : getM M key seq = getRes key LB := by
    unfold getM
    rw [← hB]
    cases LB <;> rfl
  rw [hr]
  exact get_spec hs hh1 key seq hA' hB'

end Go.Proofs.Ytbcaiegglbdonaa

/-
  mem.Levels, Scan; the law's sameInts.
-/
namespace Go.Proofs.Ytbcaiegglbdonaa
open Go.RowKit

theorem Try.infoInt : (Try.prog.info? 3).map (fun i => (i.zero, i.size, i.bytes)) = some (some (.int .i64 0), 1, 8) := by kernel_rfl
def cellZ : Value := .agg #[.string ⟨#[]⟩, .int .u64 0, .string ⟨#[]⟩, .bool false]
theorem Try.infoCell : (Try.prog.info? 25).map (fun i => (i.zero, i.size, i.bytes)) = some (some cellZ, 4, 48) := by kernel_rfl

def ints (l : List Int) : List Value := l.map (Value.int .i64)
/-- A slice that reads as values, k cells an element. -/
def Reads (w : World) (v : Value) (n k : Nat) (xs : List Value) : Prop :=
  xs.length = n * k ∧ n ≤ 9223372036854775807 ∧ ∃ A cap, v = .slice A n cap ∧ (n = 0 ∨ ∃ b o, A = some ⟨b, o, none⟩ ∧ b < w.heap.size ∧ ∀ j u, xs[j]? = some u → w.cell? ⟨b, o + j, none⟩ = some u)
theorem Reads.kept {w w' : World} {v : Value} {n k : Nat} {xs : List Value} (h : Reads w v n k xs) (hb : Below w.heap.size w w') : Reads w' v n k xs := by
  obtain ⟨h1, h2, A, cap, rfl, h3⟩ := h
  refine ⟨h1, h2, A, cap, rfl, ?_⟩
  rcases h3 with h3 | ⟨b, o, rfl, h4, h5⟩
  · exact .inl h3
  · exact .inr ⟨b, o, rfl, Nat.lt_of_lt_of_le h4 hb.size, fun j u hj => (hb.cell (p := ⟨b, o + j, none⟩) h4).trans (h5 j u hj)⟩
theorem Reads.below {w w' : World} {v : Value} {n k B : Nat} {xs : List Value} (h : Reads w v n k xs) (hB : w.heap.size ≤ B) (hb : Below B w w') : Reads w' v n k xs := h.kept (hb.mono hB)
theorem Reads.of_own {w : World} {B e k n : Nat} {v : Value} {xs : List Value} (h : w.ownsRow B e k v n xs) : Reads w v n k xs := by
  obtain ⟨h1, h2⟩ := h
  rcases h2 with ⟨rfl, rfl⟩ | ⟨g, cap, cur, rfl, _, hg, hc, hm, hs, ht⟩
  · exact ⟨h1, by omega, none, 0, rfl, .inl rfl⟩
  · refine ⟨h1, by simp only [maxLen] at hm; omega, _, cap, rfl, .inr ⟨g, 0, rfl, lt_of_block hg, fun j u hj => ?_⟩⟩
    have hj' : j < n * k := by rw [← h1]; exact (List.getElem?_eq_some_iff.1 hj).1
    rw [← ht, List.getElem?_take_of_lt hj'] at hj
    simp only [World.cell?, hg, Nat.zero_add, Option.isSome_none, Bool.false_eq_true, if_false]
    simpa using hj

def levUpto (f : Nat → Int) (k : Nat) : List Int := ((List.range k).map f).filter (fun x => decide (0 < x))
theorem levUpto_succ (f : Nat → Int) (k : Nat) : levUpto f (k + 1) = if 0 < f k then levUpto f k ++ [f k] else levUpto f k := by
  unfold levUpto
  rw [List.range_succ, List.map_append, List.filter_append]
  by_cases h : 0 < f k <;> simp [h]
theorem levUpto_len (f : Nat → Int) (k : Nat) : (levUpto f k).length ≤ k := by
  unfold levUpto
  exact Nat.le_trans (List.length_filter_le _ _) (by simp)
theorem ints_len (l : List Int) : (ints l).length = l.length := by simp [ints]
def LevPost (w : World) (l : List Int) (e : Ending) (w' : World) : Prop := ∃ v, e = .returned v ∧ w'.ownsRow w.heap.size 3 1 v l.length (ints l) ∧ Below w.heap.size w w'
def LevRel (w : World) (f : Nat → Int) (out i : Value) (wr : World) : Prop :=
  ∃ k : Nat, k ≤ 12 ∧ i = .int .i64 k ∧ wr.ownsRow w.heap.size 3 1 out (levUpto f k).length (ints (levUpto f k)) ∧ Below w.heap.size w wr

theorem index58 (f : Nat → Int) (W : World) : ∀ i : Nat, i < 12 → (Instr.index 58 (.agg #[.int .i64 (f 0), .int .i64 (f 1), .int .i64 (f 2), .int .i64 (f 3), .int .i64 (f 4), .int .i64 (f 5), .int .i64 (f 6), .int .i64 (f 7), .int .i64 (f 8), .int .i64 (f 9), .int .i64 (f 10), .int .i64 (f 11)]) (.int .i64 (i : Int))).run Try.prog W = .ok (.int .i64 (f i)) W := by
  intro i hi
  rcases lt12 hi with rfl | rfl | rfl | rfl | rfl | rfl | rfl | rfl | rfl | rfl | rfl | rfl <;> kernel_rfl

theorem own_append {w wr : World} {f : Nat → Int} {k : Nat} {v : Value} (hf : 0 < f k) (h : wr.ownsRow w.heap.size 3 1 v ((levUpto f k).length + 1) (ints (levUpto f k) ++ [.int .i64 (f k)])) :
    wr.ownsRow w.heap.size 3 1 v (levUpto f (k + 1)).length (ints (levUpto f (k + 1))) := by
  rw [levUpto_succ, if_pos hf]
  simpa [ints] using h

set_option maxRecDepth 100000 in
set_option maxHeartbeats 1000000 in
theorem levels_spec {w : World} {a hb : Nat} {L : List Node} {sz : Int} (hs : Skip w a hb L sz) :
    Calls Try.prog 28 #[.pointer (some ⟨a, 0, none⟩)] w (LevPost w (levUpto (fun l => tall l L) 12)) := by
  obtain ⟨f, hf⟩ : ∃ f, f = fun l => tall l L := ⟨_, rfl⟩
  have hmem := hs.mem
  rw [← hf] at hmem ⊢
  clear hf
  have hm0 : w.cell? ⟨a, 0, none⟩ = some (.pointer (some ⟨hb, 0, none⟩)) := hmem.cell 0 _ rfl
  have m0 : w.cell? ⟨a, 1, none⟩ = some (.int .i64 (f 0)) := hmem.cell 1 _ rfl
  have m1 : w.cell? ⟨a, 2, none⟩ = some (.int .i64 (f 1)) := hmem.cell 2 _ rfl
  have m2 : w.cell? ⟨a, 3, none⟩ = some (.int .i64 (f 2)) := hmem.cell 3 _ rfl
  have m3 : w.cell? ⟨a, 4, none⟩ = some (.int .i64 (f 3)) := hmem.cell 4 _ rfl
  have m4 : w.cell? ⟨a, 5, none⟩ = some (.int .i64 (f 4)) := hmem.cell 5 _ rfl
  have m5 : w.cell? ⟨a, 6, none⟩ = some (.int .i64 (f 5)) := hmem.cell 6 _ rfl
  have m6 : w.cell? ⟨a, 7, none⟩ = some (.int .i64 (f 6)) := hmem.cell 7 _ rfl
  have m7 : w.cell? ⟨a, 8, none⟩ = some (.int .i64 (f 7)) := hmem.cell 8 _ rfl
  have m8 : w.cell? ⟨a, 9, none⟩ = some (.int .i64 (f 8)) := hmem.cell 9 _ rfl
  have m9 : w.cell? ⟨a, 10, none⟩ = some (.int .i64 (f 9)) := hmem.cell 10 _ rfl
  have m10 : w.cell? ⟨a, 11, none⟩ = some (.int .i64 (f 10)) := hmem.cell 11 _ rfl
  have m11 : w.cell? ⟨a, 12, none⟩ = some (.int .i64 (f 11)) := hmem.cell 12 _ rfl
  clear hmem hs
  obtain ⟨i0, hi, hz0, hz1, hz2⟩ := info_parts Try.infoInt
  go_enter Try.func28, Try.ntmps28
  go_wp2_with (first | (go_at_call 73; refine (made_yes hm0).mono ?_; rintro e w' ⟨rfl, rfl⟩))
  clear hm0 m0 m1 m2 m3 m4 m5 m6 m7 m8 m9 m10 m11
  go_loopw [3, 13] (LevRel w f) (fun _ i _ => 12 - (intOf i).toNat)
  case atStart => exact ⟨0, by omega, rfl, ⟨rfl, .inl ⟨rfl, rfl⟩⟩, Below.refl _ _⟩
  case round =>
    obtain ⟨k, hk, rfl, hown, hbel⟩ := hrel
    by_cases hlt : k < 12
    · have hix := index58 f
      have hix' := fun W => hix W k hlt
      clear hix
      have hlt' : (k : Int) < 12 := by omega
      have hln := levUpto_len f k
      by_cases hpos : 0 < f k
      · go_wp2_with (first | (at_builtin; refine wpList_append_own _ rfl _ _ 42 rfl w.heap.size 3 i0 (.int .i64 0) 1 8 Try.underlying42 hi hz0 hz1 hz2 rfl (by decide) _ _ _ rfl (hown.alloc _) ⟨wr.heap.size, 0, none⟩ 1 1 [.int .i64 (f k)] rfl rfl ?c1 ?c2 ?c3 ?c4 ?c5 ?_))
        case c1 => exact (cell_one_new _ _ _)
        case c2 => simp [Value.oneCell']
        case c3 => unfold maxLen; omega
        case c4 => omega
        case c5 => simp; have := hbel.size; omega
        intro v' w1 hown1 hgr _
        go_wp2
        go_roundw
        case rel => exact ⟨k + 1, by omega, by go_num, own_append hpos hown1, (hbel.alloc hbel.size _).grown hgr (by simp; have := hbel.size; omega) (fun j hj => (hown.lt j hj).1)⟩
        case measure => simp [intOf]; omega
      · go_wp2
        go_roundw
        case rel => exact ⟨k + 1, by omega, by go_num, by rw [levUpto_succ, if_neg hpos]; exact hown, hbel⟩
        case measure => simp [intOf]; omega
    · obtain rfl : k = 12 := by omega
      go_wp2
      go_ret
      exact ⟨_, rfl, hown, hbel⟩

theorem ret_bool {a b : Bool} (h : a = b) : Ending.returned (Value.bool a) = .returned (.bool b) := by rw [h]
def SameRel (w : World) (l1 l2 : List Int) (i : Value) (wr : World) : Prop := ∃ k : Nat, k ≤ l1.length ∧ i = .int .i64 k ∧ l1.take k = l2.take k ∧ Below w.heap.size w wr
theorem same_step {α : Type} {l1 l2 : List α} {k : Nat} {x y : α} (h : l1.take k = l2.take k) (hx : l1[k]? = some x) (hy : l2[k]? = some y) (e : x = y) : l1.take (k + 1) = l2.take (k + 1) := by
  rw [List.take_add_one, List.take_add_one, h, hx, hy, e]
set_option maxRecDepth 100000 in
set_option maxHeartbeats 1000000 in
theorem sameInts_spec {w : World} {v1 v2 : Value} {l1 l2 : List Int} (h1 : Reads w v1 l1.length 1 (ints l1)) (h2 : Reads w v2 l2.length 1 (ints l2)) :
    Calls Try.prog 72 #[v1, v2] w fun e w' => e = .returned (.bool (decide (l1 = l2))) ∧ Below w.heap.size w w' := by
  obtain ⟨_, hm1, A1, c1, rfl, hr1⟩ := h1
  obtain ⟨_, hm2, A2, c2, rfl, hr2⟩ := h2
  by_cases hl : l1.length = l2.length
  · have hlb : ((l1.length : Int) != (l2.length : Int)) = false := by simp [hl]
    have hl2 : (l2.length : Int) = (l1.length : Int) := by omega
    go_enter Try.func72, Try.ntmps72
    go_wp2
    go_loopw [13] (SameRel w l1 l2) (fun i _ => l1.length - (intOf i).toNat)
    case atStart => exact ⟨0, by omega, rfl, rfl, Below.refl _ _⟩
    case round =>
      obtain ⟨k, hk, rfl, heq, hbel⟩ := hrel
      by_cases hlt : k < l1.length
      · obtain ⟨b1, o1, rfl, g1, f1⟩ := hr1.resolve_left (by omega)
        obtain ⟨b2, o2, rfl, g2, f2⟩ := hr2.resolve_left (by omega)
        obtain ⟨x, hx⟩ : ∃ x, l1[k]? = some x := ⟨_, List.getElem?_eq_getElem hlt⟩
        obtain ⟨y, hy⟩ : ∃ y, l2[k]? = some y := ⟨_, List.getElem?_eq_getElem (by omega)⟩
        have e1 : wr.cell? ⟨b1, o1 + k, none⟩ = some (.int .i64 x) := (hbel.cell (p := ⟨b1, o1 + k, none⟩) g1).trans (f1 k _ (by simp [ints, hx]))
        have e2 : wr.cell? ⟨b2, o2 + k, none⟩ = some (.int .i64 y) := (hbel.cell (p := ⟨b2, o2 + k, none⟩) g2).trans (f2 k _ (by simp [ints, hy]))
        have i1 : (k : Int) < (l1.length : Int) := by omega
        have i2 : (k : Int) < (l2.length : Int) := by omega
        have i0 : (0 : Int) ≤ (k : Int) := by omega
        have HX := Lib.hid hx
        have HY := Lib.hid hy
        have HE := Lib.hid heq
        clear hx hy heq f1 f2 hl2 hl
        by_cases hxy : x = y
        · have hb : (x != y) = false := by simp [hxy]
          have HXY := Lib.hid hxy
          clear hxy
          go_wp2
          go_quiet (fail)
          go_wp2
          go_roundw
          case rel => exact ⟨k + 1, by omega, by go_num, same_step HE.out HX.out HY.out HXY.out, below_drewN hbel nq⟩
          case measure => simp [intOf]; omega
        · have hb : (x != y) = true := by simp [hxy]
          have hne : decide (l1 = l2) = false := by
            simp; rintro rfl; exact hxy (Option.some.inj (HX.out.symm.trans HY.out))
          have HN := Lib.hid hne
          clear hne hxy
          go_wp2
          go_quiet (fail)
          go_wp2
          go_ret
          exact ⟨ret_bool HN.out.symm, below_drewN hbel nq⟩
      · obtain rfl : k = l1.length := by omega
        have heq' : decide (l1 = l2) = true := by
          simp
          have := heq
          rwa [List.take_length, hl, List.take_length] at this
        have HN := Lib.hid heq'
        clear heq heq' hl hl2
        go_wp2
        go_ret
        exact ⟨ret_bool HN.out.symm, hbel⟩
  · have hlb : ((l1.length : Int) != (l2.length : Int)) = true := by simp; omega
    have hne : decide (l1 = l2) = false := by simp; rintro rfl; exact hl rfl
    rw [hne]
    clear hne hl
    go_enter Try.func72, Try.ntmps72
    go_wp2
    go_ret
    exact ⟨rfl, Below.refl _ _⟩

theorem scan_some (p : Value) (s t : ByteArray) (w : World) (hp : ∃ q, p = .pointer q) :
    Calls Try.prog 26 #[p, .string s, .string t] w fun e w' => e = .returned (.func (.func 77) #[] #[.pointer (some ⟨w.heap.size, 0, none⟩), .pointer (some ⟨w.heap.size + 1, 0, none⟩), .pointer (some ⟨w.heap.size + 2, 0, none⟩)]) ∧
      Blk w' w.heap.size #[p] 26 ∧ Blk w' (w.heap.size + 1) #[.string s] 9 ∧ Blk w' (w.heap.size + 2) #[.string t] 9 ∧ Below w.heap.size w w' := by
  obtain ⟨q, rfl⟩ := hp
  go_enter Try.func26, Try.ntmps26
  go_wp2
  go_ret
  refine ⟨rfl, ((Blk.new w _ _).alloc _).alloc _, (Blk.new' _ _ _ (by simp)).alloc _, Blk.new' _ _ _ (by simp), (((Below.refl _ _).alloc (Nat.le_refl _) _).alloc (by simp) _).alloc (by simp; omega) _⟩

end Go.Proofs.Ytbcaiegglbdonaa

/-
  The law's example: awake.
-/
namespace Go.Proofs.Ytbcaiegglbdonaa
open Go.RowKit

theorem put_model' {w : World} {a : Nat} {F : Nat → Prop} {M : MM} (hm : MemIs w a F M) (k : ByteArray) (s : Int) (v : ByteArray) (g : Bool) (h : Int) (hl : M.length ≤ 1099511627776000) :
    Calls Try.prog 22 #[.pointer (some ⟨a, 0, none⟩), .agg #[.string k, .int .u64 s, .string v, .bool g], .int .i64 h] w (PutM w a F M ⟨k, s, v, g⟩ h) := put_model hm ⟨k, s, v, g⟩ h hl

theorem PutM.step {w0 w w' : World} {a : Nat} {F : Nat → Prop} {M : MM} {c : Cell} {h : Int} {e : Ending} {r : Int} {M' : MM} {B : Nat} (hp : PutM w a F M c h e w') (hr : putRes M c h = (r, M')) (hF : ∀ k, F k → B ≤ k) (hB : Below B w0 w) (hw : B ≤ w.heap.size) :
    ∃ F', e = .returned (.int .i64 r) ∧ MemIs w' a F' M' ∧ (∀ k, F' k → B ≤ k) ∧ Below B w0 w' ∧ B ≤ w'.heap.size := by
  obtain ⟨F', he, hm, hF', ho⟩ := hp
  rw [hr] at he hm
  exact ⟨F', he, hm, fun k hk => (hF' k hk).elim (hF k) (fun h => Nat.le_trans hw h), hB.trans (ho.below hw hF), Nat.le_trans hw ho.size⟩
theorem NewPost.mem {w : World} {e : Ending} {w' : World} (h : NewPost w e w') : e = .returned (.pointer (some ⟨w.heap.size + 1, 0, none⟩)) ∧ MemIs w' (w.heap.size + 1) (fun k => k = w.heap.size + 1 ∨ k = w.heap.size) [] ∧ Below w.heap.size w w' ∧ w'.heap.size = w.heap.size + 2 := by
  obtain ⟨h1, h2, h3, h4⟩ := h
  refine ⟨h1, ⟨?_, List.Pairwise.nil, by simp, fun x hx => (by cases hx), w.heap.size, [], h2, rfl, ?_⟩, h3, h4⟩
  · rintro k (rfl | rfl) <;> omega
  · rintro k (rfl | rfl | ⟨n, hn, _⟩)
    · exact .inl rfl
    · exact .inr rfl
    · cases hn
theorem len_model {w : World} {a : Nat} {F : Nat → Prop} {M : MM} (hm : MemIs w a F M) : Calls Try.prog 30 #[.pointer (some ⟨a, 0, none⟩)] w fun e w' => e = .returned (.int .i64 M.length) ∧ w = w' := by
  obtain ⟨hb, L, hs, hL, hF⟩ := hm.skip
  refine (len_spec hs).mono ?_
  rintro e w' ⟨rfl, rfl⟩
  refine ⟨ret_eq ?_, rfl⟩
  have h1 : L.filter (fun n => decide (0 < n.h)) = L := List.filter_eq_self.2 fun n hn => by
    have := (hm.pos (n.c, n.h) (by rw [← hL]; exact List.mem_map.2 ⟨n, hn, rfl⟩)).1
    simp; omega
  unfold tall
  rw [h1, ← hL, List.length_map]
def tallM (M : MM) (l : Nat) : Int := ((M.filter (fun x => decide (l < x.2))).length : Int)
def levM (M : MM) : List Int := levUpto (tallM M) 12
theorem tall_map (l : Nat) (L : List Node) : tall l L = tallM (L.map (fun n => (n.c, n.h))) l := by
  unfold tall tallM
  rw [List.filter_map, List.length_map]
  rfl
theorem levels_model {w : World} {a : Nat} {F : Nat → Prop} {M : MM} (hm : MemIs w a F M) : Calls Try.prog 28 #[.pointer (some ⟨a, 0, none⟩)] w (LevPost w (levM M)) := by
  obtain ⟨hb, L, hs, hL, hF⟩ := hm.skip
  have h := levels_spec hs
  rw [show (fun l => tall l L) = tallM M from funext fun l => by rw [tall_map, hL]] at h
  exact h

def cA : Cell := ⟨⟨#[97]⟩, 1, ⟨#[120]⟩, false⟩
def cB : Cell := ⟨⟨#[97]⟩, 3, ⟨#[]⟩, true⟩
def cC : Cell := ⟨⟨#[98]⟩, 2, ⟨#[121]⟩, false⟩
theorem pA : putRes [] ⟨⟨#[97]⟩, 1, ⟨#[120]⟩, false⟩ 1 = (0, [(cA, 1)]) := by kernel_rfl
theorem pB : putRes [(cA, 1)] ⟨⟨#[97]⟩, 3, ⟨#[]⟩, true⟩ 2 = (0, [(cB, 2), (cA, 1)]) := by kernel_rfl
theorem pC : putRes [(cB, 2), (cA, 1)] ⟨⟨#[98]⟩, 2, ⟨#[121]⟩, false⟩ 1 = (0, [(cB, 2), (cA, 1), (cC, 1)]) := by kernel_rfl
theorem gA : getM [(cB, 2), (cA, 1), (cC, 1)] ⟨#[97]⟩ 2 = (cA, true) := by kernel_rfl
theorem lA : levM [(cB, 2), (cA, 1), (cC, 1)] = [3, 1] := by kernel_rfl

theorem func_eql (x y z : Value) (W : World) : (binOp .eql 38 (.func (.func 77) #[] #[x, y, z]) .nilFunc).run Try.prog W = .ok (.bool false) W := by kernel_rfl
theorem func_neq (x y z : Value) (W : World) : (binOp .neq 38 (.func (.func 77) #[] #[x, y, z]) .nilFunc).run Try.prog W = .ok (.bool true) W := by kernel_rfl

set_option maxRecDepth 100000 in
set_option maxHeartbeats 1000000 in
theorem awake_spec (w : World) : Calls Try.prog 21 #[] w fun e w' => e = .returned (.bool true) ∧ Below w.heap.size w w' := by
  have fq := func_eql
  have fn := func_neq
  go_enter Try.func21, Try.ntmps21
  go_wp2_with fail
  refine (new_spec w).mono ?_
  rintro e w1 hn
  obtain ⟨rfl, hm1, hb1, hz1⟩ := hn.mem
  clear hn
  go_wp2_with fail
  refine (scan_some _ _ _ w1 ⟨_, rfl⟩).mono ?_
  rintro e w2 ⟨rfl, _, _, _, hb2⟩
  have hm2 := hm1.kept hb2
  have hB2 := hb1.trans (hb2.mono hb1.size)
  have hz2 : w.heap.size ≤ w2.heap.size := hB2.size
  go_wp2_with fail
  refine (put_model' hm2 _ _ _ _ _ (by simp)).mono ?_
  rintro e w3 hp
  obtain ⟨F3, rfl, hm3, hF3, hB3, hz3⟩ := hp.step pA (B := w.heap.size) (by rintro k (rfl | rfl) <;> omega) hB2 hz2
  clear hp
  go_wp2_with fail
  refine (put_model' hm3 _ _ _ _ _ (by simp)).mono ?_
  rintro e w4 hp
  obtain ⟨F4, rfl, hm4, hF4, hB4, hz4⟩ := hp.step pB hF3 hB3 hz3
  clear hp
  go_wp2_with fail
  refine (put_model' hm4 _ _ _ _ _ (by simp)).mono ?_
  rintro e w5 hp
  obtain ⟨F5, rfl, hm5, hF5, hB5, hz5⟩ := hp.step pC hF4 hB4 hz4
  clear hp hm2 hm3 hm4 hF3 hF4 hB2 hB3 hB4 hz2 hz3 hz4 hb1 hb2 hm1
  go_wp2_with fail
  refine (get_model hm5 _ _).mono ?_
  rintro e w6 ⟨he, hb6⟩
  rw [gA] at he
  subst he
  have hm6 := (hm5.kept hb6).kept ((Below.refl _ _).alloc (Nat.le_refl _) (.cells #[.string cA.key, .int .u64 cA.seq, .string cA.val, .bool cA.gone] 25))
  have hB6 := hB5.trans (hb6.mono hz5)
  unfold Cell.v cA
  go_wp2_with fail
  refine (scan_some _ _ _ _ ⟨_, rfl⟩).mono ?_
  rintro e w7 ⟨rfl, _, _, _, hb7⟩
  have hx : w7.cell? ⟨w6.heap.size, 2, none⟩ = some (.string ⟨#[120]⟩) := ((Blk.new w6 #[.string ⟨#[97]⟩, .int .u64 1, .string ⟨#[120]⟩, .bool false] 25).kept hb7).cell 2 _ rfl
  have hm7 := hm6.kept hb7
  have hB7 := (hB6.alloc hB6.size _).trans (hb7.mono (by have := hB6.size; simp; omega))
  clear hb7 hm6 hB6 hB5 hm5
  go_wp2_with fail
  refine (len_model hm7).mono ?_
  rintro e w8 ⟨rfl, rfl⟩
  go_wp2_with fail
  refine (levels_model hm7).mono ?_
  rintro e w8 ⟨v, rfl, hown, hb8⟩
  rw [lA] at hown
  go_wp2_with fail
  refine (sameInts_spec (l1 := [3, 1]) (l2 := [3, 1]) ((Reads.of_own hown).kept ((Below.refl _ _).alloc (Nat.le_refl _) _)) ?_).mono ?_
  · exact ⟨rfl, by simp, _, _, rfl, .inr ⟨w8.heap.size, 0, rfl, by simp, fun j u hj => by rw [Nat.zero_add]; exact (Blk.new w8 #[.int .i64 3, .int .i64 1] 3).cell j u (by simpa [ints] using hj)⟩⟩
  rintro e w9 ⟨rfl, hb9⟩
  go_wp2_with fail
  go_ret
  exact ⟨rfl, ((hB7.trans (hb8.mono hB7.size)).alloc (Nat.le_trans hB7.size hb8.size) _).trans (hb9.mono (by have := hB7.size; have := hb8.size; simp; omega))⟩

end Go.Proofs.Ytbcaiegglbdonaa
