/-
  A block's bytes; a Writer with blocks beside it that stay.
-/
import Derived.Test.YtbcaiegglbdonaaRefNum
import Derived.Test.YtbcaiegglbdonaaCheck8
namespace Go.Proofs.Ytbcaiegglbdonaa
open Go Go.RowKit

/-! ### The bytes -/
def encC (n : Nat) (c : Cell) : List UInt8 :=
  varN n ++ (varN (c.key.size - n) ++ (varN c.val.size ++ ([UInt8.ofNat (if c.gone then 1 else 0)] ++ (varN c.seq.toNat ++ (c.key.data.toList.drop n ++ c.val.data.toList)))))
def keyAt (l : List Cell) (i : Nat) : List UInt8 := ((l[i]?).map fun c => c.key.data.toList).getD []
def shAt (l : List Cell) (r i : Nat) : Nat := if i % r = 0 then 0 else sharedN (keyAt l (i - 1)) (keyAt l i)
def encAt (l : List Cell) (r i : Nat) : List UInt8 := ((l[i]?).map fun c => encC (shAt l r i) c).getD []
def bodyN (l : List Cell) (r k : Nat) : List UInt8 := (List.range k).flatMap (encAt l r)
def startsN (l : List Cell) (r k : Nat) : List Nat := ((List.range k).filter fun i => i % r = 0).map fun i => (bodyN l r i).length
def tailN (l : List Cell) (r : Nat) : List UInt8 := bodyN l r l.length ++ ((startsN l r l.length).flatMap be4 ++ (be4 (startsN l r l.length).length ++ be2 r))
def blockN (l : List Cell) (r : Nat) : List UInt8 := tailN l r ++ be4 (crcN (tailN l r))
def buildN (l : List Cell) (r : Int) : List UInt8 × Int :=
  if r < 1 ∨ 64 < r then ([], 1) else if checkL l ≠ 0 then ([], checkL l) else if (blockN l r.toNat).length ≤ 65536 then (blockN l r.toNat, 0) else ([], 3)
theorem bodyN_succ (l : List Cell) (r k : Nat) : bodyN l r (k + 1) = bodyN l r k ++ encAt l r k := by
  unfold bodyN
  rw [List.range_succ, List.flatMap_append]
  simp
theorem bodyN_mono (l : List Cell) (r : Nat) {i k : Nat} (h : i ≤ k) : (bodyN l r i).length ≤ (bodyN l r k).length := by
  induction k with
  | zero => obtain rfl : i = 0 := by omega
            exact Nat.le_refl _
  | succ k ih =>
    by_cases hk : i = k + 1
    · rw [hk]; exact Nat.le_refl _
    · rw [bodyN_succ, List.length_append]
      have := ih (by omega)
      omega
theorem putW_append (st : Option (List UInt8)) (a b : List UInt8) : putW (putW st a) b = putW st (a ++ b) := by
  cases st with
  | none => rfl
  | some l =>
    simp only [putW, Option.bind_some]
    by_cases h : (mostW : Int) - l.length < a.length
    · rw [if_pos h, if_pos (by rw [List.length_append]; omega)]; rfl
    · rw [if_neg h]
      simp only [Option.bind_some, List.length_append]
      by_cases h2 : (mostW : Int) - ((l.length + a.length : Nat) : Int) < b.length
      · rw [if_pos h2, if_pos (by omega)]
      · rw [if_neg h2, if_neg (by omega), List.append_assoc]
theorem putW_nil (l : List UInt8) (h : l.length ≤ mostW) : putW (some []) l = some l := by
  unfold putW
  simp only [Option.bind_some]
  rw [if_neg (by simp; omega)]
  simp
theorem putW_over (l : List UInt8) (h : mostW < l.length) : putW (some []) l = none := by
  unfold putW
  simp only [Option.bind_some]
  rw [if_pos (by simp; omega)]

/-! ### A Writer and blocks that stay -/
structure WrG (w0 : World) (p : Nat) (st : Option (List UInt8)) (G : Nat → Prop) (W : World) : Prop where
  ex : ∃ F, WrIs W w0.heap.size p F st ∧ ∀ k, G k → ¬ F k ∧ k < W.heap.size
  below : Below w0.heap.size w0 W
/-- What a call leaves that puts bytes: the Writer, and G's blocks as they lay. -/
def PutsG (w0 : World) (p : Nat) (st : Option (List UInt8)) (G : Nat → Prop) (W : World) (e : Ending) (W' : World) : Prop :=
  e = .returned (.tuple #[]) ∧ WrG w0 p st G W' ∧ (∀ k, G k → W'.heap[k]? = W.heap[k]?) ∧ W.heap.size ≤ W'.heap.size
theorem WrG.puts {w0 W : World} {p f : Nat} {st st' : Option (List UInt8)} {G : Nat → Prop} {args : Array Value} (h : WrG w0 p st G W) (hc : ∀ F, WrIs W w0.heap.size p F st → Calls Try.prog f args W (PutsW W w0.heap.size p F st')) :
    Calls Try.prog f args W (PutsG w0 p st' G W) := by
  obtain ⟨F, h1, h2⟩ := h.ex
  refine (hc F h1).mono ?_
  rintro e W' ⟨rfl, F', h3, h4, ho⟩
  have hB := h.below.size
  refine ⟨rfl, ⟨⟨F', h3, fun k hk => ⟨fun hF => ?_, Nat.lt_of_lt_of_le (h2 k hk).2 ho.size⟩⟩, h.below.trans (ho.below hB fun k hk => (h1.lt k hk).1)⟩, fun k hk => ho.block k (h2 k hk).2 (h2 k hk).1, ho.size⟩
  rcases h4 k hF with h | h
  · exact (h2 k hk).1 h
  · have := (h2 k hk).2; omega
theorem WrG.kept {w0 W W' : World} {p : Nat} {st : Option (List UInt8)} {G : Nat → Prop} (h : WrG w0 p st G W) (hb : Below W.heap.size W W') : WrG w0 p st G W' := by
  obtain ⟨F, h1, h2⟩ := h.ex
  exact ⟨⟨F, h1.kept hb, fun k hk => ⟨(h2 k hk).1, Nat.lt_of_lt_of_le (h2 k hk).2 hb.size⟩⟩, h.below.trans (hb.mono h.below.size)⟩
theorem WrG.less {w0 W : World} {p : Nat} {st : Option (List UInt8)} {G G' : Nat → Prop} (h : WrG w0 p st G W) (hg : ∀ k, G' k → G k) : WrG w0 p st G' W := by
  obtain ⟨F, h1, h2⟩ := h.ex
  exact ⟨⟨F, h1, fun k hk => h2 k (hg k hk)⟩, h.below⟩
/-- Blocks made since a world in which the Writer stood. -/
theorem WrG.newer {w0 W W' : World} {p : Nat} {st : Option (List UInt8)} {G G' : Nat → Prop} (h : WrG w0 p st G W) (ho : Only G W W') (hg : ∀ k, G' k → G k ∨ (W.heap.size ≤ k ∧ k < W'.heap.size)) (hG0 : ∀ k, G k → w0.heap.size ≤ k) : WrG w0 p st G' W' := by
  obtain ⟨F, h1, h2⟩ := h.ex
  refine ⟨⟨F, h1.only ho fun k hk hG => (h2 k hG).1 hk, fun k hk => ?_⟩, h.below.trans (ho.below h.below.size hG0)⟩
  rcases hg k hk with h | h
  · exact ⟨(h2 k h).1, Nat.lt_of_lt_of_le (h2 k h).2 ho.size⟩
  · exact ⟨fun hF => by have := (h1.lt k hF).2; omega, h.2⟩
theorem blk_same {W W' : World} {b : Nat} {arr : Array Value} {t : TypeId} (h : Blk W b arr t) (he : W'.heap[b]? = W.heap[b]?) : Blk W' b arr t := he.trans h
theorem own_same {W W' : World} {B e k n : Nat} {v : Value} {xs : List Value} (h : W.ownsRow B e k v n xs) (he : ∀ g, v.ownBlock = some g → W'.heap[g]? = W.heap[g]?) : W'.ownsRow B e k v n xs := by
  refine ⟨h.1, ?_⟩
  rcases h.2 with h3 | ⟨g, cap', cur, e1, hb, hg, hr2⟩
  · exact .inl h3
  · exact .inr ⟨g, cap', cur, e1, hb, (he g (by rw [e1]; rfl)).trans hg, hr2⟩
theorem WrG.len {w0 W : World} {p : Nat} {st : Option (List UInt8)} {G : Nat → Prop} (h : WrG w0 p st G W) : Calls Try.prog 84 #[.pointer (some ⟨p, 0, none⟩)] W fun e w' => e = .returned (.int .i64 (lenW st)) ∧ W = w' := by
  obtain ⟨F, h1, _⟩ := h.ex
  exact writer_len h1
theorem WrG.done {w0 W : World} {p : Nat} {st : Option (List UInt8)} {G : Nat → Prop} (h : WrG w0 p st G W) : Calls Try.prog 91 #[.pointer (some ⟨p, 0, none⟩)] W fun e w' => e = .returned (.tuple #[.string (strW st), .int .i64 (errW st)]) ∧ W = w' := by
  obtain ⟨F, h1, _⟩ := h.ex
  exact writer_done h1
theorem WrG.varint {w0 W : World} {p : Nat} {st : Option (List UInt8)} {G : Nat → Prop} (h : WrG w0 p st G W) (n : Nat) (hn : n < 18446744073709551616) : Calls Try.prog 86 #[.pointer (some ⟨p, 0, none⟩), .int .u64 n] W (PutsG w0 p (putW st (varN n)) G W) :=
  h.puts fun _ hF => writer_varint hF h.below.size n hn
theorem WrG.u8 {w0 W : World} {p : Nat} {st : Option (List UInt8)} {G : Nat → Prop} (h : WrG w0 p st G W) (n : Nat) (hn : n < 256) : Calls Try.prog 87 #[.pointer (some ⟨p, 0, none⟩), .int .u8 n] W (PutsG w0 p (putW st [UInt8.ofNat n]) G W) :=
  h.puts fun _ hF => writer_u8 hF h.below.size n hn
theorem WrG.u16 {w0 W : World} {p : Nat} {st : Option (List UInt8)} {G : Nat → Prop} (h : WrG w0 p st G W) (n : Nat) (hn : n < 65536) : Calls Try.prog 90 #[.pointer (some ⟨p, 0, none⟩), .int .u16 n] W (PutsG w0 p (putW st (be2 n)) G W) :=
  h.puts fun _ hF => writer_u16 hF h.below.size n hn
theorem WrG.u32 {w0 W : World} {p : Nat} {st : Option (List UInt8)} {G : Nat → Prop} (h : WrG w0 p st G W) (n : Nat) (hn : n < 4294967296) : Calls Try.prog 89 #[.pointer (some ⟨p, 0, none⟩), .int .u32 n] W (PutsG w0 p (putW st (be4 n)) G W) :=
  h.puts fun _ hF => writer_u32 hF h.below.size n hn
theorem WrG.raw {w0 W : World} {p : Nat} {st : Option (List UInt8)} {G : Nat → Prop} (h : WrG w0 p st G W) (s : ByteArray) : Calls Try.prog 88 #[.pointer (some ⟨p, 0, none⟩), .string s] W (PutsG w0 p (putW st s.data.toList) G W) :=
  h.puts fun _ hF => writer_raw hF h.below.size s
end Go.Proofs.Ytbcaiegglbdonaa
