/-
  The codec's Reader: bytes taken from the front. Begun: NewReader, fault, Raw, Left, Err.
-/
import Derived.Test.YtbcaiegglbdonaaBytes8
namespace Go.Proofs.Ytbcaiegglbdonaa
open Go Go.RowKit

/-- The Reader at block p: what is left, and the first fault. -/
def RdIs (w : World) (p : Nat) (s : ByteArray) (e : Int) : Prop := Blk w p #[.string s, .int .i64 e] 167
theorem only_set {w : World} {p : Nat} (i : Nat) (v : Value) : Only (fun k => k = p) w (w.setCell ⟨p, i, none⟩ v) := (Only.refl (fun k => k = p) w).setCell (.inl rfl) i v
def ReadsR (w : World) (p : Nat) (v : Value) (s : ByteArray) (er : Int) (e : Ending) (w' : World) : Prop := e = .returned v ∧ RdIs w' p s er ∧ Only (fun k => k = p) w w'
set_option maxRecDepth 100000 in
theorem reader_new (s : ByteArray) (w : World) : Calls Try.prog 98 #[.string s] w fun e w' => e = .returned (.pointer (some ⟨w.heap.size, 0, none⟩)) ∧ RdIs w' w.heap.size s 0 ∧ Below w.heap.size w w' ∧ w'.heap.size = w.heap.size + 1 := by
  go_enter Try.func98, Try.ntmps98
  go_wp2_with fail
  go_ret
  exact ⟨rfl, Blk.new _ _ _, (Below.refl _ _).alloc (Nat.le_refl _) _, by simp⟩
set_option maxRecDepth 100000 in
theorem reader_fault {w : World} {p : Nat} {s : ByteArray} {e : Int} (h : RdIs w p s e) (f : Int) :
    Calls Try.prog 150 #[.pointer (some ⟨p, 0, none⟩), .int .i64 f] w (ReadsR w p (.string ⟨#[]⟩) s (if e = 0 then f else e)) := by
  have c0 : w.cell? ⟨p, 0, none⟩ = some (.string s) := Blk.cell h 0 _ rfl
  have c1 : w.cell? ⟨p, 1, none⟩ = some (.int .i64 e) := Blk.cell h 1 _ rfl
  have cf := Blk.frozen h
  have pl := Blk.lt h
  have H := Lib.hid h
  clear h
  by_cases he : e = 0
  · subst he
    rw [if_pos rfl]
    go_enter Try.func150, Try.ntmps150
    go_wp2_with fail
    go_ret
    exact ⟨rfl, Blk.setCell H.out 1 _, only_set 1 _⟩
  · rw [if_neg he]
    have heq : (e == 0) = false := by simpa using he
    go_enter Try.func150, Try.ntmps150
    go_wp2_with fail
    go_ret
    exact ⟨rfl, H.out, Only.refl _ _⟩
def rawR (s : ByteArray) (e n : Int) : ByteArray × ByteArray × Int :=
  if e ≠ 0 then (⟨#[]⟩, s, e) else if n < 0 then (⟨#[]⟩, s, 1) else if (s.size : Int) < n then (⟨#[]⟩, s, 20) else (s.extract 0 n.toNat, s.extract n.toNat s.size, 0)
set_option maxRecDepth 100000 in
set_option maxHeartbeats 1000000 in
theorem reader_raw {w : World} {p : Nat} {s : ByteArray} {e : Int} (h : RdIs w p s e) (n : Int) :
    Calls Try.prog 138 #[.pointer (some ⟨p, 0, none⟩), .int .i64 n] w (ReadsR w p (.string (rawR s e n).1) (rawR s e n).2.1 (rawR s e n).2.2) := by
  have c0 : w.cell? ⟨p, 0, none⟩ = some (.string s) := Blk.cell h 0 _ rfl
  have c1 : w.cell? ⟨p, 1, none⟩ = some (.int .i64 e) := Blk.cell h 1 _ rfl
  have cf := Blk.frozen h
  have pl := Blk.lt h
  have H := Lib.hid h
  clear h
  by_cases he : e = 0
  · subst he
    by_cases h1 : n < 0
    · have HR := Lib.hid (show rawR s 0 n = (⟨#[]⟩, s, 1) by unfold rawR; rw [if_neg (by simp), if_pos h1])
      go_enter Try.func138, Try.ntmps138
      go_wp2_with (go_at_call 150; refine (reader_fault H.out 1).mono ?_; rintro e w1 ⟨rfl, hr, ho⟩)
      go_ret
      rw [HR.out]
      exact ⟨rfl, hr, ho⟩
    by_cases h2 : (s.size : Int) < n
    · have HR := Lib.hid (show rawR s 0 n = (⟨#[]⟩, s, 20) by unfold rawR; rw [if_neg (by simp), if_neg h1, if_pos h2])
      go_enter Try.func138, Try.ntmps138
      go_wp2_with (go_at_call 150; refine (reader_fault H.out 20).mono ?_; rintro e w1 ⟨rfl, hr, ho⟩)
      go_ret
      rw [HR.out]
      exact ⟨rfl, hr, ho⟩
    · have HR := Lib.hid (show rawR s 0 n = (s.extract 0 n.toNat, s.extract n.toNat s.size, 0) by unfold rawR; rw [if_neg (by simp), if_neg h1, if_neg h2])
      have h3 : 0 ≤ n := by omega
      have h4 : n ≤ (s.size : Int) := by omega
      go_enter Try.func138, Try.ntmps138
      go_wp2_with fail
      go_ret
      rw [HR.out]
      exact ⟨rfl, Blk.setCell H.out 0 _, only_set 0 _⟩
  · have HR := Lib.hid (show rawR s e n = (⟨#[]⟩, s, e) by unfold rawR; rw [if_pos he])
    have heq : (e == 0) = false := by simpa using he
    go_enter Try.func138, Try.ntmps138
    go_wp2_with fail
    go_ret
    rw [HR.out]
    exact ⟨rfl, H.out, Only.refl _ _⟩
set_option maxRecDepth 100000 in
theorem reader_left {w : World} {p : Nat} {s : ByteArray} {e : Int} (h : RdIs w p s e) :
    Calls Try.prog 134 #[.pointer (some ⟨p, 0, none⟩)] w fun x w' => x = .returned (.int .i64 (if e = 0 then (s.size : Int) else 0)) ∧ w = w' := by
  have c0 : w.cell? ⟨p, 0, none⟩ = some (.string s) := Blk.cell h 0 _ rfl
  have c1 : w.cell? ⟨p, 1, none⟩ = some (.int .i64 e) := Blk.cell h 1 _ rfl
  have pl := Blk.lt h
  clear h
  by_cases he : e = 0
  · subst he
    rw [if_pos rfl]
    go_enter Try.func134, Try.ntmps134
    go_wp2_with fail
    go_ret
    exact ⟨rfl, rfl⟩
  · rw [if_neg he]
    have heq : (e == 0) = false := by simpa using he
    go_enter Try.func134, Try.ntmps134
    go_wp2_with fail
    go_ret
    exact ⟨rfl, rfl⟩
set_option maxRecDepth 100000 in
theorem reader_err {w : World} {p : Nat} {s : ByteArray} {e : Int} (h : RdIs w p s e) : Calls Try.prog 137 #[.pointer (some ⟨p, 0, none⟩)] w fun x w' => x = .returned (.int .i64 e) ∧ w = w' := by
  have c1 : w.cell? ⟨p, 1, none⟩ = some (.int .i64 e) := Blk.cell h 1 _ rfl
  have pl := Blk.lt h
  clear h
  go_enter Try.func137, Try.ntmps137
  go_wp2_with fail
  go_ret
  exact ⟨rfl, rfl⟩
end Go.Proofs.Ytbcaiegglbdonaa
