/-
  What the program's read tells of bytes: one cell, and all of them. Plain.
-/
import Derived.Test.YtbcaiegglbdonaaReader3
namespace Go.Proofs.Ytbcaiegglbdonaa
open Go

/-- One cell behind a key: the cell and what is left. -/
def readOne (s ah : ByteArray) : Option (Cell × ByteArray) :=
  let a := varR s 0
  let b := varR a.2.1 a.2.2
  let c := varR b.2.1 b.2.2
  let g := rawR c.2.1 c.2.2 1
  let q := varR g.2.1 g.2.2
  let gone := numN g.1.data.toList % 256
  if q.2.2 ≠ 0 ∨ ah.size < a.1 ∨ q.2.1.size < b.1 ∨ q.2.1.size < c.1 ∨ 1 < gone then none
  else
    let k := rawR q.2.1 0 b.1
    let v := rawR k.2.1 k.2.2 c.1
    if v.2.2 ≠ 0 then none else some (⟨⟨(ah.extract 0 a.1).data ++ k.1.data⟩, q.1, v.1, gone == 1⟩, v.2.1)
/-- All cells; n: how often at most (each cell takes a byte at least). -/
def readAll : Nat → ByteArray → ByteArray → Option (List Cell)
  | 0, s, _ => if s.size = 0 then some [] else none
  | n + 1, s, ah => if s.size = 0 then some [] else match readOne s ah with
    | none => none
    | some (c, t) => (readAll n t c.key).map (c :: ·)
def readN (s : ByteArray) : Option (List Cell) := readAll s.size s ⟨#[]⟩
end Go.Proofs.Ytbcaiegglbdonaa
