/-
  The steps of a plan, as words.
-/
import Derived.Test.YtbcaiegglbdonaaPlan
import Derived.Test.YtbcaiegglbdonaaRefLev
namespace Go.Proofs.Ytbcaiegglbdonaa
open Go.RowKit
/-- The reference's table: what M : MM tells. -/
def hts (M : MM) : List Int := M.map fun x => (x.2 : Int)
structure RefIs (w : World) (base r : Nat) (M : MM) : Prop where
  ex : ∃ vc vh, Blk w r #[vc, vh] 49 ∧ w.ownsRow base 25 4 vc M.length (cellVals (M.map (·.1))) ∧ w.ownsRow base 3 1 vh M.length (ints (hts M))
def AtRel (w : World) (M : MM) (c : Cell) (i : Value) (wr : World) : Prop :=
  ∃ k : Nat, k ≤ (aheadM M c.key c.seq).length ∧ i = .int .i64 k ∧ Below w.heap.size w wr
end Go.Proofs.Ytbcaiegglbdonaa
