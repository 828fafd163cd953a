/-
  No cell of these rows narrows 'for every input' (looked for: loops, veiled, ifaces, maps, wideKeys, modest, calm, conditions, laid).
  DERIVED. THE GIVEN ROWS OF THIS SEAT. 17 by the template 'for every input the law returns true; each argument reads behind the call as it read before'; 0 by the template 'total and deterministic' (their statements: YtbcaiegglbdonaaTotals.lean).
  GIVEN WITH THE SEED: the statements are not yours to turn. If you find one false, say at which input.
  Laid BY PROGRAM, IN A SANDBOX (cutbox-rows.mjs): the forced cells as the released guide's own fill.sh prints them over the translation 524c1fe936879384… (all of the seat's roots in one cut). By AI agents, Wed Nov 11 2026. No macro, syntax, notation, axiom, sorry.
-/
import Derived.Test.YtbcaiegglbdonaaChecked
import GoSem.Claim
import GoSem.ClaimJoined
import GoSem.ClaimMapViews
import Derived.JoinedTies
import Derived.KernelRfl
namespace Go.Proofs.Ytbcaiegglbdonaa
/- THE CELL 'sum', in the pinned program and in every row, IS THE sha256 OF THE DUMP (.gsa) THAT YtbcaiegglbdonaaProg.lean LOADS. Nothing in Lean hashes anything: it is a label: what it is worth is what the hold of that sum in a sandbox is worth. -/
noncomputable def Try.pinned : Pinned := { name := "ytbcaiegglbdonaa", sum := "524c1fe93687938408124bccab8604d37bd28f9af63222c0f771b56d6b119baf", checked := Try.checked }
namespace Rows
def none {H : Type} : Left H := { results := [], args := [] }

/-- 'atriumlaw06.MemSnapshots': WHATEVER THE INPUT: true; the input reads as it did. -/
def memSnapshotsSpec : ChangeSpec := { name := "memSnapshots", fn := fun _ => fun
  | [d1, d2, d3] => { results := [.lit (.bool true)], args := [d1, d2, d3] }
  | _ => none }
def memSnapshotsRow : OpenClaim := { program := "ytbcaiegglbdonaa", sum := "524c1fe93687938408124bccab8604d37bd28f9af63222c0f771b56d6b119baf", func := "atrium/atriumlaw06.MemSnapshots", spec := "memSnapshots", inPlace := ["internal/bytealg.abigen_runtime_cmpstring"], unfollowed := true, recurses := true, apart := false }
def MemSnapshotsSaid : Prop := memSnapshotsRow.holds Try.pinned (OpenSpec.ofChange memSnapshotsSpec)

/-- ITS FALSE NEIGHBOUR: 'it returns false'. Refute it at one input. -/
def memSnapshotsWrong : ChangeSpec := { name := "memSnapshots", fn := fun _ => fun
  | [d1, d2, d3] => { results := [.lit (.bool false)], args := [d1, d2, d3] }
  | _ => none }
def MemSnapshotsWrongFalsely : Prop := memSnapshotsRow.holds Try.pinned (OpenSpec.ofChange memSnapshotsWrong)

/-- 'atriumlaw06.MemOrder': WHATEVER THE INPUT: true; the input reads as it did. -/
def memOrderSpec : ChangeSpec := { name := "memOrder", fn := fun _ => fun
  | [d1, d2] => { results := [.lit (.bool true)], args := [d1, d2] }
  | _ => none }
def memOrderRow : OpenClaim := { program := "ytbcaiegglbdonaa", sum := "524c1fe93687938408124bccab8604d37bd28f9af63222c0f771b56d6b119baf", func := "atrium/atriumlaw06.MemOrder", spec := "memOrder", inPlace := ["internal/bytealg.abigen_runtime_cmpstring"], unfollowed := true, recurses := true, apart := false }
def MemOrderSaid : Prop := memOrderRow.holds Try.pinned (OpenSpec.ofChange memOrderSpec)

/-- ITS FALSE NEIGHBOUR: 'it returns false'. Refute it at one input. -/
def memOrderWrong : ChangeSpec := { name := "memOrder", fn := fun _ => fun
  | [d1, d2] => { results := [.lit (.bool false)], args := [d1, d2] }
  | _ => none }
def MemOrderWrongFalsely : Prop := memOrderRow.holds Try.pinned (OpenSpec.ofChange memOrderWrong)

/-- 'atriumlaw06.MemHeights': WHATEVER THE INPUT: true; the input reads as it did. -/
def memHeightsSpec : ChangeSpec := { name := "memHeights", fn := fun _ => fun
  | [d1, d2, d3] => { results := [.lit (.bool true)], args := [d1, d2, d3] }
  | _ => none }
def memHeightsRow : OpenClaim := { program := "ytbcaiegglbdonaa", sum := "524c1fe93687938408124bccab8604d37bd28f9af63222c0f771b56d6b119baf", func := "atrium/atriumlaw06.MemHeights", spec := "memHeights", inPlace := ["internal/bytealg.abigen_runtime_cmpstring"], unfollowed := true, recurses := true, apart := false }
def MemHeightsSaid : Prop := memHeightsRow.holds Try.pinned (OpenSpec.ofChange memHeightsSpec)

/-- ITS FALSE NEIGHBOUR: 'it returns false'. Refute it at one input. -/
def memHeightsWrong : ChangeSpec := { name := "memHeights", fn := fun _ => fun
  | [d1, d2, d3] => { results := [.lit (.bool false)], args := [d1, d2, d3] }
  | _ => none }
def MemHeightsWrongFalsely : Prop := memHeightsRow.holds Try.pinned (OpenSpec.ofChange memHeightsWrong)

/-- 'atriumlaw06.MemDoes': WHATEVER THE INPUT: true; the input reads as it did. -/
def memDoesSpec : ChangeSpec := { name := "memDoes", fn := fun _ => fun
  | [d] => { results := [.lit (.bool true)], args := [d] }
  | _ => none }
def memDoesRow : OpenClaim := { program := "ytbcaiegglbdonaa", sum := "524c1fe93687938408124bccab8604d37bd28f9af63222c0f771b56d6b119baf", func := "atrium/atriumlaw06.MemDoes", spec := "memDoes", inPlace := ["internal/bytealg.abigen_runtime_cmpstring"], unfollowed := true, recurses := true, apart := false }
def MemDoesSaid : Prop := memDoesRow.holds Try.pinned (OpenSpec.ofChange memDoesSpec)

/-- ITS FALSE NEIGHBOUR: 'it returns false'. Refute it at one input. -/
def memDoesWrong : ChangeSpec := { name := "memDoes", fn := fun _ => fun
  | [d] => { results := [.lit (.bool false)], args := [d] }
  | _ => none }
def MemDoesWrongFalsely : Prop := memDoesRow.holds Try.pinned (OpenSpec.ofChange memDoesWrong)

/-- 'atriumlaw06.MemForks': WHATEVER THE INPUT: true; the input reads as it did. -/
def memForksSpec : ChangeSpec := { name := "memForks", fn := fun _ => fun
  | [d1, d2] => { results := [.lit (.bool true)], args := [d1, d2] }
  | _ => none }
def memForksRow : OpenClaim := { program := "ytbcaiegglbdonaa", sum := "524c1fe93687938408124bccab8604d37bd28f9af63222c0f771b56d6b119baf", func := "atrium/atriumlaw06.MemForks", spec := "memForks", inPlace := ["internal/bytealg.abigen_runtime_cmpstring"], unfollowed := true, recurses := true, apart := false }
def MemForksSaid : Prop := memForksRow.holds Try.pinned (OpenSpec.ofChange memForksSpec)

/-- ITS FALSE NEIGHBOUR: 'it returns false'. Refute it at one input. -/
def memForksWrong : ChangeSpec := { name := "memForks", fn := fun _ => fun
  | [d1, d2] => { results := [.lit (.bool false)], args := [d1, d2] }
  | _ => none }
def MemForksWrongFalsely : Prop := memForksRow.holds Try.pinned (OpenSpec.ofChange memForksWrong)

/-- 'atriumlaw06.MemNobody': WHATEVER THE INPUT: true; the input reads as it did. -/
def memNobodySpec : ChangeSpec := { name := "memNobody", fn := fun _ => fun
  | [d] => { results := [.lit (.bool true)], args := [d] }
  | _ => none }
def memNobodyRow : OpenClaim := { program := "ytbcaiegglbdonaa", sum := "524c1fe93687938408124bccab8604d37bd28f9af63222c0f771b56d6b119baf", func := "atrium/atriumlaw06.MemNobody", spec := "memNobody", inPlace := ["internal/bytealg.abigen_runtime_cmpstring"], unfollowed := true, recurses := true, apart := false }
def MemNobodySaid : Prop := memNobodyRow.holds Try.pinned (OpenSpec.ofChange memNobodySpec)

/-- ITS FALSE NEIGHBOUR: 'it returns false'. Refute it at one input. -/
def memNobodyWrong : ChangeSpec := { name := "memNobody", fn := fun _ => fun
  | [d] => { results := [.lit (.bool false)], args := [d] }
  | _ => none }
def MemNobodyWrongFalsely : Prop := memNobodyRow.holds Try.pinned (OpenSpec.ofChange memNobodyWrong)

/-- 'atriumlaw08.BlockBuilds': WHATEVER THE INPUT: true; the input reads as it did. -/
def blockBuildsSpec : ChangeSpec := { name := "blockBuilds", fn := fun _ => fun
  | [d1, d2] => { results := [.lit (.bool true)], args := [d1, d2] }
  | _ => none }
def blockBuildsRow : OpenClaim := { program := "ytbcaiegglbdonaa", sum := "524c1fe93687938408124bccab8604d37bd28f9af63222c0f771b56d6b119baf", func := "atrium/atriumlaw08.BlockBuilds", spec := "blockBuilds", inPlace := ["internal/bytealg.abigen_runtime_cmpstring"], unfollowed := true, recurses := true, apart := false }
def BlockBuildsSaid : Prop := blockBuildsRow.holds Try.pinned (OpenSpec.ofChange blockBuildsSpec)

/-- ITS FALSE NEIGHBOUR: 'it returns false'. Refute it at one input. -/
def blockBuildsWrong : ChangeSpec := { name := "blockBuilds", fn := fun _ => fun
  | [d1, d2] => { results := [.lit (.bool false)], args := [d1, d2] }
  | _ => none }
def BlockBuildsWrongFalsely : Prop := blockBuildsRow.holds Try.pinned (OpenSpec.ofChange blockBuildsWrong)

/-- 'atriumlaw08.BlockBack': WHATEVER THE INPUT: true; the input reads as it did. -/
def blockBackSpec : ChangeSpec := { name := "blockBack", fn := fun _ => fun
  | [d1, d2] => { results := [.lit (.bool true)], args := [d1, d2] }
  | _ => none }
def blockBackRow : OpenClaim := { program := "ytbcaiegglbdonaa", sum := "524c1fe93687938408124bccab8604d37bd28f9af63222c0f771b56d6b119baf", func := "atrium/atriumlaw08.BlockBack", spec := "blockBack", inPlace := ["internal/bytealg.abigen_runtime_cmpstring"], unfollowed := true, recurses := true, apart := false }
def BlockBackSaid : Prop := blockBackRow.holds Try.pinned (OpenSpec.ofChange blockBackSpec)

/-- ITS FALSE NEIGHBOUR: 'it returns false'. Refute it at one input. -/
def blockBackWrong : ChangeSpec := { name := "blockBack", fn := fun _ => fun
  | [d1, d2] => { results := [.lit (.bool false)], args := [d1, d2] }
  | _ => none }
def BlockBackWrongFalsely : Prop := blockBackRow.holds Try.pinned (OpenSpec.ofChange blockBackWrong)

/-- 'atriumlaw08.BlockTurned': WHATEVER THE INPUT: true; the input reads as it did. -/
def blockTurnedSpec : ChangeSpec := { name := "blockTurned", fn := fun _ => fun
  | [d] => { results := [.lit (.bool true)], args := [d] }
  | _ => none }
def blockTurnedRow : OpenClaim := { program := "ytbcaiegglbdonaa", sum := "524c1fe93687938408124bccab8604d37bd28f9af63222c0f771b56d6b119baf", func := "atrium/atriumlaw08.BlockTurned", spec := "blockTurned", inPlace := ["internal/bytealg.abigen_runtime_cmpstring"], unfollowed := true, recurses := true, apart := false }
def BlockTurnedSaid : Prop := blockTurnedRow.holds Try.pinned (OpenSpec.ofChange blockTurnedSpec)

/-- ITS FALSE NEIGHBOUR: 'it returns false'. Refute it at one input. -/
def blockTurnedWrong : ChangeSpec := { name := "blockTurned", fn := fun _ => fun
  | [d] => { results := [.lit (.bool false)], args := [d] }
  | _ => none }
def BlockTurnedWrongFalsely : Prop := blockTurnedRow.holds Try.pinned (OpenSpec.ofChange blockTurnedWrong)

/-- 'atriumlaw08.BlockSeeks': WHATEVER THE INPUT: true; the input reads as it did. -/
def blockSeeksSpec : ChangeSpec := { name := "blockSeeks", fn := fun _ => fun
  | [d1, d2] => { results := [.lit (.bool true)], args := [d1, d2] }
  | _ => none }
def blockSeeksRow : OpenClaim := { program := "ytbcaiegglbdonaa", sum := "524c1fe93687938408124bccab8604d37bd28f9af63222c0f771b56d6b119baf", func := "atrium/atriumlaw08.BlockSeeks", spec := "blockSeeks", inPlace := ["internal/bytealg.abigen_runtime_cmpstring"], unfollowed := true, recurses := true, apart := false }
def BlockSeeksSaid : Prop := blockSeeksRow.holds Try.pinned (OpenSpec.ofChange blockSeeksSpec)

/-- ITS FALSE NEIGHBOUR: 'it returns false'. Refute it at one input. -/
def blockSeeksWrong : ChangeSpec := { name := "blockSeeks", fn := fun _ => fun
  | [d1, d2] => { results := [.lit (.bool false)], args := [d1, d2] }
  | _ => none }
def BlockSeeksWrongFalsely : Prop := blockSeeksRow.holds Try.pinned (OpenSpec.ofChange blockSeeksWrong)

/-- 'atriumlaw08.BlockOpens': WHATEVER THE INPUT: true; the input reads as it did. -/
def blockOpensSpec : ChangeSpec := { name := "blockOpens", fn := fun _ => fun
  | [d] => { results := [.lit (.bool true)], args := [d] }
  | _ => none }
def blockOpensRow : OpenClaim := { program := "ytbcaiegglbdonaa", sum := "524c1fe93687938408124bccab8604d37bd28f9af63222c0f771b56d6b119baf", func := "atrium/atriumlaw08.BlockOpens", spec := "blockOpens", inPlace := ["internal/bytealg.abigen_runtime_cmpstring"], unfollowed := true, recurses := true, apart := false }
def BlockOpensSaid : Prop := blockOpensRow.holds Try.pinned (OpenSpec.ofChange blockOpensSpec)

/-- ITS FALSE NEIGHBOUR: 'it returns false'. Refute it at one input. -/
def blockOpensWrong : ChangeSpec := { name := "blockOpens", fn := fun _ => fun
  | [d] => { results := [.lit (.bool false)], args := [d] }
  | _ => none }
def BlockOpensWrongFalsely : Prop := blockOpensRow.holds Try.pinned (OpenSpec.ofChange blockOpensWrong)

/-- 'atriumlaw08.BlockNobody': WHATEVER THE INPUT: true; the input reads as it did. -/
def blockNobodySpec : ChangeSpec := { name := "blockNobody", fn := fun _ => fun
  | [d1, d2] => { results := [.lit (.bool true)], args := [d1, d2] }
  | _ => none }
def blockNobodyRow : OpenClaim := { program := "ytbcaiegglbdonaa", sum := "524c1fe93687938408124bccab8604d37bd28f9af63222c0f771b56d6b119baf", func := "atrium/atriumlaw08.BlockNobody", spec := "blockNobody", inPlace := ["internal/bytealg.abigen_runtime_cmpstring"], unfollowed := true, recurses := true, apart := false }
def BlockNobodySaid : Prop := blockNobodyRow.holds Try.pinned (OpenSpec.ofChange blockNobodySpec)

/-- ITS FALSE NEIGHBOUR: 'it returns false'. Refute it at one input. -/
def blockNobodyWrong : ChangeSpec := { name := "blockNobody", fn := fun _ => fun
  | [d1, d2] => { results := [.lit (.bool false)], args := [d1, d2] }
  | _ => none }
def BlockNobodyWrongFalsely : Prop := blockNobodyRow.holds Try.pinned (OpenSpec.ofChange blockNobodyWrong)

/-- 'atriumlaw08.BlockAgrees': WHATEVER THE INPUT: true; the input reads as it did. -/
def blockAgreesSpec : ChangeSpec := { name := "blockAgrees", fn := fun _ => fun
  | [d1, d2] => { results := [.lit (.bool true)], args := [d1, d2] }
  | _ => none }
def blockAgreesRow : OpenClaim := { program := "ytbcaiegglbdonaa", sum := "524c1fe93687938408124bccab8604d37bd28f9af63222c0f771b56d6b119baf", func := "atrium/atriumlaw08.BlockAgrees", spec := "blockAgrees", inPlace := ["internal/bytealg.abigen_runtime_cmpstring"], unfollowed := true, recurses := true, apart := false }
def BlockAgreesSaid : Prop := blockAgreesRow.holds Try.pinned (OpenSpec.ofChange blockAgreesSpec)

/-- ITS FALSE NEIGHBOUR: 'it returns false'. Refute it at one input. -/
def blockAgreesWrong : ChangeSpec := { name := "blockAgrees", fn := fun _ => fun
  | [d1, d2] => { results := [.lit (.bool false)], args := [d1, d2] }
  | _ => none }
def BlockAgreesWrongFalsely : Prop := blockAgreesRow.holds Try.pinned (OpenSpec.ofChange blockAgreesWrong)

/-- 'atriumlaw09.TableBuilds': WHATEVER THE INPUT: true; the input reads as it did. -/
def tableBuildsSpec : ChangeSpec := { name := "tableBuilds", fn := fun _ => fun
  | [d1, d2] => { results := [.lit (.bool true)], args := [d1, d2] }
  | _ => none }
def tableBuildsRow : OpenClaim := { program := "ytbcaiegglbdonaa", sum := "524c1fe93687938408124bccab8604d37bd28f9af63222c0f771b56d6b119baf", func := "atrium/atriumlaw09.TableBuilds", spec := "tableBuilds", inPlace := ["internal/bytealg.abigen_runtime_cmpstring"], unfollowed := true, recurses := true, apart := false }
def TableBuildsSaid : Prop := tableBuildsRow.holds Try.pinned (OpenSpec.ofChange tableBuildsSpec)

/-- ITS FALSE NEIGHBOUR: 'it returns false'. Refute it at one input. -/
def tableBuildsWrong : ChangeSpec := { name := "tableBuilds", fn := fun _ => fun
  | [d1, d2] => { results := [.lit (.bool false)], args := [d1, d2] }
  | _ => none }
def TableBuildsWrongFalsely : Prop := tableBuildsRow.holds Try.pinned (OpenSpec.ofChange tableBuildsWrong)

/-- 'atriumlaw09.TableTurned': WHATEVER THE INPUT: true; the input reads as it did. -/
def tableTurnedSpec : ChangeSpec := { name := "tableTurned", fn := fun _ => fun
  | [d1, d2, d3, d4] => { results := [.lit (.bool true)], args := [d1, d2, d3, d4] }
  | _ => none }
def tableTurnedRow : OpenClaim := { program := "ytbcaiegglbdonaa", sum := "524c1fe93687938408124bccab8604d37bd28f9af63222c0f771b56d6b119baf", func := "atrium/atriumlaw09.TableTurned", spec := "tableTurned", inPlace := ["internal/bytealg.abigen_runtime_cmpstring"], unfollowed := true, recurses := true, apart := false }
def TableTurnedSaid : Prop := tableTurnedRow.holds Try.pinned (OpenSpec.ofChange tableTurnedSpec)

/-- ITS FALSE NEIGHBOUR: 'it returns false'. Refute it at one input. -/
def tableTurnedWrong : ChangeSpec := { name := "tableTurned", fn := fun _ => fun
  | [d1, d2, d3, d4] => { results := [.lit (.bool false)], args := [d1, d2, d3, d4] }
  | _ => none }
def TableTurnedWrongFalsely : Prop := tableTurnedRow.holds Try.pinned (OpenSpec.ofChange tableTurnedWrong)

/-- 'atriumlaw09.TableBack': WHATEVER THE INPUT: true; the input reads as it did. -/
def tableBackSpec : ChangeSpec := { name := "tableBack", fn := fun _ => fun
  | [d1, d2] => { results := [.lit (.bool true)], args := [d1, d2] }
  | _ => none }
def tableBackRow : OpenClaim := { program := "ytbcaiegglbdonaa", sum := "524c1fe93687938408124bccab8604d37bd28f9af63222c0f771b56d6b119baf", func := "atrium/atriumlaw09.TableBack", spec := "tableBack", inPlace := ["internal/bytealg.abigen_runtime_cmpstring"], unfollowed := true, recurses := true, apart := false }
def TableBackSaid : Prop := tableBackRow.holds Try.pinned (OpenSpec.ofChange tableBackSpec)

/-- ITS FALSE NEIGHBOUR: 'it returns false'. Refute it at one input. -/
def tableBackWrong : ChangeSpec := { name := "tableBack", fn := fun _ => fun
  | [d1, d2] => { results := [.lit (.bool false)], args := [d1, d2] }
  | _ => none }
def TableBackWrongFalsely : Prop := tableBackRow.holds Try.pinned (OpenSpec.ofChange tableBackWrong)

/-- 'atriumlaw09.TableNobody': WHATEVER THE INPUT: true; the input reads as it did. -/
def tableNobodySpec : ChangeSpec := { name := "tableNobody", fn := fun _ => fun
  | [d1, d2] => { results := [.lit (.bool true)], args := [d1, d2] }
  | _ => none }
def tableNobodyRow : OpenClaim := { program := "ytbcaiegglbdonaa", sum := "524c1fe93687938408124bccab8604d37bd28f9af63222c0f771b56d6b119baf", func := "atrium/atriumlaw09.TableNobody", spec := "tableNobody", inPlace := ["internal/bytealg.abigen_runtime_cmpstring"], unfollowed := true, recurses := true, apart := false }
def TableNobodySaid : Prop := tableNobodyRow.holds Try.pinned (OpenSpec.ofChange tableNobodySpec)

/-- ITS FALSE NEIGHBOUR: 'it returns false'. Refute it at one input. -/
def tableNobodyWrong : ChangeSpec := { name := "tableNobody", fn := fun _ => fun
  | [d1, d2] => { results := [.lit (.bool false)], args := [d1, d2] }
  | _ => none }
def TableNobodyWrongFalsely : Prop := tableNobodyRow.holds Try.pinned (OpenSpec.ofChange tableNobodyWrong)

/- THE SECOND FORM. 'bulk': how many values and letters a reading holds, each counted each time it is reached (what is shared counts as often as it is met; a slice's spare places count too). A statement '..UptoSaid' is the law's where the arguments, and the package variables that the reading takes, are together of bulk at most 1048576: NARROWER than '..Said'. Prove '..Said' where nothing that the law and all that it calls make is longer than what came in: it says more and counts as full. Else prove '..UptoSaid'. A law counts once. -/
mutual
def uptoBulk {H : Type} : DataW H → Nat
  | .lit (.string bytes) => bytes.length + 1
  | .lit _ => 1
  | .nil => 1
  | .ptr d => uptoBulk d + 1
  | .slice elems spare => uptoBulkAll elems + uptoBulkAll spare + 1
  | .agg parts => uptoBulkAll parts + 1
  | .iface _ d => uptoBulk d + 1
  | .map entries => uptoBulkEntries entries + 1
  | .held _ => 1
def uptoBulkAll {H : Type} : List (DataW H) → Nat
  | [] => 0
  | d :: r => uptoBulk d + uptoBulkAll r
def uptoBulkEntries {H : Type} : List (Lit × DataW H) → Nat
  | [] => 0
  | x :: r => uptoBulkEntry x + uptoBulkEntries r
def uptoBulkEntry {H : Type} : Lit × DataW H → Nat
  | (.string bytes, d) => bytes.length + uptoBulk d + 1
  | (_, d) => uptoBulk d + 1
 end
def uptoSmall : (H : Type) → List (DataW H) → Bool := fun _ ds => decide (uptoBulkAll ds ≤ 1048576)
def OpenSpec.upto (s : _root_.Go.ChangeSpec) : _root_.Go.OpenSpec := { _root_.Go.OpenSpec.ofChange s with cond := some uptoSmall }

/-- 'atriumlaw06.MemSnapshots', WHERE WHAT IT READS IS OF BULK AT MOST 1048576: true; the input reads as it did. -/
def memSnapshotsUptoRow : OpenClaim := { program := "ytbcaiegglbdonaa", sum := "524c1fe93687938408124bccab8604d37bd28f9af63222c0f771b56d6b119baf", func := "atrium/atriumlaw06.MemSnapshots", spec := "memSnapshots", inPlace := ["internal/bytealg.abigen_runtime_cmpstring"], unfollowed := true, recurses := true, apart := false, narrowed := true }
def MemSnapshotsUptoSaid : Prop := memSnapshotsUptoRow.holds Try.pinned (OpenSpec.upto memSnapshotsSpec)

/-- 'atriumlaw06.MemOrder', WHERE WHAT IT READS IS OF BULK AT MOST 1048576: true; the input reads as it did. -/
def memOrderUptoRow : OpenClaim := { program := "ytbcaiegglbdonaa", sum := "524c1fe93687938408124bccab8604d37bd28f9af63222c0f771b56d6b119baf", func := "atrium/atriumlaw06.MemOrder", spec := "memOrder", inPlace := ["internal/bytealg.abigen_runtime_cmpstring"], unfollowed := true, recurses := true, apart := false, narrowed := true }
def MemOrderUptoSaid : Prop := memOrderUptoRow.holds Try.pinned (OpenSpec.upto memOrderSpec)

/-- 'atriumlaw06.MemHeights', WHERE WHAT IT READS IS OF BULK AT MOST 1048576: true; the input reads as it did. -/
def memHeightsUptoRow : OpenClaim := { program := "ytbcaiegglbdonaa", sum := "524c1fe93687938408124bccab8604d37bd28f9af63222c0f771b56d6b119baf", func := "atrium/atriumlaw06.MemHeights", spec := "memHeights", inPlace := ["internal/bytealg.abigen_runtime_cmpstring"], unfollowed := true, recurses := true, apart := false, narrowed := true }
def MemHeightsUptoSaid : Prop := memHeightsUptoRow.holds Try.pinned (OpenSpec.upto memHeightsSpec)

/-- 'atriumlaw06.MemDoes', WHERE WHAT IT READS IS OF BULK AT MOST 1048576: true; the input reads as it did. -/
def memDoesUptoRow : OpenClaim := { program := "ytbcaiegglbdonaa", sum := "524c1fe93687938408124bccab8604d37bd28f9af63222c0f771b56d6b119baf", func := "atrium/atriumlaw06.MemDoes", spec := "memDoes", inPlace := ["internal/bytealg.abigen_runtime_cmpstring"], unfollowed := true, recurses := true, apart := false, narrowed := true }
def MemDoesUptoSaid : Prop := memDoesUptoRow.holds Try.pinned (OpenSpec.upto memDoesSpec)

/-- 'atriumlaw06.MemForks', WHERE WHAT IT READS IS OF BULK AT MOST 1048576: true; the input reads as it did. -/
def memForksUptoRow : OpenClaim := { program := "ytbcaiegglbdonaa", sum := "524c1fe93687938408124bccab8604d37bd28f9af63222c0f771b56d6b119baf", func := "atrium/atriumlaw06.MemForks", spec := "memForks", inPlace := ["internal/bytealg.abigen_runtime_cmpstring"], unfollowed := true, recurses := true, apart := false, narrowed := true }
def MemForksUptoSaid : Prop := memForksUptoRow.holds Try.pinned (OpenSpec.upto memForksSpec)

/-- 'atriumlaw06.MemNobody', WHERE WHAT IT READS IS OF BULK AT MOST 1048576: true; the input reads as it did. -/
def memNobodyUptoRow : OpenClaim := { program := "ytbcaiegglbdonaa", sum := "524c1fe93687938408124bccab8604d37bd28f9af63222c0f771b56d6b119baf", func := "atrium/atriumlaw06.MemNobody", spec := "memNobody", inPlace := ["internal/bytealg.abigen_runtime_cmpstring"], unfollowed := true, recurses := true, apart := false, narrowed := true }
def MemNobodyUptoSaid : Prop := memNobodyUptoRow.holds Try.pinned (OpenSpec.upto memNobodySpec)

/-- 'atriumlaw08.BlockBuilds', WHERE WHAT IT READS IS OF BULK AT MOST 1048576: true; the input reads as it did. -/
def blockBuildsUptoRow : OpenClaim := { program := "ytbcaiegglbdonaa", sum := "524c1fe93687938408124bccab8604d37bd28f9af63222c0f771b56d6b119baf", func := "atrium/atriumlaw08.BlockBuilds", spec := "blockBuilds", inPlace := ["internal/bytealg.abigen_runtime_cmpstring"], unfollowed := true, recurses := true, apart := false, narrowed := true }
def BlockBuildsUptoSaid : Prop := blockBuildsUptoRow.holds Try.pinned (OpenSpec.upto blockBuildsSpec)

/-- 'atriumlaw08.BlockBack', WHERE WHAT IT READS IS OF BULK AT MOST 1048576: true; the input reads as it did. -/
def blockBackUptoRow : OpenClaim := { program := "ytbcaiegglbdonaa", sum := "524c1fe93687938408124bccab8604d37bd28f9af63222c0f771b56d6b119baf", func := "atrium/atriumlaw08.BlockBack", spec := "blockBack", inPlace := ["internal/bytealg.abigen_runtime_cmpstring"], unfollowed := true, recurses := true, apart := false, narrowed := true }
def BlockBackUptoSaid : Prop := blockBackUptoRow.holds Try.pinned (OpenSpec.upto blockBackSpec)

/-- 'atriumlaw08.BlockTurned', WHERE WHAT IT READS IS OF BULK AT MOST 1048576: true; the input reads as it did. -/
def blockTurnedUptoRow : OpenClaim := { program := "ytbcaiegglbdonaa", sum := "524c1fe93687938408124bccab8604d37bd28f9af63222c0f771b56d6b119baf", func := "atrium/atriumlaw08.BlockTurned", spec := "blockTurned", inPlace := ["internal/bytealg.abigen_runtime_cmpstring"], unfollowed := true, recurses := true, apart := false, narrowed := true }
def BlockTurnedUptoSaid : Prop := blockTurnedUptoRow.holds Try.pinned (OpenSpec.upto blockTurnedSpec)

/-- 'atriumlaw08.BlockSeeks', WHERE WHAT IT READS IS OF BULK AT MOST 1048576: true; the input reads as it did. -/
def blockSeeksUptoRow : OpenClaim := { program := "ytbcaiegglbdonaa", sum := "524c1fe93687938408124bccab8604d37bd28f9af63222c0f771b56d6b119baf", func := "atrium/atriumlaw08.BlockSeeks", spec := "blockSeeks", inPlace := ["internal/bytealg.abigen_runtime_cmpstring"], unfollowed := true, recurses := true, apart := false, narrowed := true }
def BlockSeeksUptoSaid : Prop := blockSeeksUptoRow.holds Try.pinned (OpenSpec.upto blockSeeksSpec)

/-- 'atriumlaw08.BlockOpens', WHERE WHAT IT READS IS OF BULK AT MOST 1048576: true; the input reads as it did. -/
def blockOpensUptoRow : OpenClaim := { program := "ytbcaiegglbdonaa", sum := "524c1fe93687938408124bccab8604d37bd28f9af63222c0f771b56d6b119baf", func := "atrium/atriumlaw08.BlockOpens", spec := "blockOpens", inPlace := ["internal/bytealg.abigen_runtime_cmpstring"], unfollowed := true, recurses := true, apart := false, narrowed := true }
def BlockOpensUptoSaid : Prop := blockOpensUptoRow.holds Try.pinned (OpenSpec.upto blockOpensSpec)

/-- 'atriumlaw08.BlockNobody', WHERE WHAT IT READS IS OF BULK AT MOST 1048576: true; the input reads as it did. -/
def blockNobodyUptoRow : OpenClaim := { program := "ytbcaiegglbdonaa", sum := "524c1fe93687938408124bccab8604d37bd28f9af63222c0f771b56d6b119baf", func := "atrium/atriumlaw08.BlockNobody", spec := "blockNobody", inPlace := ["internal/bytealg.abigen_runtime_cmpstring"], unfollowed := true, recurses := true, apart := false, narrowed := true }
def BlockNobodyUptoSaid : Prop := blockNobodyUptoRow.holds Try.pinned (OpenSpec.upto blockNobodySpec)

/-- 'atriumlaw08.BlockAgrees', WHERE WHAT IT READS IS OF BULK AT MOST 1048576: true; the input reads as it did. -/
def blockAgreesUptoRow : OpenClaim := { program := "ytbcaiegglbdonaa", sum := "524c1fe93687938408124bccab8604d37bd28f9af63222c0f771b56d6b119baf", func := "atrium/atriumlaw08.BlockAgrees", spec := "blockAgrees", inPlace := ["internal/bytealg.abigen_runtime_cmpstring"], unfollowed := true, recurses := true, apart := false, narrowed := true }
def BlockAgreesUptoSaid : Prop := blockAgreesUptoRow.holds Try.pinned (OpenSpec.upto blockAgreesSpec)

/-- 'atriumlaw09.TableBuilds', WHERE WHAT IT READS IS OF BULK AT MOST 1048576: true; the input reads as it did. -/
def tableBuildsUptoRow : OpenClaim := { program := "ytbcaiegglbdonaa", sum := "524c1fe93687938408124bccab8604d37bd28f9af63222c0f771b56d6b119baf", func := "atrium/atriumlaw09.TableBuilds", spec := "tableBuilds", inPlace := ["internal/bytealg.abigen_runtime_cmpstring"], unfollowed := true, recurses := true, apart := false, narrowed := true }
def TableBuildsUptoSaid : Prop := tableBuildsUptoRow.holds Try.pinned (OpenSpec.upto tableBuildsSpec)

/-- 'atriumlaw09.TableTurned', WHERE WHAT IT READS IS OF BULK AT MOST 1048576: true; the input reads as it did. -/
def tableTurnedUptoRow : OpenClaim := { program := "ytbcaiegglbdonaa", sum := "524c1fe93687938408124bccab8604d37bd28f9af63222c0f771b56d6b119baf", func := "atrium/atriumlaw09.TableTurned", spec := "tableTurned", inPlace := ["internal/bytealg.abigen_runtime_cmpstring"], unfollowed := true, recurses := true, apart := false, narrowed := true }
def TableTurnedUptoSaid : Prop := tableTurnedUptoRow.holds Try.pinned (OpenSpec.upto tableTurnedSpec)

/-- 'atriumlaw09.TableBack', WHERE WHAT IT READS IS OF BULK AT MOST 1048576: true; the input reads as it did. -/
def tableBackUptoRow : OpenClaim := { program := "ytbcaiegglbdonaa", sum := "524c1fe93687938408124bccab8604d37bd28f9af63222c0f771b56d6b119baf", func := "atrium/atriumlaw09.TableBack", spec := "tableBack", inPlace := ["internal/bytealg.abigen_runtime_cmpstring"], unfollowed := true, recurses := true, apart := false, narrowed := true }
def TableBackUptoSaid : Prop := tableBackUptoRow.holds Try.pinned (OpenSpec.upto tableBackSpec)

/-- 'atriumlaw09.TableNobody', WHERE WHAT IT READS IS OF BULK AT MOST 1048576: true; the input reads as it did. -/
def tableNobodyUptoRow : OpenClaim := { program := "ytbcaiegglbdonaa", sum := "524c1fe93687938408124bccab8604d37bd28f9af63222c0f771b56d6b119baf", func := "atrium/atriumlaw09.TableNobody", spec := "tableNobody", inPlace := ["internal/bytealg.abigen_runtime_cmpstring"], unfollowed := true, recurses := true, apart := false, narrowed := true }
def TableNobodyUptoSaid : Prop := tableNobodyUptoRow.holds Try.pinned (OpenSpec.upto tableNobodySpec)

end Rows
end Go.Proofs.Ytbcaiegglbdonaa
