/-
  DERIVED. GIVEN WITH THE SEED: THE CARDS: each row of YtmdgeknnhckgfaaGreatDoorRows.lean that lists a variable, with what it lists TIED to the program's text (the seventh form; the later family's looks); each row that meets fmt, with fmt's text TOLD by the authors' own Lean function (tested against real Go, not proved from fmt's source: count such statements apart). THE CARD IS WHAT COUNTS. Prove the row's statement (the work); the ties are given (YtmdgeknnhckgfaaGreatDoorTie.lean); close each card by the builder's one call (the guide's Derived/Test/ToyasCard.lean, 'card_holds'). Laid BY PROGRAM, IN A SANDBOX (cutbox-door.mjs). By AI agents, Wed Nov 11 2026. No macro, syntax, notation, axiom, sorry.
-/
import Derived.Test.YtmdgeknnhckgfaaGreatDoorRows
import GoSem.ClaimSeven
namespace Go.Proofs.YtmdgeknnhckgfaaGreatDoor
namespace Rows

/-- THE TIED CARD OF 'atriumlaw29.LinModel'. -/
def linModelCard : Claim7 := { stood := { row := linModelRow, standIns := [], harness := (true, "6643a7ca246398d9ff2c6fc6ad2dc73c62c78c3cf2484d5a85cd48a158fe6a2c"), looks := true }, kinds := [], alts := [], laidByText := true, laidKinds := [.data, .data, .data, .data, .pinned, .pinned, .pinned, .pinned, .pinned, .pinned], laidTests := true, laidLooks := .later }
def LinModelCardSaid : Prop := Claim7.holds Tryz.pinned (.plain (OpenSpec.ofChange linModelSpec)) linModelCard

/-- THE SECOND FORM's CARD OF 'atriumlaw29.LinModel'. -/
def linModelUptoCard : Claim7 := { stood := { row := linModelUptoRow, standIns := [], harness := (true, "6643a7ca246398d9ff2c6fc6ad2dc73c62c78c3cf2484d5a85cd48a158fe6a2c"), looks := true }, kinds := [], alts := [], laidByText := true, laidKinds := [.data, .data, .data, .data, .pinned, .pinned, .pinned, .pinned, .pinned, .pinned], laidTests := true, laidLooks := .later }
def LinModelUptoCardSaid : Prop := Claim7.holds Tryz.pinned (.plain (OpenSpec.upto linModelSpec)) linModelUptoCard
end Rows
end Go.Proofs.YtmdgeknnhckgfaaGreatDoor
