/-
  The tied card of the law LinModel: the law returns true for every input and leaves its arguments as they were; what its row lists of Go's tables is tied to the program's text. Conditions: none of its own.
-/
import Derived.Test.YtmdgeknnhckgfaaGreatDoorS44
import Derived.Test.YtmdgeknnhckgfaaGreatDoorTie
import Derived.Test.YtmdgeknnhckgfaaGreatDoorCards
import Derived.SevenTiedAt
set_option linter.unusedSimpArgs false
set_option linter.unusedVariables false
namespace Go.Proofs.YtmdgeknnhckgfaaGreatDoor
open Go
theorem linModel_card_holds:Rows.LinModelCardSaid :=
  Claim7.holds_tied_plain_at .later [] [.data,.data,.data,.data,.pinned,.pinned,.pinned,.pinned,.pinned,.pinned] true (true,"6643a7ca246398d9ff2c6fc6ad2dc73c62c78c3cf2484d5a85cd48a158fe6a2c") true
    linModel_said (fun _ h=>by cases h) (by kernel_rfl) (fun _ h=>by cases h) linModel_row_tie rfl ⟨rfl,rfl⟩ (by kernel_rfl) rfl
    (fun f fn hf hfn=>by
      obtain rfl:f=3:=Option.some.inj ((show Tryz.prog.funcNamed "atrium/atriumlaw29.LinModel" = some 3 by kernel_rfl).symm.trans hf) |>.symm
      obtain rfl:fn=Tryz.f3:=(Option.some.inj (Tryz.func3.symm.trans hfn)).symm
      exact ⟨by kernel_rfl,fun j t ht=>by
        rw [Tryz.params3] at ht
        have h3:t=28∨t=29∨t=30∨t=3∨t=35:=by
          rcases j with _ | _ | _ | _ | _ | j<;>simp at ht<;>simp [ht]
        rcases h3 with rfl | rfl | rfl | rfl | rfl
        · exact (show Tryz.prog.wantsStandIn 28=false by kernel_rfl)
        · exact (show Tryz.prog.wantsStandIn 29=false by kernel_rfl)
        · exact (show Tryz.prog.wantsStandIn 30=false by kernel_rfl)
        · exact (show Tryz.prog.wantsStandIn 3=false by kernel_rfl)
        · exact (show Tryz.prog.wantsStandIn 35=false by kernel_rfl)⟩)
    (by kernel_rfl)
end Go.Proofs.YtmdgeknnhckgfaaGreatDoor
