/-
  DERIVED. GIVEN WITH THE SEED: THE CARDS: each row of YtnjpcjnkhelfoabGreatDoorRows.lean that lists a variable, with what it lists TIED to the program's text (the seventh form; the later family's looks); each row that meets fmt, with fmt's text TOLD by the authors' own Lean function (tested against real Go, not proved from fmt's source: count such statements apart). THE CARD IS WHAT COUNTS. Prove the row's statement (the work); the ties are given (YtnjpcjnkhelfoabGreatDoorTie.lean); close each card by the builder's one call (the guide's Derived/Test/ToyasCard.lean, 'card_holds'). Laid BY PROGRAM, IN A SANDBOX (cutbox-door.mjs). By AI agents, Wed Nov 11 2026. No macro, syntax, notation, axiom, sorry.
-/
import Derived.Test.YtnjpcjnkhelfoabGreatDoorRows
import GoSem.ClaimSeven
namespace Go.Proofs.YtnjpcjnkhelfoabGreatDoor
namespace Rows

/-- THE TIED CARD OF 'refuterlaw12.EvalLists'. -/
def evalListsCard : Claim7 := { stood := { row := evalListsRow, standIns := [], harness := (true, "2d7223ad6aac6b28f96f0f19a7457ef43312eaa7b1f34af783181ce671b8672e"), looks := true }, kinds := [], alts := [], laidByText := true, laidKinds := [.data, .data, .data, .sentinel, .sentinel], laidTests := true, laidLooks := .later }
def EvalListsCardSaid : Prop := Claim7.holds Tryz.pinned (.plain (OpenSpec.ofChange evalListsSpec)) evalListsCard

/-- THE SECOND FORM's CARD OF 'refuterlaw12.EvalLists'. -/
def evalListsUptoCard : Claim7 := { stood := { row := evalListsUptoRow, standIns := [], harness := (true, "2d7223ad6aac6b28f96f0f19a7457ef43312eaa7b1f34af783181ce671b8672e"), looks := true }, kinds := [], alts := [], laidByText := true, laidKinds := [.data, .data, .data, .sentinel, .sentinel], laidTests := true, laidLooks := .later }
def EvalListsUptoCardSaid : Prop := Claim7.holds Tryz.pinned (.plain (OpenSpec.upto evalListsSpec)) evalListsUptoCard
end Rows
end Go.Proofs.YtnjpcjnkhelfoabGreatDoor
