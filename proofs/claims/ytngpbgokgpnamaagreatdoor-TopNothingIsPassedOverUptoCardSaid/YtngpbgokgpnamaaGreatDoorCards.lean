/-
  DERIVED. GIVEN WITH THE SEED: THE CARDS: each row of YtngpbgokgpnamaaGreatDoorRows.lean that lists a variable, with what it lists TIED to the program's text (the seventh form; the later family's looks); each row that meets fmt, with fmt's text TOLD by the authors' own Lean function (tested against real Go, not proved from fmt's source: count such statements apart). THE CARD IS WHAT COUNTS. Prove the row's statement (the work); the ties are given (YtngpbgokgpnamaaGreatDoorTie.lean); close each card by the builder's one call (the guide's Derived/Test/ToyasCard.lean, 'card_holds'). Laid BY PROGRAM, IN A SANDBOX (cutbox-door.mjs). By AI agents, Wed Nov 11 2026. No macro, syntax, notation, axiom, sorry.
-/
import Derived.Test.YtngpbgokgpnamaaGreatDoorRows
import GoSem.ClaimSeven
namespace Go.Proofs.YtngpbgokgpnamaaGreatDoor
namespace Rows

/-- THE TIED CARD OF 'provendertop.TopNothingIsPassedOver'. -/
def topNothingIsPassedOverCard : Claim7 := { stood := { row := topNothingIsPassedOverRow, standIns := [], harness := (true, "071f20c2cff27464a608b888a6ea1edda5ab86952ef8da284b2c298d94d69dde"), looks := true }, kinds := [], alts := [], laidByText := true, laidKinds := [.data, .data, .data, .data, .sentinel, .sentinel, .pinned, .pinned], laidTests := true, laidLooks := .later }
def TopNothingIsPassedOverCardSaid : Prop := Claim7.holds Tryz.pinned (.plain (OpenSpec.ofChange topNothingIsPassedOverSpec)) topNothingIsPassedOverCard

/-- THE SECOND FORM's CARD OF 'provendertop.TopNothingIsPassedOver'. -/
def topNothingIsPassedOverUptoCard : Claim7 := { stood := { row := topNothingIsPassedOverUptoRow, standIns := [], harness := (true, "071f20c2cff27464a608b888a6ea1edda5ab86952ef8da284b2c298d94d69dde"), looks := true }, kinds := [], alts := [], laidByText := true, laidKinds := [.data, .data, .data, .data, .sentinel, .sentinel, .pinned, .pinned], laidTests := true, laidLooks := .later }
def TopNothingIsPassedOverUptoCardSaid : Prop := Claim7.holds Tryz.pinned (.plain (OpenSpec.upto topNothingIsPassedOverSpec)) topNothingIsPassedOverUptoCard
end Rows
end Go.Proofs.YtngpbgokgpnamaaGreatDoor
