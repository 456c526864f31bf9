/-
  DERIVED. GIVEN WITH THE SEED: THE CARDS: each row of YtkmeffadhdmdhaaGreatDoorRows.lean that lists a variable, with what it lists TIED to the program's text (the seventh form; the later family's looks); each row that meets fmt, with fmt's text TOLD by the authors' own Lean function (tested against real Go, not proved from fmt's source: count such statements apart). THE CARD IS WHAT COUNTS. Prove the row's statement (the work); the ties are given (YtkmeffadhdmdhaaGreatDoorTie.lean); close each card by the builder's one call (the guide's Derived/Test/ToyasCard.lean, 'card_holds'). Laid BY PROGRAM, IN A SANDBOX (cutbox-door.mjs). By AI agents, Wed Nov 11 2026. No macro, syntax, notation, axiom, sorry.
-/
import Derived.Test.YtkmeffadhdmdhaaGreatDoorRows
import GoSem.ClaimSeven
namespace Go.Proofs.YtkmeffadhdmdhaaGreatDoor
namespace Rows

/-- THE TIED CARD OF 'provendertop.TopWitnessesCheck'. -/
def topWitnessesCheckCard : Claim7 := { stood := { row := topWitnessesCheckRow, standIns := [], harness := (true, "c4656f6b28df3bd71a8a92182c5b5d7a5272bbf3987fd6d8e5f04f89ffeca76b"), looks := true }, kinds := [], alts := [], laidByText := true, laidKinds := [.data, .data, .data, .data, .sentinel, .sentinel, .pinned, .pinned], laidTests := true, laidLooks := .later }
def TopWitnessesCheckCardSaid : Prop := Claim7.holds Tryz.pinned (.plain (OpenSpec.ofChange topWitnessesCheckSpec)) topWitnessesCheckCard

/-- THE SECOND FORM's CARD OF 'provendertop.TopWitnessesCheck'. -/
def topWitnessesCheckUptoCard : Claim7 := { stood := { row := topWitnessesCheckUptoRow, standIns := [], harness := (true, "c4656f6b28df3bd71a8a92182c5b5d7a5272bbf3987fd6d8e5f04f89ffeca76b"), looks := true }, kinds := [], alts := [], laidByText := true, laidKinds := [.data, .data, .data, .data, .sentinel, .sentinel, .pinned, .pinned], laidTests := true, laidLooks := .later }
def TopWitnessesCheckUptoCardSaid : Prop := Claim7.holds Tryz.pinned (.plain (OpenSpec.upto topWitnessesCheckSpec)) topWitnessesCheckUptoCard
end Rows
end Go.Proofs.YtkmeffadhdmdhaaGreatDoor
