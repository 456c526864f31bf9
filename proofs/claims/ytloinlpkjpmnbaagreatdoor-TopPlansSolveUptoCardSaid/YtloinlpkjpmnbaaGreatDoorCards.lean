/-
  DERIVED. GIVEN WITH THE SEED: THE CARDS: each row of YtloinlpkjpmnbaaGreatDoorRows.lean that lists a variable, with what it lists TIED to the program's text (the seventh form; the later family's looks); each row that meets fmt, with fmt's text TOLD by the authors' own Lean function (tested against real Go, not proved from fmt's source: count such statements apart). THE CARD IS WHAT COUNTS. Prove the row's statement (the work); the ties are given (YtloinlpkjpmnbaaGreatDoorTie.lean); close each card by the builder's one call (the guide's Derived/Test/ToyasCard.lean, 'card_holds'). Laid BY PROGRAM, IN A SANDBOX (cutbox-door.mjs). By AI agents, Wed Nov 11 2026. No macro, syntax, notation, axiom, sorry.
-/
import Derived.Test.YtloinlpkjpmnbaaGreatDoorRows
import GoSem.ClaimSeven
namespace Go.Proofs.YtloinlpkjpmnbaaGreatDoor
namespace Rows

/-- THE TIED CARD OF 'provendertop.TopPlansSolve'. -/
def topPlansSolveCard : Claim7 := { stood := { row := topPlansSolveRow, standIns := [], harness := (true, "644295f7820202ab401b63b4202ba06971dc6b7fd28f1bb32fba6562f901c4d3"), looks := true }, kinds := [], alts := [], laidByText := true, laidKinds := [.data, .data, .data, .data, .sentinel, .sentinel, .pinned, .pinned], laidTests := true, laidLooks := .later }
def TopPlansSolveCardSaid : Prop := Claim7.holds Tryz.pinned (.plain (OpenSpec.ofChange topPlansSolveSpec)) topPlansSolveCard

/-- THE SECOND FORM's CARD OF 'provendertop.TopPlansSolve'. -/
def topPlansSolveUptoCard : Claim7 := { stood := { row := topPlansSolveUptoRow, standIns := [], harness := (true, "644295f7820202ab401b63b4202ba06971dc6b7fd28f1bb32fba6562f901c4d3"), looks := true }, kinds := [], alts := [], laidByText := true, laidKinds := [.data, .data, .data, .data, .sentinel, .sentinel, .pinned, .pinned], laidTests := true, laidLooks := .later }
def TopPlansSolveUptoCardSaid : Prop := Claim7.holds Tryz.pinned (.plain (OpenSpec.upto topPlansSolveSpec)) topPlansSolveUptoCard
end Rows
end Go.Proofs.YtloinlpkjpmnbaaGreatDoor
