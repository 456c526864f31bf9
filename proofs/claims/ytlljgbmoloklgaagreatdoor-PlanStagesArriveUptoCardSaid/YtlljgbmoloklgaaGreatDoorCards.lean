/-
  DERIVED. GIVEN WITH THE SEED: THE CARDS: each row of YtlljgbmoloklgaaGreatDoorRows.lean that lists a variable, with what it lists TIED to the program's text (the seventh form; the later family's looks); each row that meets fmt, with fmt's text TOLD by the authors' own Lean function (tested against real Go, not proved from fmt's source: count such statements apart). THE CARD IS WHAT COUNTS. Prove the row's statement (the work); the ties are given (YtlljgbmoloklgaaGreatDoorTie.lean); close each card by the builder's one call (the guide's Derived/Test/ToyasCard.lean, 'card_holds'). Laid BY PROGRAM, IN A SANDBOX (cutbox-door.mjs). By AI agents, Wed Nov 11 2026. No macro, syntax, notation, axiom, sorry.
-/
import Derived.Test.YtlljgbmoloklgaaGreatDoorRows
import GoSem.ClaimSeven
namespace Go.Proofs.YtlljgbmoloklgaaGreatDoor
namespace Rows

/-- THE TIED CARD OF 'provenderlaw10.PlanConflictsAreLeast'. -/
def planConflictsAreLeastCard : Claim7 := { stood := { row := planConflictsAreLeastRow, standIns := [], harness := (true, "78eb7650e0aec6f04a3300390841e53365fe9446315f9afeaab136848ff51652"), looks := true }, kinds := [], alts := [], laidByText := true, laidKinds := [.data, .data, .data, .data, .sentinel, .sentinel, .pinned, .pinned], laidTests := true, laidLooks := .later }
def PlanConflictsAreLeastCardSaid : Prop := Claim7.holds Tryz.pinned (.plain (OpenSpec.ofChange planConflictsAreLeastSpec)) planConflictsAreLeastCard

/-- THE TIED CARD OF 'provenderlaw10.PlanAllSolve'. -/
def planAllSolveCard : Claim7 := { stood := { row := planAllSolveRow, standIns := [], harness := (true, "78eb7650e0aec6f04a3300390841e53365fe9446315f9afeaab136848ff51652"), looks := true }, kinds := [], alts := [], laidByText := true, laidKinds := [.data, .data, .data, .data, .sentinel, .sentinel, .pinned, .pinned], laidTests := true, laidLooks := .later }
def PlanAllSolveCardSaid : Prop := Claim7.holds Tryz.pinned (.plain (OpenSpec.ofChange planAllSolveSpec)) planAllSolveCard

/-- THE TIED CARD OF 'provenderlaw10.PlanBestIsLeast'. -/
def planBestIsLeastCard : Claim7 := { stood := { row := planBestIsLeastRow, standIns := [], harness := (true, "78eb7650e0aec6f04a3300390841e53365fe9446315f9afeaab136848ff51652"), looks := true }, kinds := [], alts := [], laidByText := true, laidKinds := [.data, .data, .data, .data, .sentinel, .sentinel, .pinned, .pinned], laidTests := true, laidLooks := .later }
def PlanBestIsLeastCardSaid : Prop := Claim7.holds Tryz.pinned (.plain (OpenSpec.ofChange planBestIsLeastSpec)) planBestIsLeastCard

/-- THE TIED CARD OF 'provenderlaw10.PlanStagesArrive'. -/
def planStagesArriveCard : Claim7 := { stood := { row := planStagesArriveRow, standIns := [], harness := (true, "78eb7650e0aec6f04a3300390841e53365fe9446315f9afeaab136848ff51652"), looks := true }, kinds := [], alts := [], laidByText := true, laidKinds := [.data, .data, .data, .data, .sentinel, .sentinel, .pinned, .pinned], laidTests := true, laidLooks := .later }
def PlanStagesArriveCardSaid : Prop := Claim7.holds Tryz.pinned (.plain (OpenSpec.ofChange planStagesArriveSpec)) planStagesArriveCard

/-- THE SECOND FORM's CARD OF 'provenderlaw10.PlanConflictsAreLeast'. -/
def planConflictsAreLeastUptoCard : Claim7 := { stood := { row := planConflictsAreLeastUptoRow, standIns := [], harness := (true, "78eb7650e0aec6f04a3300390841e53365fe9446315f9afeaab136848ff51652"), looks := true }, kinds := [], alts := [], laidByText := true, laidKinds := [.data, .data, .data, .data, .sentinel, .sentinel, .pinned, .pinned], laidTests := true, laidLooks := .later }
def PlanConflictsAreLeastUptoCardSaid : Prop := Claim7.holds Tryz.pinned (.plain (OpenSpec.upto planConflictsAreLeastSpec)) planConflictsAreLeastUptoCard

/-- THE SECOND FORM's CARD OF 'provenderlaw10.PlanAllSolve'. -/
def planAllSolveUptoCard : Claim7 := { stood := { row := planAllSolveUptoRow, standIns := [], harness := (true, "78eb7650e0aec6f04a3300390841e53365fe9446315f9afeaab136848ff51652"), looks := true }, kinds := [], alts := [], laidByText := true, laidKinds := [.data, .data, .data, .data, .sentinel, .sentinel, .pinned, .pinned], laidTests := true, laidLooks := .later }
def PlanAllSolveUptoCardSaid : Prop := Claim7.holds Tryz.pinned (.plain (OpenSpec.upto planAllSolveSpec)) planAllSolveUptoCard

/-- THE SECOND FORM's CARD OF 'provenderlaw10.PlanBestIsLeast'. -/
def planBestIsLeastUptoCard : Claim7 := { stood := { row := planBestIsLeastUptoRow, standIns := [], harness := (true, "78eb7650e0aec6f04a3300390841e53365fe9446315f9afeaab136848ff51652"), looks := true }, kinds := [], alts := [], laidByText := true, laidKinds := [.data, .data, .data, .data, .sentinel, .sentinel, .pinned, .pinned], laidTests := true, laidLooks := .later }
def PlanBestIsLeastUptoCardSaid : Prop := Claim7.holds Tryz.pinned (.plain (OpenSpec.upto planBestIsLeastSpec)) planBestIsLeastUptoCard

/-- THE SECOND FORM's CARD OF 'provenderlaw10.PlanStagesArrive'. -/
def planStagesArriveUptoCard : Claim7 := { stood := { row := planStagesArriveUptoRow, standIns := [], harness := (true, "78eb7650e0aec6f04a3300390841e53365fe9446315f9afeaab136848ff51652"), looks := true }, kinds := [], alts := [], laidByText := true, laidKinds := [.data, .data, .data, .data, .sentinel, .sentinel, .pinned, .pinned], laidTests := true, laidLooks := .later }
def PlanStagesArriveUptoCardSaid : Prop := Claim7.holds Tryz.pinned (.plain (OpenSpec.upto planStagesArriveSpec)) planStagesArriveUptoCard
end Rows
end Go.Proofs.YtlljgbmoloklgaaGreatDoor
