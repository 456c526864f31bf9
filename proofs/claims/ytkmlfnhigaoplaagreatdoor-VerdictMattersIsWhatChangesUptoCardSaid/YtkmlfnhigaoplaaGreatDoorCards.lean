/-
  DERIVED. GIVEN WITH THE SEED: THE CARDS: each row of YtkmlfnhigaoplaaGreatDoorRows.lean that lists a variable, with what it lists TIED to the program's text (the seventh form; the later family's looks); each row that meets fmt, with fmt's text TOLD by the authors' own Lean function (tested against real Go, not proved from fmt's source: count such statements apart). THE CARD IS WHAT COUNTS. Prove the row's statement (the work); the ties are given (YtkmlfnhigaoplaaGreatDoorTie.lean); close each card by the builder's one call (the guide's Derived/Test/ToyasCard.lean, 'card_holds'). Laid BY PROGRAM, IN A SANDBOX (cutbox-door.mjs). By AI agents, Wed Nov 11 2026. No macro, syntax, notation, axiom, sorry.
-/
import Derived.Test.YtkmlfnhigaoplaaGreatDoorRows
import GoSem.ClaimSeven
namespace Go.Proofs.YtkmlfnhigaoplaaGreatDoor
namespace Rows

/-- THE TIED CARD OF 'provenderlaw7.VerdictOthersDoNotMatter'. -/
def verdictOthersDoNotMatterCard : Claim7 := { stood := { row := verdictOthersDoNotMatterRow, standIns := [], harness := (true, "59bc9409e91fe8d4cdb1f52c7cad64553aabf6e3ee90d8e615ba85147554d8c4"), looks := true }, kinds := [], alts := [], laidByText := true, laidKinds := [.data, .data, .data, .data, .sentinel, .sentinel, .pinned, .pinned], laidTests := true, laidLooks := .later }
def VerdictOthersDoNotMatterCardSaid : Prop := Claim7.holds Tryz.pinned (.plain (OpenSpec.ofChange verdictOthersDoNotMatterSpec)) verdictOthersDoNotMatterCard

/-- THE TIED CARD OF 'provenderlaw7.VerdictMattersIsWhatChanges'. -/
def verdictMattersIsWhatChangesCard : Claim7 := { stood := { row := verdictMattersIsWhatChangesRow, standIns := [], harness := (true, "59bc9409e91fe8d4cdb1f52c7cad64553aabf6e3ee90d8e615ba85147554d8c4"), looks := true }, kinds := [], alts := [], laidByText := true, laidKinds := [.data, .data, .data, .data, .sentinel, .sentinel, .pinned, .pinned], laidTests := true, laidLooks := .later }
def VerdictMattersIsWhatChangesCardSaid : Prop := Claim7.holds Tryz.pinned (.plain (OpenSpec.ofChange verdictMattersIsWhatChangesSpec)) verdictMattersIsWhatChangesCard

/-- THE SECOND FORM's CARD OF 'provenderlaw7.VerdictOthersDoNotMatter'. -/
def verdictOthersDoNotMatterUptoCard : Claim7 := { stood := { row := verdictOthersDoNotMatterUptoRow, standIns := [], harness := (true, "59bc9409e91fe8d4cdb1f52c7cad64553aabf6e3ee90d8e615ba85147554d8c4"), looks := true }, kinds := [], alts := [], laidByText := true, laidKinds := [.data, .data, .data, .data, .sentinel, .sentinel, .pinned, .pinned], laidTests := true, laidLooks := .later }
def VerdictOthersDoNotMatterUptoCardSaid : Prop := Claim7.holds Tryz.pinned (.plain (OpenSpec.upto verdictOthersDoNotMatterSpec)) verdictOthersDoNotMatterUptoCard

/-- THE SECOND FORM's CARD OF 'provenderlaw7.VerdictMattersIsWhatChanges'. -/
def verdictMattersIsWhatChangesUptoCard : Claim7 := { stood := { row := verdictMattersIsWhatChangesUptoRow, standIns := [], harness := (true, "59bc9409e91fe8d4cdb1f52c7cad64553aabf6e3ee90d8e615ba85147554d8c4"), looks := true }, kinds := [], alts := [], laidByText := true, laidKinds := [.data, .data, .data, .data, .sentinel, .sentinel, .pinned, .pinned], laidTests := true, laidLooks := .later }
def VerdictMattersIsWhatChangesUptoCardSaid : Prop := Claim7.holds Tryz.pinned (.plain (OpenSpec.upto verdictMattersIsWhatChangesSpec)) verdictMattersIsWhatChangesUptoCard
end Rows
end Go.Proofs.YtkmlfnhigaoplaaGreatDoor
