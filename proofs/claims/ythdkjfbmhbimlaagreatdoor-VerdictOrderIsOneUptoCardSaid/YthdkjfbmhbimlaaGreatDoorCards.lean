/-
  DERIVED. GIVEN WITH THE SEED: THE CARDS: each row of YthdkjfbmhbimlaaGreatDoorRows.lean that lists a variable, with what it lists TIED to the program's text (the seventh form; the later family's looks); each row that meets fmt, with fmt's text TOLD by the authors' own Lean function (tested against real Go, not proved from fmt's source: count such statements apart). THE CARD IS WHAT COUNTS. Prove the row's statement (the work); the ties are given (YthdkjfbmhbimlaaGreatDoorTie.lean); close each card by the builder's one call (the guide's Derived/Test/ToyasCard.lean, 'card_holds'). Laid BY PROGRAM, IN A SANDBOX (cutbox-door.mjs). By AI agents, Wed Nov 11 2026. No macro, syntax, notation, axiom, sorry.
-/
import Derived.Test.YthdkjfbmhbimlaaGreatDoorRows
import GoSem.ClaimSeven
namespace Go.Proofs.YthdkjfbmhbimlaaGreatDoor
namespace Rows

/-- THE TIED CARD OF 'provenderlaw7.VerdictRiskMatchesSpec'. -/
def verdictRiskMatchesSpecCard : Claim7 := { stood := { row := verdictRiskMatchesSpecRow, standIns := [], harness := (true, "4419617dadddbe4d252e2ecfe2e405160caae91b63c6198c85979f86a74216cd"), looks := true }, kinds := [], alts := [], laidByText := true, laidKinds := [.data, .data, .data, .data, .sentinel, .sentinel, .pinned, .pinned], laidTests := true, laidLooks := .later }
def VerdictRiskMatchesSpecCardSaid : Prop := Claim7.holds Tryz.pinned (.plain (OpenSpec.ofChange verdictRiskMatchesSpecSpec)) verdictRiskMatchesSpecCard

/-- THE TIED CARD OF 'provenderlaw7.VerdictOrderIsOne'. -/
def verdictOrderIsOneCard : Claim7 := { stood := { row := verdictOrderIsOneRow, standIns := [], harness := (true, "4419617dadddbe4d252e2ecfe2e405160caae91b63c6198c85979f86a74216cd"), looks := true }, kinds := [], alts := [], laidByText := true, laidKinds := [.data, .data, .data, .data, .sentinel, .sentinel, .pinned, .pinned], laidTests := true, laidLooks := .later }
def VerdictOrderIsOneCardSaid : Prop := Claim7.holds Tryz.pinned (.plain (OpenSpec.ofChange verdictOrderIsOneSpec)) verdictOrderIsOneCard

/-- THE SECOND FORM's CARD OF 'provenderlaw7.VerdictRiskMatchesSpec'. -/
def verdictRiskMatchesSpecUptoCard : Claim7 := { stood := { row := verdictRiskMatchesSpecUptoRow, standIns := [], harness := (true, "4419617dadddbe4d252e2ecfe2e405160caae91b63c6198c85979f86a74216cd"), looks := true }, kinds := [], alts := [], laidByText := true, laidKinds := [.data, .data, .data, .data, .sentinel, .sentinel, .pinned, .pinned], laidTests := true, laidLooks := .later }
def VerdictRiskMatchesSpecUptoCardSaid : Prop := Claim7.holds Tryz.pinned (.plain (OpenSpec.upto verdictRiskMatchesSpecSpec)) verdictRiskMatchesSpecUptoCard

/-- THE SECOND FORM's CARD OF 'provenderlaw7.VerdictOrderIsOne'. -/
def verdictOrderIsOneUptoCard : Claim7 := { stood := { row := verdictOrderIsOneUptoRow, standIns := [], harness := (true, "4419617dadddbe4d252e2ecfe2e405160caae91b63c6198c85979f86a74216cd"), looks := true }, kinds := [], alts := [], laidByText := true, laidKinds := [.data, .data, .data, .data, .sentinel, .sentinel, .pinned, .pinned], laidTests := true, laidLooks := .later }
def VerdictOrderIsOneUptoCardSaid : Prop := Claim7.holds Tryz.pinned (.plain (OpenSpec.upto verdictOrderIsOneSpec)) verdictOrderIsOneUptoCard
end Rows
end Go.Proofs.YthdkjfbmhbimlaaGreatDoor
