/-
  DERIVED. GIVEN WITH THE SEED: THE CARDS: each row of YthepbdhoogphdaaGreatDoorRows.lean that lists a variable, with what it lists TIED to the program's text (the seventh form; the later family's looks); each row that meets fmt, with fmt's text TOLD by the authors' own Lean function (tested against real Go, not proved from fmt's source: count such statements apart). THE CARD IS WHAT COUNTS. Prove the row's statement (the work); the ties are given (YthepbdhoogphdaaGreatDoorTie.lean); close each card by the builder's one call (the guide's Derived/Test/ToyasCard.lean, 'card_holds'). Laid BY PROGRAM, IN A SANDBOX (cutbox-door.mjs). By AI agents, Wed Nov 11 2026. No macro, syntax, notation, axiom, sorry.
-/
import Derived.Test.YthepbdhoogphdaaGreatDoorRows
import GoSem.ClaimSeven
namespace Go.Proofs.YthepbdhoogphdaaGreatDoor
namespace Rows

/-- THE TIED CARD OF 'provenderlaw5.AdvisoryMergedIsOnce'. -/
def advisoryMergedIsOnceCard : Claim7 := { stood := { row := advisoryMergedIsOnceRow, standIns := [], harness := (true, "0b7454706a93d5d1d7b49776a2eb6c5c6ba8f9c82cfb64f9f6ee0b2556f6bdb8"), looks := true }, kinds := [], alts := [], laidByText := true, laidKinds := [.data, .data, .data, .data, .sentinel, .sentinel, .pinned, .pinned], laidTests := true, laidLooks := .later }
def AdvisoryMergedIsOnceCardSaid : Prop := Claim7.holds Tryz.pinned (.plain (OpenSpec.ofChange advisoryMergedIsOnceSpec)) advisoryMergedIsOnceCard

/-- THE TIED CARD OF 'provenderlaw5.AdvisoryFixIsSafe'. -/
def advisoryFixIsSafeCard : Claim7 := { stood := { row := advisoryFixIsSafeRow, standIns := [], harness := (true, "0b7454706a93d5d1d7b49776a2eb6c5c6ba8f9c82cfb64f9f6ee0b2556f6bdb8"), looks := true }, kinds := [], alts := [], laidByText := true, laidKinds := [.data, .data, .data, .data, .sentinel, .sentinel, .pinned, .pinned], laidTests := true, laidLooks := .later }
def AdvisoryFixIsSafeCardSaid : Prop := Claim7.holds Tryz.pinned (.plain (OpenSpec.ofChange advisoryFixIsSafeSpec)) advisoryFixIsSafeCard

/-- THE SECOND FORM's CARD OF 'provenderlaw5.AdvisoryMergedIsOnce'. -/
def advisoryMergedIsOnceUptoCard : Claim7 := { stood := { row := advisoryMergedIsOnceUptoRow, standIns := [], harness := (true, "0b7454706a93d5d1d7b49776a2eb6c5c6ba8f9c82cfb64f9f6ee0b2556f6bdb8"), looks := true }, kinds := [], alts := [], laidByText := true, laidKinds := [.data, .data, .data, .data, .sentinel, .sentinel, .pinned, .pinned], laidTests := true, laidLooks := .later }
def AdvisoryMergedIsOnceUptoCardSaid : Prop := Claim7.holds Tryz.pinned (.plain (OpenSpec.upto advisoryMergedIsOnceSpec)) advisoryMergedIsOnceUptoCard

/-- THE SECOND FORM's CARD OF 'provenderlaw5.AdvisoryFixIsSafe'. -/
def advisoryFixIsSafeUptoCard : Claim7 := { stood := { row := advisoryFixIsSafeUptoRow, standIns := [], harness := (true, "0b7454706a93d5d1d7b49776a2eb6c5c6ba8f9c82cfb64f9f6ee0b2556f6bdb8"), looks := true }, kinds := [], alts := [], laidByText := true, laidKinds := [.data, .data, .data, .data, .sentinel, .sentinel, .pinned, .pinned], laidTests := true, laidLooks := .later }
def AdvisoryFixIsSafeUptoCardSaid : Prop := Claim7.holds Tryz.pinned (.plain (OpenSpec.upto advisoryFixIsSafeSpec)) advisoryFixIsSafeUptoCard
end Rows
end Go.Proofs.YthepbdhoogphdaaGreatDoor
