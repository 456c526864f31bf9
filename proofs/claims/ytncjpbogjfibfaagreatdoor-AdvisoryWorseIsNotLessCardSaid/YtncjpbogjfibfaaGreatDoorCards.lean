/-
  DERIVED. GIVEN WITH THE SEED: THE CARDS: each row of YtncjpbogjfibfaaGreatDoorRows.lean that lists a variable, with what it lists TIED to the program's text (the seventh form; the later family's looks); each row that meets fmt, with fmt's text TOLD by the authors' own Lean function (tested against real Go, not proved from fmt's source: count such statements apart). THE CARD IS WHAT COUNTS. Prove the row's statement (the work); the ties are given (YtncjpbogjfibfaaGreatDoorTie.lean); close each card by the builder's one call (the guide's Derived/Test/ToyasCard.lean, 'card_holds'). Laid BY PROGRAM, IN A SANDBOX (cutbox-door.mjs). By AI agents, Wed Nov 11 2026. No macro, syntax, notation, axiom, sorry.
-/
import Derived.Test.YtncjpbogjfibfaaGreatDoorRows
import GoSem.ClaimSeven
namespace Go.Proofs.YtncjpbogjfibfaaGreatDoor
namespace Rows

/-- THE TIED CARD OF 'provenderlaw5.AdvisoryWorseIsNotLess'. -/
def advisoryWorseIsNotLessCard : Claim7 := { stood := { row := advisoryWorseIsNotLessRow, standIns := [], harness := (true, "75fc21dd9204f77f9424f937fa753abafca54293066d724cd2449ba7d9aafac8"), looks := true }, kinds := [], alts := [], laidByText := true, laidKinds := [.data, .data, .data, .data, .sentinel, .sentinel, .pinned, .pinned], laidTests := true, laidLooks := .later }
def AdvisoryWorseIsNotLessCardSaid : Prop := Claim7.holds Tryz.pinned (.plain (OpenSpec.ofChange advisoryWorseIsNotLessSpec)) advisoryWorseIsNotLessCard

/-- THE TIED CARD OF 'provenderlaw5.AdvisoryScoreMatchesSpec'. -/
def advisoryScoreMatchesSpecCard : Claim7 := { stood := { row := advisoryScoreMatchesSpecRow, standIns := [], harness := (true, "75fc21dd9204f77f9424f937fa753abafca54293066d724cd2449ba7d9aafac8"), looks := true }, kinds := [], alts := [], laidByText := true, laidKinds := [.data, .data, .data, .data, .sentinel, .sentinel, .pinned, .pinned], laidTests := true, laidLooks := .later }
def AdvisoryScoreMatchesSpecCardSaid : Prop := Claim7.holds Tryz.pinned (.plain (OpenSpec.ofChange advisoryScoreMatchesSpecSpec)) advisoryScoreMatchesSpecCard

/-- THE SECOND FORM's CARD OF 'provenderlaw5.AdvisoryWorseIsNotLess'. -/
def advisoryWorseIsNotLessUptoCard : Claim7 := { stood := { row := advisoryWorseIsNotLessUptoRow, standIns := [], harness := (true, "75fc21dd9204f77f9424f937fa753abafca54293066d724cd2449ba7d9aafac8"), looks := true }, kinds := [], alts := [], laidByText := true, laidKinds := [.data, .data, .data, .data, .sentinel, .sentinel, .pinned, .pinned], laidTests := true, laidLooks := .later }
def AdvisoryWorseIsNotLessUptoCardSaid : Prop := Claim7.holds Tryz.pinned (.plain (OpenSpec.upto advisoryWorseIsNotLessSpec)) advisoryWorseIsNotLessUptoCard

/-- THE SECOND FORM's CARD OF 'provenderlaw5.AdvisoryScoreMatchesSpec'. -/
def advisoryScoreMatchesSpecUptoCard : Claim7 := { stood := { row := advisoryScoreMatchesSpecUptoRow, standIns := [], harness := (true, "75fc21dd9204f77f9424f937fa753abafca54293066d724cd2449ba7d9aafac8"), looks := true }, kinds := [], alts := [], laidByText := true, laidKinds := [.data, .data, .data, .data, .sentinel, .sentinel, .pinned, .pinned], laidTests := true, laidLooks := .later }
def AdvisoryScoreMatchesSpecUptoCardSaid : Prop := Claim7.holds Tryz.pinned (.plain (OpenSpec.upto advisoryScoreMatchesSpecSpec)) advisoryScoreMatchesSpecUptoCard
end Rows
end Go.Proofs.YtncjpbogjfibfaaGreatDoor
