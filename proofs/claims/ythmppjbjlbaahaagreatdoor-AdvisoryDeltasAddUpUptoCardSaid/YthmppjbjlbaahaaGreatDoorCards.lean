/-
  DERIVED. GIVEN WITH THE SEED: THE CARDS: each row of YthmppjbjlbaahaaGreatDoorRows.lean that lists a variable, with what it lists TIED to the program's text (the seventh form; the later family's looks); each row that meets fmt, with fmt's text TOLD by the authors' own Lean function (tested against real Go, not proved from fmt's source: count such statements apart). THE CARD IS WHAT COUNTS. Prove the row's statement (the work); the ties are given (YthmppjbjlbaahaaGreatDoorTie.lean); close each card by the builder's one call (the guide's Derived/Test/ToyasCard.lean, 'card_holds'). Laid BY PROGRAM, IN A SANDBOX (cutbox-door.mjs). By AI agents, Wed Nov 11 2026. No macro, syntax, notation, axiom, sorry.
-/
import Derived.Test.YthmppjbjlbaahaaGreatDoorRows
import GoSem.ClaimSeven
namespace Go.Proofs.YthmppjbjlbaahaaGreatDoor
namespace Rows

/-- THE TIED CARD OF 'provenderlaw5.AdvisoryAffectedMatchesSpec'. -/
def advisoryAffectedMatchesSpecCard : Claim7 := { stood := { row := advisoryAffectedMatchesSpecRow, standIns := [], harness := (true, "78aac8488309d49bdef189d778d6a2022f7145dc880886d41340fe875a46abd0"), looks := true }, kinds := [], alts := [], laidByText := true, laidKinds := [.data, .data, .data, .data, .sentinel, .sentinel, .pinned, .pinned], laidTests := true, laidLooks := .later }
def AdvisoryAffectedMatchesSpecCardSaid : Prop := Claim7.holds Tryz.pinned (.plain (OpenSpec.ofChange advisoryAffectedMatchesSpecSpec)) advisoryAffectedMatchesSpecCard

/-- THE TIED CARD OF 'provenderlaw5.AdvisoryDeltasAddUp'. -/
def advisoryDeltasAddUpCard : Claim7 := { stood := { row := advisoryDeltasAddUpRow, standIns := [], harness := (true, "78aac8488309d49bdef189d778d6a2022f7145dc880886d41340fe875a46abd0"), looks := true }, kinds := [], alts := [], laidByText := true, laidKinds := [.data, .data, .data, .data, .sentinel, .sentinel, .pinned, .pinned], laidTests := true, laidLooks := .later }
def AdvisoryDeltasAddUpCardSaid : Prop := Claim7.holds Tryz.pinned (.plain (OpenSpec.ofChange advisoryDeltasAddUpSpec)) advisoryDeltasAddUpCard

/-- THE SECOND FORM's CARD OF 'provenderlaw5.AdvisoryAffectedMatchesSpec'. -/
def advisoryAffectedMatchesSpecUptoCard : Claim7 := { stood := { row := advisoryAffectedMatchesSpecUptoRow, standIns := [], harness := (true, "78aac8488309d49bdef189d778d6a2022f7145dc880886d41340fe875a46abd0"), looks := true }, kinds := [], alts := [], laidByText := true, laidKinds := [.data, .data, .data, .data, .sentinel, .sentinel, .pinned, .pinned], laidTests := true, laidLooks := .later }
def AdvisoryAffectedMatchesSpecUptoCardSaid : Prop := Claim7.holds Tryz.pinned (.plain (OpenSpec.upto advisoryAffectedMatchesSpecSpec)) advisoryAffectedMatchesSpecUptoCard

/-- THE SECOND FORM's CARD OF 'provenderlaw5.AdvisoryDeltasAddUp'. -/
def advisoryDeltasAddUpUptoCard : Claim7 := { stood := { row := advisoryDeltasAddUpUptoRow, standIns := [], harness := (true, "78aac8488309d49bdef189d778d6a2022f7145dc880886d41340fe875a46abd0"), looks := true }, kinds := [], alts := [], laidByText := true, laidKinds := [.data, .data, .data, .data, .sentinel, .sentinel, .pinned, .pinned], laidTests := true, laidLooks := .later }
def AdvisoryDeltasAddUpUptoCardSaid : Prop := Claim7.holds Tryz.pinned (.plain (OpenSpec.upto advisoryDeltasAddUpSpec)) advisoryDeltasAddUpUptoCard
end Rows
end Go.Proofs.YthmppjbjlbaahaaGreatDoor
