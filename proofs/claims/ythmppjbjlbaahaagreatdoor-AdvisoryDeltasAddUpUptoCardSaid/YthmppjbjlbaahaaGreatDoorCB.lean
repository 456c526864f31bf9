/-
  AN INPUT THAT FITS.
-/
import Derived.Test.YthmppjbjlbaahaaGreatDoorF
set_option linter.unusedVariables false
set_option linter.unusedSimpArgs false
set_option linter.unusedSectionVars false
set_option maxRecDepth 100000
namespace Go.Proofs.YthmppjbjlbaahaaGreatDoor.deltas
open Go.ChangeShapes Go.WideShapes Go.ChangeAt Go.ChangeMaps Go.RowKit Go.Ev Go.Lib
noncomputable abbrev z0 : Value := .agg #[.int .i64 0, .slice none 0 0, .slice none 0 0]
noncomputable abbrev z1 : Value := .agg #[.int .i64 0, .int .i64 0, .slice none 0 0, .slice none 0 0]
theorem ucbw_ (os : Os) : laidMet Tryz.prog Rows.advisoryDeltasAddUpUptoRow.laid ((World.laidAll Tryz.prog os Rows.advisoryDeltasAddUpUptoRow.laid).forCall (fun _ _ => 0) ⟨#[], #[z0, z1, z1], []⟩).memory :=
 laidMet_laidAll _ (by kernel_rfl) (by kernel_rfl)
theorem ucd3_ (os : Os) : ((World.laidAll Tryz.prog os Rows.advisoryDeltasAddUpUptoRow.laid).forCall (fun _ _ => 0) ⟨#[], #[z0, z1, z1], []⟩).Shaped Tryz.prog :=
 World.shaped_of_ZipB (by kernel_rfl) (by kernel_rfl)
theorem reads (os : Os) {H : Type} (enc : TypeId × Value → H) : ∃ places, DataW.whole enc Tryz.prog ((World.laidAll Tryz.prog os Rows.advisoryDeltasAddUpUptoRow.laid).forCall (fun _ _ => 0) ⟨#[], #[z0, z1, z1], []⟩).memory Tryz.f4.params.toList Rows.advisoryDeltasAddUpSpec.vars false #[z0, z1, z1].toList 8 =
 some ([.agg [.lit (.int .i64 0), .nil, .nil], .agg [.lit (.int .i64 0), .lit (.int .i64 0), .nil, .nil], .agg [.lit (.int .i64 0), .lit (.int .i64 0), .nil, .nil]], [], places) :=
 ⟨[], by kernel_rfl⟩
end Go.Proofs.YthmppjbjlbaahaaGreatDoor.deltas
