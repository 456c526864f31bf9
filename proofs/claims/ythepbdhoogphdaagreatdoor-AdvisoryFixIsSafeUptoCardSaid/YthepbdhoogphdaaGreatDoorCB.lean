/-
  AN INPUT THAT FITS.
-/
import Derived.Test.YthepbdhoogphdaaGreatDoorF
set_option linter.unusedVariables false
set_option linter.unusedSimpArgs false
set_option linter.unusedSectionVars false
set_option maxRecDepth 100000
namespace Go.Proofs.YthepbdhoogphdaaGreatDoor.fix
open Go.ChangeShapes Go.WideShapes Go.ChangeAt Go.ChangeMaps Go.RowKit Go.Ev Go.Lib
theorem ucas_ (os : Os) : laidMet Tryz.prog Rows.advisoryFixIsSafeUptoRow.laid ((World.laidAll Tryz.prog os Rows.advisoryFixIsSafeUptoRow.laid).forCall (fun _ _ => 0) ⟨#[], #[.agg #[.string ⟨#[]⟩, .int .i64 0, .slice none 0 0, .slice none 0 0, .slice none 0 0], .slice none 0 0, .string ⟨#[]⟩], []⟩).memory :=
 laidMet_laidAll _ (by kernel_rfl) (by kernel_rfl)
theorem uccs_ (os : Os) : ((World.laidAll Tryz.prog os Rows.advisoryFixIsSafeUptoRow.laid).forCall (fun _ _ => 0) ⟨#[], #[.agg #[.string ⟨#[]⟩, .int .i64 0, .slice none 0 0, .slice none 0 0, .slice none 0 0], .slice none 0 0, .string ⟨#[]⟩], []⟩).Shaped Tryz.prog :=
 World.shaped_of_ZipB (by kernel_rfl) (by kernel_rfl)
theorem reads (os : Os) {H : Type} (enc : TypeId × Value → H) : ∃ places, DataW.whole enc Tryz.prog ((World.laidAll Tryz.prog os Rows.advisoryFixIsSafeUptoRow.laid).forCall (fun _ _ => 0) ⟨#[], #[.agg #[.string ⟨#[]⟩, .int .i64 0, .slice none 0 0, .slice none 0 0, .slice none 0 0], .slice none 0 0, .string ⟨#[]⟩], []⟩).memory Tryz.f4.params.toList Rows.advisoryFixIsSafeSpec.vars false #[.agg #[.string ⟨#[]⟩, .int .i64 0, .slice none 0 0, .slice none 0 0, .slice none 0 0], .slice none 0 0, .string ⟨#[]⟩].toList 8 =
 some ([.agg [.lit (.string []), .lit (.int .i64 0), .nil, .nil, .nil], .nil, .lit (.string [])], [], places) :=
 ⟨[], by kernel_rfl⟩
end Go.Proofs.YthepbdhoogphdaaGreatDoor.fix
