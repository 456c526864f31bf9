/-
  AN INPUT THAT FITS.
-/
import Derived.Test.YthdkjfbmhbimlaaGreatDoorF
set_option linter.unusedVariables false
set_option linter.unusedSimpArgs false
set_option linter.unusedSectionVars false
set_option maxRecDepth 100000
namespace Go.Proofs.YthdkjfbmhbimlaaGreatDoor.order
open Go.ChangeShapes Go.WideShapes Go.ChangeAt Go.ChangeMaps Go.RowKit Go.Ev Go.Lib
theorem ucck_ (os:Os):laidMet Tryz.prog Rows.verdictOrderIsOneUptoRow.laid ((World.laidAll Tryz.prog os Rows.verdictOrderIsOneUptoRow.laid).forCall (fun _ _=>0) ⟨#[],#[.slice none 0 0],[]⟩).memory :=
 laidMet_laidAll _ (by kernel_rfl) (by kernel_rfl)
theorem ucfe_ (os:Os):((World.laidAll Tryz.prog os Rows.verdictOrderIsOneUptoRow.laid).forCall (fun _ _=>0) ⟨#[],#[.slice none 0 0],[]⟩).Shaped Tryz.prog :=
 World.shaped_of_ZipB (by kernel_rfl) (by kernel_rfl)
theorem reads (os:Os) {H:Type} (enc:TypeId×Value→H):∃ places,DataW.whole enc Tryz.prog ((World.laidAll Tryz.prog os Rows.verdictOrderIsOneUptoRow.laid).forCall (fun _ _=>0) ⟨#[],#[.slice none 0 0],[]⟩).memory Tryz.f4.params.toList Rows.verdictOrderIsOneSpec.vars false #[.slice none 0 0].toList 8 =
 some ([.nil],[],places) :=
 ⟨[],by kernel_rfl⟩
end Go.Proofs.YthdkjfbmhbimlaaGreatDoor.order
