/-
  THE ROW's STEP.
-/
import Derived.Test.YthdkjfbmhbimlaaGreatDoorCA
import Derived.Test.YthdkjfbmhbimlaaGreatDoorCB
set_option linter.unusedVariables false
set_option linter.unusedSimpArgs false
set_option linter.unusedSectionVars false
set_option maxRecDepth 100000
namespace Go.Proofs.YthdkjfbmhbimlaaGreatDoor.order
open Go.ChangeShapes Go.WideShapes Go.ChangeAt Go.ChangeMaps Go.RowKit Go.Ev Go.Lib
theorem own:ownKnob Tryz.prog.godebug=none:=by kernel_rfl
theorem lifted (os:Os) (started:os.Started) (H:Type) (enc:TypeId×Value→H) (F:Stop.Interp) :
 ReturnsInHanded {} Tryz.checked os 4 .any ((Rows.OpenSpec.upto Rows.verdictOrderIsOneSpec).preRow enc Tryz.prog Tryz.f4 Rows.verdictOrderIsOneUptoRow.domain false Rows.verdictOrderIsOneUptoRow.laid) (((Rows.OpenSpec.upto Rows.verdictOrderIsOneSpec).at F).post enc Tryz.prog Tryz.f4 false true false false):=by
 obtain ⟨places,hx⟩:=reads os enc
 refine returnsInHanded_of_row (C:=Tryz.checked) (s:=Rows.OpenSpec.upto Rows.verdictOrderIsOneSpec) own started (by kernel_rfl) Tryz.func4
  (ub4m_ (enc:=enc) (C:=Tryz.checked) (World.laidAll Tryz.prog os Rows.verdictOrderIsOneUptoRow.laid) #[.slice none 0 0] (World.laidAll_os _ _ _) (ucfe_ os) (by kernel_rfl)
   (OpenSpec.preRow_of_cond 8 hx (by kernel_rfl) (fun k hk=>by cases hk; kernel_rfl) (by kernel_rfl) (by rw [MakeChecks.laidMetH_plain _ _ _ (by kernel_rfl)]; exact ucck_ os))) ?_
 intro W base args ds gs before hval hW _ hcond _ hL hsh _
 exact uccj_ H enc W base args ds gs before hval hW (hcond _ rfl) hL hsh
end Go.Proofs.YthdkjfbmhbimlaaGreatDoor.order
