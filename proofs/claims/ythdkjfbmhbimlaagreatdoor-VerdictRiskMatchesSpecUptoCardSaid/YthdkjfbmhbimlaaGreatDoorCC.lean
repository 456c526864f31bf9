/-
  THE ROW's STEP.
-/
import Derived.Test.YthdkjfbmhbimlaaGreatDoorCA
import Derived.Test.YthdkjfbmhbimlaaGreatDoorCB
set_option linter.unusedVariables false
set_option linter.unusedSimpArgs false
set_option linter.unusedSectionVars false
set_option maxRecDepth 100000
namespace Go.Proofs.YthdkjfbmhbimlaaGreatDoor.risk
open Go.ChangeShapes Go.WideShapes Go.ChangeAt Go.ChangeMaps Go.RowKit Go.Ev Go.Lib
theorem own:ownKnob Tryz.prog.godebug=none:=by kernel_rfl
theorem lifted (os:Os) (started:os.Started) (H:Type) (enc:TypeId×Value→H) (F:Stop.Interp) :
 ReturnsInHanded {} Tryz.checked os 3 .any ((Rows.OpenSpec.upto Rows.verdictRiskMatchesSpecSpec).preRow enc Tryz.prog Tryz.f3 Rows.verdictRiskMatchesSpecUptoRow.domain false Rows.verdictRiskMatchesSpecUptoRow.laid) (((Rows.OpenSpec.upto Rows.verdictRiskMatchesSpecSpec).at F).post enc Tryz.prog Tryz.f3 false true false false):=by
 obtain ⟨places,hx⟩:=reads os enc
 refine returnsInHanded_of_row (C:=Tryz.checked) (s:=Rows.OpenSpec.upto Rows.verdictRiskMatchesSpecSpec) own started (by kernel_rfl) Tryz.func3
  (ucki_ (enc:=enc) (C:=Tryz.checked) (World.laidAll Tryz.prog os Rows.verdictRiskMatchesSpecUptoRow.laid) #[.slice none 0 0,.agg #[.string ⟨#[]⟩,.string ⟨#[]⟩,.int .i64 0,.int .i64 0,.int .i64 0,.slice none 0 0,.string ⟨#[]⟩,.slice none 0 0,.int .i64 0]] (World.laidAll_os _ _ _) (ucvw_ os) (by kernel_rfl)
   (OpenSpec.preRow_of_cond 8 hx (by kernel_rfl) (fun k hk=>by cases hk; kernel_rfl) (by kernel_rfl) (by rw [MakeChecks.laidMetH_plain _ _ _ (by kernel_rfl)]; exact ucs7_ os))) ?_
 intro W base args ds gs before hval hW _ hcond _ hL hsh _
 exact ucs6_ H enc W base args ds gs before hval hW (hcond _ rfl) hL hsh
end Go.Proofs.YthdkjfbmhbimlaaGreatDoor.risk
