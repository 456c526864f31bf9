/-
  THE ROW's CLOSED FACTS, one by one.
-/
import Derived.Test.YthdkjfbmhbimlaaGreatDoorF
set_option linter.unusedVariables false
set_option linter.unusedSimpArgs false
set_option linter.unusedSectionVars false
set_option maxRecDepth 100000
namespace Go.Proofs.YthdkjfbmhbimlaaGreatDoor.order
open Go.ChangeShapes Go.WideShapes Go.ChangeAt Go.ChangeMaps Go.RowKit Go.Ev Go.Lib
theorem fact1:(Rows.verdictOrderIsOneUptoRow.wf (OpenSpec.ofChange (Rows.OpenSpec.upto Rows.verdictOrderIsOneSpec).bare))=true:=by kernel_rfl
theorem fact2:(laidOutB Tryz.prog)=true:=by kernel_rfl
theorem fact3:(mapsRowed Tryz.prog)=true:=by kernel_rfl
theorem fact4:(Tryz.f4.params.all (Tryz.prog.readableRec ·))=true:=by kernel_rfl
theorem fact5:(namedTie Tryz.prog Rows.verdictOrderIsOneUptoRow.named (Rows.OpenSpec.upto Rows.verdictOrderIsOneSpec).bare.vars)=true:=by kernel_rfl
theorem fact6:((Rows.verdictOrderIsOneUptoRow.stops == []))=true:=by kernel_rfl
theorem fact7:((Tryz.prog.stops == []))=true:=by kernel_rfl
theorem fact8:((Rows.verdictOrderIsOneUptoRow.knobs == []))=true:=by kernel_rfl
theorem fact9:((Tryz.prog.stopKnobs == []))=true:=by kernel_rfl
theorem ucff_:((Rows.verdictOrderIsOneUptoRow.inPlace == Tryz.prog.inPlace 4))=true:=by kernel_rfl
theorem ucfg_:((Rows.verdictOrderIsOneUptoRow.unfollowed == Tryz.prog.unfollowed 4))=true:=by kernel_rfl
theorem ucfh_:((Rows.verdictOrderIsOneUptoRow.recurses == Tryz.prog.recurses 4))=true:=by kernel_rfl
theorem ucfi_:((Rows.verdictOrderIsOneUptoRow.named == Tryz.prog.varsNamed 4))=true:=by kernel_rfl
theorem ucfj_:((Rows.verdictOrderIsOneUptoRow.maps == (Tryz.f4.params.toList++(Rows.OpenSpec.upto Rows.verdictOrderIsOneSpec).bare.plain.varTypes Tryz.prog).any (Tryz.prog.mapsRec ·)))=true:=by kernel_rfl
theorem ucfk_:((Rows.verdictOrderIsOneUptoRow.ifaces == (Tryz.f4.params.toList++(Rows.OpenSpec.upto Rows.verdictOrderIsOneSpec).bare.plain.varTypes Tryz.prog).any (Tryz.prog.ifacesRec ·)))=true:=by kernel_rfl
theorem ucfl_:((Rows.verdictOrderIsOneUptoRow.mapsOut == Tryz.prog.mapsAmong Tryz.f4.resultTypes.toList))=true:=by kernel_rfl
theorem ucfm_:((Rows.verdictOrderIsOneUptoRow.loops == (Tryz.f4.params.toList++(Rows.OpenSpec.upto Rows.verdictOrderIsOneSpec).bare.plain.varTypes Tryz.prog).any (Tryz.prog.loopsFrom ·)))=true:=by kernel_rfl
theorem ucfn_:((Rows.verdictOrderIsOneUptoRow.wideKeys == (Tryz.f4.params.toList++(Rows.OpenSpec.upto Rows.verdictOrderIsOneSpec).bare.plain.varTypes Tryz.prog++Tryz.f4.resultTypes.toList).any (Tryz.prog.wideKeysFrom ·)))=true:=by kernel_rfl
theorem ucfo_:((Rows.OpenSpec.upto Rows.verdictOrderIsOneSpec).bare.vars.all (Tryz.prog.varReadable ·))=true:=by kernel_rfl
theorem ucfp_:(Tryz.f4.resultTypes.all (fun t=>Tryz.prog.readableRec t&&decide (t<Tryz.prog.types.size)))=true:=by kernel_rfl
theorem ucfq_:((Rows.verdictOrderIsOneUptoRow.ifacesOut == Tryz.f4.resultTypes.toList.any (Tryz.prog.ifacesRec ·)))=true:=by kernel_rfl
theorem ucfr_:((Rows.verdictOrderIsOneUptoRow.loopsOut == Tryz.f4.resultTypes.toList.any (Tryz.prog.loopsFrom ·)))=true:=by kernel_rfl
theorem ucfs_:((Rows.verdictOrderIsOneUptoRow.plainKeys == Tryz.prog.plainKeys))=true:=by kernel_rfl
theorem ucft_:(Rows.verdictOrderIsOneUptoRow.shortTexts.isNone)=true:=by kernel_rfl
theorem ucfu_:(Tryz.prog.stopsHeard)=true:=by kernel_rfl
theorem ucfv_:(Tryz.prog.mayEnter)=true:=by kernel_rfl
theorem ucfw_:((Rows.verdictOrderIsOneUptoRow.lifted == Tryz.prog.liftsFinal))=true:=by kernel_rfl
theorem ucfx_:((Tryz.prog.make == some Rows.verdictOrderIsOneUptoRow.make))=true:=by kernel_rfl
theorem ucfy_:((Rows.verdictOrderIsOneUptoRow.kinds == (if Rows.verdictOrderIsOneUptoRow.domain.isEmpty then [] else Tryz.f4.params.toList.map fun t=>match Tryz.prog.underlying t with | some (.int k)=>some k | _=>none)))=true:=by kernel_rfl
theorem ucfz_:((Rows.verdictOrderIsOneUptoRow.pinned == Rows.verdictOrderIsOneUptoRow.pinnedBy))=true:=by kernel_rfl
theorem ucf0_:((Rows.verdictOrderIsOneUptoRow.veiled == (Tryz.f4.params.toList++(Rows.OpenSpec.upto Rows.verdictOrderIsOneSpec).bare.plain.varTypes Tryz.prog++Tryz.f4.resultTypes.toList).any (Tryz.prog.veiledRec ·)))=true:=by kernel_rfl
theorem ucf1_:(Rows.verdictOrderIsOneUptoRow.veiledFits Tryz.prog Tryz.f4.params.toList (Tryz.f4.params.toList++(Rows.OpenSpec.upto Rows.verdictOrderIsOneSpec).bare.plain.varTypes Tryz.prog++Tryz.f4.resultTypes.toList))=true:=by kernel_rfl
theorem an {a b:Bool} (h:a=true) (k:b=true):(a&&b)=true:=by rw [h,k]; rfl
theorem ucf2_:joinedFacts Tryz.prog 4 Tryz.f4 (Rows.OpenSpec.upto Rows.verdictOrderIsOneSpec).bare Rows.verdictOrderIsOneUptoRow=true:=an (an (an (an (an (an (an (an (an (an (an (an (an (an (an (an (an (an (an (an (an (an (an (an (an (an (an (an (an (an (an (fact1) fact2) fact3) fact4) fact5) fact6) fact7) fact8) fact9) ucff_) ucfg_) ucfh_) ucfi_) ucfj_) ucfk_) ucfl_) ucfm_) ucfn_) ucfo_) ucfp_) ucfq_) ucfr_) ucfs_) ucft_) ucfu_) ucfv_) ucfw_) ucfx_) ucfy_) ucfz_) ucf0_) ucf1_
theorem named:Tryz.prog.funcNamed Rows.verdictOrderIsOneUptoRow.func=some 4:=by kernel_rfl
theorem ub9x_:Tryz.f4.isInstance Tryz.prog Rows.verdictOrderIsOneUptoRow.origin Rows.verdictOrderIsOneUptoRow.targs:=of_decide_eq_true (by kernel_rfl)
theorem uccl_:Tryz.f4.isWrapper Tryz.prog Rows.verdictOrderIsOneUptoRow.wrapper Rows.verdictOrderIsOneUptoRow.mainSum:=by unfold Func.isWrapper; first | (rw [if_pos (by decide +kernel)]; kernel_rfl) | (rw [if_neg (by decide +kernel)]; exact ⟨rfl,rfl⟩)
end Go.Proofs.YthdkjfbmhbimlaaGreatDoor.order
