/-
  THE ROW's CLOSED FACTS, one by one.
-/
import Derived.Test.YthepbdhoogphdaaGreatDoorF
set_option linter.unusedVariables false
set_option linter.unusedSimpArgs false
set_option linter.unusedSectionVars false
set_option maxRecDepth 100000
namespace Go.Proofs.YthepbdhoogphdaaGreatDoor.merged
open Go.ChangeShapes Go.WideShapes Go.ChangeAt Go.ChangeMaps Go.RowKit Go.Ev Go.Lib
theorem fact1:(Rows.advisoryMergedIsOnceUptoRow.wf (OpenSpec.ofChange (Rows.OpenSpec.upto Rows.advisoryMergedIsOnceSpec).bare))=true:=by kernel_rfl
theorem fact2:(laidOutB Tryz.prog)=true:=by kernel_rfl
theorem fact3:(mapsRowed Tryz.prog)=true:=by kernel_rfl
theorem fact4:(Tryz.f3.params.all (Tryz.prog.readableRec ·))=true:=by kernel_rfl
theorem fact5:(namedTie Tryz.prog Rows.advisoryMergedIsOnceUptoRow.named (Rows.OpenSpec.upto Rows.advisoryMergedIsOnceSpec).bare.vars)=true:=by kernel_rfl
theorem fact6:((Rows.advisoryMergedIsOnceUptoRow.stops == []))=true:=by kernel_rfl
theorem fact7:((Tryz.prog.stops == []))=true:=by kernel_rfl
theorem fact8:((Rows.advisoryMergedIsOnceUptoRow.knobs == []))=true:=by kernel_rfl
theorem fact9:((Tryz.prog.stopKnobs == []))=true:=by kernel_rfl
theorem ucla_:((Rows.advisoryMergedIsOnceUptoRow.inPlace == Tryz.prog.inPlace 3))=true:=by kernel_rfl
theorem uclb_:((Rows.advisoryMergedIsOnceUptoRow.unfollowed == Tryz.prog.unfollowed 3))=true:=by kernel_rfl
theorem uclc_:((Rows.advisoryMergedIsOnceUptoRow.recurses == Tryz.prog.recurses 3))=true:=by kernel_rfl
theorem ucld_:((Rows.advisoryMergedIsOnceUptoRow.named == Tryz.prog.varsNamed 3))=true:=by kernel_rfl
theorem ucle_:((Rows.advisoryMergedIsOnceUptoRow.maps == (Tryz.f3.params.toList++(Rows.OpenSpec.upto Rows.advisoryMergedIsOnceSpec).bare.plain.varTypes Tryz.prog).any (Tryz.prog.mapsRec ·)))=true:=by kernel_rfl
theorem uclf_:((Rows.advisoryMergedIsOnceUptoRow.ifaces == (Tryz.f3.params.toList++(Rows.OpenSpec.upto Rows.advisoryMergedIsOnceSpec).bare.plain.varTypes Tryz.prog).any (Tryz.prog.ifacesRec ·)))=true:=by kernel_rfl
theorem uclg_:((Rows.advisoryMergedIsOnceUptoRow.mapsOut == Tryz.prog.mapsAmong Tryz.f3.resultTypes.toList))=true:=by kernel_rfl
theorem uclh_:((Rows.advisoryMergedIsOnceUptoRow.loops == (Tryz.f3.params.toList++(Rows.OpenSpec.upto Rows.advisoryMergedIsOnceSpec).bare.plain.varTypes Tryz.prog).any (Tryz.prog.loopsFrom ·)))=true:=by kernel_rfl
theorem ucli_:((Rows.advisoryMergedIsOnceUptoRow.wideKeys == (Tryz.f3.params.toList++(Rows.OpenSpec.upto Rows.advisoryMergedIsOnceSpec).bare.plain.varTypes Tryz.prog++Tryz.f3.resultTypes.toList).any (Tryz.prog.wideKeysFrom ·)))=true:=by kernel_rfl
theorem uclj_:((Rows.OpenSpec.upto Rows.advisoryMergedIsOnceSpec).bare.vars.all (Tryz.prog.varReadable ·))=true:=by kernel_rfl
theorem uclk_:(Tryz.f3.resultTypes.all (fun t=>Tryz.prog.readableRec t&&decide (t<Tryz.prog.types.size)))=true:=by kernel_rfl
theorem ucll_:((Rows.advisoryMergedIsOnceUptoRow.ifacesOut == Tryz.f3.resultTypes.toList.any (Tryz.prog.ifacesRec ·)))=true:=by kernel_rfl
theorem uclm_:((Rows.advisoryMergedIsOnceUptoRow.loopsOut == Tryz.f3.resultTypes.toList.any (Tryz.prog.loopsFrom ·)))=true:=by kernel_rfl
theorem ucln_:((Rows.advisoryMergedIsOnceUptoRow.plainKeys == Tryz.prog.plainKeys))=true:=by kernel_rfl
theorem uclo_:(Rows.advisoryMergedIsOnceUptoRow.shortTexts.isNone)=true:=by kernel_rfl
theorem uclp_:(Tryz.prog.stopsHeard)=true:=by kernel_rfl
theorem uclq_:(Tryz.prog.mayEnter)=true:=by kernel_rfl
theorem uclr_:((Rows.advisoryMergedIsOnceUptoRow.lifted == Tryz.prog.liftsFinal))=true:=by kernel_rfl
theorem ucls_:((Tryz.prog.make == some Rows.advisoryMergedIsOnceUptoRow.make))=true:=by kernel_rfl
theorem uclt_:((Rows.advisoryMergedIsOnceUptoRow.kinds == (if Rows.advisoryMergedIsOnceUptoRow.domain.isEmpty then [] else Tryz.f3.params.toList.map fun t=>match Tryz.prog.underlying t with | some (.int k)=>some k | _=>none)))=true:=by kernel_rfl
theorem uclu_:((Rows.advisoryMergedIsOnceUptoRow.pinned == Rows.advisoryMergedIsOnceUptoRow.pinnedBy))=true:=by kernel_rfl
theorem uclv_:((Rows.advisoryMergedIsOnceUptoRow.veiled == (Tryz.f3.params.toList++(Rows.OpenSpec.upto Rows.advisoryMergedIsOnceSpec).bare.plain.varTypes Tryz.prog++Tryz.f3.resultTypes.toList).any (Tryz.prog.veiledRec ·)))=true:=by kernel_rfl
theorem uclw_:(Rows.advisoryMergedIsOnceUptoRow.veiledFits Tryz.prog Tryz.f3.params.toList (Tryz.f3.params.toList++(Rows.OpenSpec.upto Rows.advisoryMergedIsOnceSpec).bare.plain.varTypes Tryz.prog++Tryz.f3.resultTypes.toList))=true:=by kernel_rfl
theorem an {a b:Bool} (h:a=true) (k:b=true):(a&&b)=true:=by rw [h,k]; rfl
theorem uclx_:joinedFacts Tryz.prog 3 Tryz.f3 (Rows.OpenSpec.upto Rows.advisoryMergedIsOnceSpec).bare Rows.advisoryMergedIsOnceUptoRow=true:=an (an (an (an (an (an (an (an (an (an (an (an (an (an (an (an (an (an (an (an (an (an (an (an (an (an (an (an (an (an (an (fact1) fact2) fact3) fact4) fact5) fact6) fact7) fact8) fact9) ucla_) uclb_) uclc_) ucld_) ucle_) uclf_) uclg_) uclh_) ucli_) uclj_) uclk_) ucll_) uclm_) ucln_) uclo_) uclp_) uclq_) uclr_) ucls_) uclt_) uclu_) uclv_) uclw_
theorem named:Tryz.prog.funcNamed Rows.advisoryMergedIsOnceUptoRow.func=some 3:=by kernel_rfl
theorem ucf8_:Tryz.f3.isInstance Tryz.prog Rows.advisoryMergedIsOnceUptoRow.origin Rows.advisoryMergedIsOnceUptoRow.targs:=of_decide_eq_true (by kernel_rfl)
theorem ucis_:Tryz.f3.isWrapper Tryz.prog Rows.advisoryMergedIsOnceUptoRow.wrapper Rows.advisoryMergedIsOnceUptoRow.mainSum:=by unfold Func.isWrapper; first | (rw [if_pos (by decide +kernel)]; kernel_rfl) | (rw [if_neg (by decide +kernel)]; exact ⟨rfl,rfl⟩)
end Go.Proofs.YthepbdhoogphdaaGreatDoor.merged
