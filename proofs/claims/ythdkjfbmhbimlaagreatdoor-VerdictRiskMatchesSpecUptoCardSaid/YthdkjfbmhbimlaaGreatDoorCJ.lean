/-
  THE ROW's CLOSED FACTS, one by one.
-/
import Derived.Test.YthdkjfbmhbimlaaGreatDoorF
set_option linter.unusedVariables false
set_option linter.unusedSimpArgs false
set_option linter.unusedSectionVars false
set_option maxRecDepth 100000
namespace Go.Proofs.YthdkjfbmhbimlaaGreatDoor.risk
open Go.ChangeShapes Go.WideShapes Go.ChangeAt Go.ChangeMaps Go.RowKit Go.Ev Go.Lib
theorem fact1:(Rows.verdictRiskMatchesSpecUptoRow.wf (OpenSpec.ofChange (Rows.OpenSpec.upto Rows.verdictRiskMatchesSpecSpec).bare))=true:=by kernel_rfl
theorem fact2:(laidOutB Tryz.prog)=true:=by kernel_rfl
theorem fact3:(mapsRowed Tryz.prog)=true:=by kernel_rfl
theorem fact4:(Tryz.f3.params.all (Tryz.prog.readableRec ·))=true:=by kernel_rfl
theorem fact5:(namedTie Tryz.prog Rows.verdictRiskMatchesSpecUptoRow.named (Rows.OpenSpec.upto Rows.verdictRiskMatchesSpecSpec).bare.vars)=true:=by kernel_rfl
theorem fact6:((Rows.verdictRiskMatchesSpecUptoRow.stops == []))=true:=by kernel_rfl
theorem fact7:((Tryz.prog.stops == []))=true:=by kernel_rfl
theorem fact8:((Rows.verdictRiskMatchesSpecUptoRow.knobs == []))=true:=by kernel_rfl
theorem fact9:((Tryz.prog.stopKnobs == []))=true:=by kernel_rfl
theorem ucvx_:((Rows.verdictRiskMatchesSpecUptoRow.inPlace == Tryz.prog.inPlace 3))=true:=by kernel_rfl
theorem ucvy_:((Rows.verdictRiskMatchesSpecUptoRow.unfollowed == Tryz.prog.unfollowed 3))=true:=by kernel_rfl
theorem ucvz_:((Rows.verdictRiskMatchesSpecUptoRow.recurses == Tryz.prog.recurses 3))=true:=by kernel_rfl
theorem ucv0_:((Rows.verdictRiskMatchesSpecUptoRow.named == Tryz.prog.varsNamed 3))=true:=by kernel_rfl
theorem ucv1_:((Rows.verdictRiskMatchesSpecUptoRow.maps == (Tryz.f3.params.toList++(Rows.OpenSpec.upto Rows.verdictRiskMatchesSpecSpec).bare.plain.varTypes Tryz.prog).any (Tryz.prog.mapsRec ·)))=true:=by kernel_rfl
theorem ucv2_:((Rows.verdictRiskMatchesSpecUptoRow.ifaces == (Tryz.f3.params.toList++(Rows.OpenSpec.upto Rows.verdictRiskMatchesSpecSpec).bare.plain.varTypes Tryz.prog).any (Tryz.prog.ifacesRec ·)))=true:=by kernel_rfl
theorem ucv3_:((Rows.verdictRiskMatchesSpecUptoRow.mapsOut == Tryz.prog.mapsAmong Tryz.f3.resultTypes.toList))=true:=by kernel_rfl
theorem ucv4_:((Rows.verdictRiskMatchesSpecUptoRow.loops == (Tryz.f3.params.toList++(Rows.OpenSpec.upto Rows.verdictRiskMatchesSpecSpec).bare.plain.varTypes Tryz.prog).any (Tryz.prog.loopsFrom ·)))=true:=by kernel_rfl
theorem ucv5_:((Rows.verdictRiskMatchesSpecUptoRow.wideKeys == (Tryz.f3.params.toList++(Rows.OpenSpec.upto Rows.verdictRiskMatchesSpecSpec).bare.plain.varTypes Tryz.prog++Tryz.f3.resultTypes.toList).any (Tryz.prog.wideKeysFrom ·)))=true:=by kernel_rfl
theorem ucv6_:((Rows.OpenSpec.upto Rows.verdictRiskMatchesSpecSpec).bare.vars.all (Tryz.prog.varReadable ·))=true:=by kernel_rfl
theorem ucv7_:(Tryz.f3.resultTypes.all (fun t=>Tryz.prog.readableRec t&&decide (t<Tryz.prog.types.size)))=true:=by kernel_rfl
theorem ucv8_:((Rows.verdictRiskMatchesSpecUptoRow.ifacesOut == Tryz.f3.resultTypes.toList.any (Tryz.prog.ifacesRec ·)))=true:=by kernel_rfl
theorem ucv9_:((Rows.verdictRiskMatchesSpecUptoRow.loopsOut == Tryz.f3.resultTypes.toList.any (Tryz.prog.loopsFrom ·)))=true:=by kernel_rfl
theorem ucwa_:((Rows.verdictRiskMatchesSpecUptoRow.plainKeys == Tryz.prog.plainKeys))=true:=by kernel_rfl
theorem ucwb_:(Rows.verdictRiskMatchesSpecUptoRow.shortTexts.isNone)=true:=by kernel_rfl
theorem ucwc_:(Tryz.prog.stopsHeard)=true:=by kernel_rfl
theorem ucwd_:(Tryz.prog.mayEnter)=true:=by kernel_rfl
theorem ucwe_:((Rows.verdictRiskMatchesSpecUptoRow.lifted == Tryz.prog.liftsFinal))=true:=by kernel_rfl
theorem ucwf_:((Tryz.prog.make == some Rows.verdictRiskMatchesSpecUptoRow.make))=true:=by kernel_rfl
theorem ucwg_:((Rows.verdictRiskMatchesSpecUptoRow.kinds == (if Rows.verdictRiskMatchesSpecUptoRow.domain.isEmpty then [] else Tryz.f3.params.toList.map fun t=>match Tryz.prog.underlying t with | some (.int k)=>some k | _=>none)))=true:=by kernel_rfl
theorem ucwh_:((Rows.verdictRiskMatchesSpecUptoRow.pinned == Rows.verdictRiskMatchesSpecUptoRow.pinnedBy))=true:=by kernel_rfl
theorem ucwi_:((Rows.verdictRiskMatchesSpecUptoRow.veiled == (Tryz.f3.params.toList++(Rows.OpenSpec.upto Rows.verdictRiskMatchesSpecSpec).bare.plain.varTypes Tryz.prog++Tryz.f3.resultTypes.toList).any (Tryz.prog.veiledRec ·)))=true:=by kernel_rfl
theorem ucwj_:(Rows.verdictRiskMatchesSpecUptoRow.veiledFits Tryz.prog Tryz.f3.params.toList (Tryz.f3.params.toList++(Rows.OpenSpec.upto Rows.verdictRiskMatchesSpecSpec).bare.plain.varTypes Tryz.prog++Tryz.f3.resultTypes.toList))=true:=by kernel_rfl
theorem an {a b:Bool} (h:a=true) (k:b=true):(a&&b)=true:=by rw [h,k]; rfl
theorem ucwk_:joinedFacts Tryz.prog 3 Tryz.f3 (Rows.OpenSpec.upto Rows.verdictRiskMatchesSpecSpec).bare Rows.verdictRiskMatchesSpecUptoRow=true:=an (an (an (an (an (an (an (an (an (an (an (an (an (an (an (an (an (an (an (an (an (an (an (an (an (an (an (an (an (an (an (fact1) fact2) fact3) fact4) fact5) fact6) fact7) fact8) fact9) ucvx_) ucvy_) ucvz_) ucv0_) ucv1_) ucv2_) ucv3_) ucv4_) ucv5_) ucv6_) ucv7_) ucv8_) ucv9_) ucwa_) ucwb_) ucwc_) ucwd_) ucwe_) ucwf_) ucwg_) ucwh_) ucwi_) ucwj_
theorem named:Tryz.prog.funcNamed Rows.verdictRiskMatchesSpecUptoRow.func=some 3:=by kernel_rfl
theorem ucqb_:Tryz.f3.isInstance Tryz.prog Rows.verdictRiskMatchesSpecUptoRow.origin Rows.verdictRiskMatchesSpecUptoRow.targs:=of_decide_eq_true (by kernel_rfl)
theorem ucs8_:Tryz.f3.isWrapper Tryz.prog Rows.verdictRiskMatchesSpecUptoRow.wrapper Rows.verdictRiskMatchesSpecUptoRow.mainSum:=by unfold Func.isWrapper; first | (rw [if_pos (by decide +kernel)]; kernel_rfl) | (rw [if_neg (by decide +kernel)]; exact ⟨rfl,rfl⟩)
end Go.Proofs.YthdkjfbmhbimlaaGreatDoor.risk
