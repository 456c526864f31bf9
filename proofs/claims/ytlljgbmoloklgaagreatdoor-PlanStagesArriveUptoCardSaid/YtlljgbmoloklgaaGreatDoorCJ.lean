/-
  THE ROW's CLOSED FACTS, one by one.
-/
import Derived.Test.YtlljgbmoloklgaaGreatDoorF
set_option linter.unusedVariables false
set_option linter.unusedSimpArgs false
set_option linter.unusedSectionVars false
set_option maxRecDepth 100000
namespace Go.Proofs.YtlljgbmoloklgaaGreatDoor.stages
open Go.ChangeShapes Go.WideShapes Go.ChangeAt Go.ChangeMaps Go.RowKit Go.Ev Go.Lib
theorem ASk:(Rows.planStagesArriveUptoRow.wf (OpenSpec.ofChange (Rows.OpenSpec.upto Rows.planStagesArriveSpec).bare))=true:=oa
theorem ASl:(laidOutB Tryz.prog)=true:=oa
theorem ASm:(mapsRowed Tryz.prog)=true:=oa
theorem ASn:(Tryz.f6.params.all (Tryz.prog.readableRec ·))=true:=oa
theorem ASo:(namedTie Tryz.prog Rows.planStagesArriveUptoRow.named (Rows.OpenSpec.upto Rows.planStagesArriveSpec).bare.vars)=true:=oa
theorem ASp:((Rows.planStagesArriveUptoRow.stops== []))=true:=oa
theorem ASq:((Tryz.prog.stops== []))=true:=oa
theorem ASr:((Rows.planStagesArriveUptoRow.knobs== []))=true:=oa
theorem ASs:((Tryz.prog.stopKnobs== []))=true:=oa
theorem ASt:((Rows.planStagesArriveUptoRow.inPlace==Tryz.prog.inPlace 6))=true:=oa
theorem ASu:((Rows.planStagesArriveUptoRow.unfollowed==Tryz.prog.unfollowed 6))=true:=oa
theorem ASv:((Rows.planStagesArriveUptoRow.recurses==Tryz.prog.recurses 6))=true:=oa
theorem ASw:((Rows.planStagesArriveUptoRow.named==Tryz.prog.varsNamed 6))=true:=oa
theorem ASx:((Rows.planStagesArriveUptoRow.maps==(Tryz.f6.params.toList++(Rows.OpenSpec.upto Rows.planStagesArriveSpec).bare.plain.varTypes Tryz.prog).any (Tryz.prog.mapsRec ·)))=true:=oa
theorem ASy:((Rows.planStagesArriveUptoRow.ifaces==(Tryz.f6.params.toList++(Rows.OpenSpec.upto Rows.planStagesArriveSpec).bare.plain.varTypes Tryz.prog).any (Tryz.prog.ifacesRec ·)))=true:=oa
theorem ASz:((Rows.planStagesArriveUptoRow.mapsOut==Tryz.prog.mapsAmong Tryz.f6.resultTypes.toList))=true:=oa
theorem AT0:((Rows.planStagesArriveUptoRow.loops==(Tryz.f6.params.toList++(Rows.OpenSpec.upto Rows.planStagesArriveSpec).bare.plain.varTypes Tryz.prog).any (Tryz.prog.loopsFrom ·)))=true:=oa
theorem AT1:((Rows.planStagesArriveUptoRow.wideKeys==(Tryz.f6.params.toList++(Rows.OpenSpec.upto Rows.planStagesArriveSpec).bare.plain.varTypes Tryz.prog++Tryz.f6.resultTypes.toList).any (Tryz.prog.wideKeysFrom ·)))=true:=oa
theorem AT2:((Rows.OpenSpec.upto Rows.planStagesArriveSpec).bare.vars.all (Tryz.prog.varReadable ·))=true:=oa
theorem AT3:(Tryz.f6.resultTypes.all (λt=>Tryz.prog.readableRec t&&decide (t<Tryz.prog.types.size)))=true:=oa
theorem AT4:((Rows.planStagesArriveUptoRow.ifacesOut==Tryz.f6.resultTypes.toList.any (Tryz.prog.ifacesRec ·)))=true:=oa
theorem AT5:((Rows.planStagesArriveUptoRow.loopsOut==Tryz.f6.resultTypes.toList.any (Tryz.prog.loopsFrom ·)))=true:=oa
theorem AT6:((Rows.planStagesArriveUptoRow.plainKeys==Tryz.prog.plainKeys))=true:=oa
theorem AT7:(Rows.planStagesArriveUptoRow.shortTexts.isNone)=true:=oa
theorem AT8:(Tryz.prog.stopsHeard)=true:=oa
theorem AT9:(Tryz.prog.mayEnter)=true:=oa
theorem ATA:((Rows.planStagesArriveUptoRow.lifted==Tryz.prog.liftsFinal))=true:=oa
theorem ATB:((Tryz.prog.make==some Rows.planStagesArriveUptoRow.make))=true:=oa
theorem ATC:((Rows.planStagesArriveUptoRow.kinds==(if Rows.planStagesArriveUptoRow.domain.isEmpty then []else Tryz.f6.params.toList.map λt=>match Tryz.prog.underlying t with|some (.int k)=>some k|_=>none)))=true:=oa
theorem ATD:((Rows.planStagesArriveUptoRow.pinned==Rows.planStagesArriveUptoRow.pinnedBy))=true:=oa
theorem ATE:((Rows.planStagesArriveUptoRow.veiled==(Tryz.f6.params.toList++(Rows.OpenSpec.upto Rows.planStagesArriveSpec).bare.plain.varTypes Tryz.prog++Tryz.f6.resultTypes.toList).any (Tryz.prog.veiledRec ·)))=true:=oa
theorem ATF:(Rows.planStagesArriveUptoRow.veiledFits Tryz.prog Tryz.f6.params.toList (Tryz.f6.params.toList++(Rows.OpenSpec.upto Rows.planStagesArriveSpec).bare.plain.varTypes Tryz.prog++Tryz.f6.resultTypes.toList))=true:=oa
theorem an{a b:Bool}(h:a=true)(k:b=true):(a&&b)=true:=by rw[h,k];rfl
theorem ATG:joinedFacts Tryz.prog 6 Tryz.f6 (Rows.OpenSpec.upto Rows.planStagesArriveSpec).bare Rows.planStagesArriveUptoRow=true:=an (an (an (an (an (an (an (an (an (an (an (an (an (an (an (an (an (an (an (an (an (an (an (an (an (an (an (an (an (an (an (ASk) ASl) ASm) ASn) ASo) ASp) ASq) ASr) ASs) ASt) ASu) ASv) ASw) ASx) ASy) ASz) AT0) AT1) AT2) AT3) AT4) AT5) AT6) AT7) AT8) AT9) ATA) ATB) ATC) ATD) ATE) ATF
theorem named:Tryz.prog.funcNamed Rows.planStagesArriveUptoRow.func=some 6:=oa
theorem ATH:Tryz.f6.isInstance Tryz.prog Rows.planStagesArriveUptoRow.origin Rows.planStagesArriveUptoRow.targs:=of_decide_eq_true oa
theorem ATI:Tryz.f6.isWrapper Tryz.prog Rows.planStagesArriveUptoRow.wrapper Rows.planStagesArriveUptoRow.mainSum:=by unfold Func.isWrapper;first|(rw[if_pos (by decide +kernel)];kernel_rfl)|(rw[if_neg (by decide +kernel)];exact⟨rfl,rfl⟩)
end Go.Proofs.YtlljgbmoloklgaaGreatDoor.stages
