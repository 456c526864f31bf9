/-
  THE ROW's CLOSED FACTS, one by one.
-/
import Derived.Test.YtlljgbmoloklgaaGreatDoorBF
set_option linter.unusedVariables false
set_option linter.unusedSimpArgs false
set_option linter.unusedSectionVars false
set_option maxRecDepth 100000
namespace Go.Proofs.YtlljgbmoloklgaaGreatDoor.best
open Go.ChangeShapes Go.WideShapes Go.ChangeAt Go.ChangeMaps Go.RowKit Go.Ev Go.Lib _root_.Go.Proofs.Tryz
theorem ASM:(Rows.planBestIsLeastUptoRow.wf (OpenSpec.ofChange (Rows.OpenSpec.upto Rows.planBestIsLeastSpec).bare))=true:=by kernel_rfl
theorem ASN:(laidOutB prog)=true:=by kernel_rfl
theorem ASO:(mapsRowed prog)=true:=by kernel_rfl
theorem ASP:(Tryz.f5.params.all (prog.readableRec ·))=true:=by kernel_rfl
theorem ASQ:(namedTie prog Rows.planBestIsLeastUptoRow.named (Rows.OpenSpec.upto Rows.planBestIsLeastSpec).bare.vars)=true:=by kernel_rfl
theorem ASR:((Rows.planBestIsLeastUptoRow.stops== []))=true:=by kernel_rfl
theorem ASS:((prog.stops== []))=true:=by kernel_rfl
theorem AST:((Rows.planBestIsLeastUptoRow.knobs== []))=true:=by kernel_rfl
theorem ASU:((prog.stopKnobs== []))=true:=by kernel_rfl
theorem ASV:((Rows.planBestIsLeastUptoRow.inPlace==prog.inPlace 5))=true:=by kernel_rfl
theorem ASW:((Rows.planBestIsLeastUptoRow.unfollowed==prog.unfollowed 5))=true:=by kernel_rfl
theorem ASX:((Rows.planBestIsLeastUptoRow.recurses==prog.recurses 5))=true:=by kernel_rfl
theorem ASY:((Rows.planBestIsLeastUptoRow.named==prog.varsNamed 5))=true:=by kernel_rfl
theorem ASZ:((Rows.planBestIsLeastUptoRow.maps==(Tryz.f5.params.toList++(Rows.OpenSpec.upto Rows.planBestIsLeastSpec).bare.plain.varTypes prog).any (prog.mapsRec ·)))=true:=by kernel_rfl
theorem AS_:((Rows.planBestIsLeastUptoRow.ifaces==(Tryz.f5.params.toList++(Rows.OpenSpec.upto Rows.planBestIsLeastSpec).bare.plain.varTypes prog).any (prog.ifacesRec ·)))=true:=by kernel_rfl
theorem ASa:((Rows.planBestIsLeastUptoRow.mapsOut==prog.mapsAmong Tryz.f5.resultTypes.toList))=true:=by kernel_rfl
theorem ASb:((Rows.planBestIsLeastUptoRow.loops==(Tryz.f5.params.toList++(Rows.OpenSpec.upto Rows.planBestIsLeastSpec).bare.plain.varTypes prog).any (prog.loopsFrom ·)))=true:=by kernel_rfl
theorem ASc:((Rows.planBestIsLeastUptoRow.wideKeys==(Tryz.f5.params.toList++(Rows.OpenSpec.upto Rows.planBestIsLeastSpec).bare.plain.varTypes prog++Tryz.f5.resultTypes.toList).any (prog.wideKeysFrom ·)))=true:=by kernel_rfl
theorem ASd:((Rows.OpenSpec.upto Rows.planBestIsLeastSpec).bare.vars.all (prog.varReadable ·))=true:=by kernel_rfl
theorem ASe:(Tryz.f5.resultTypes.all (fun t=>prog.readableRec t&&decide (t<prog.types.size)))=true:=by kernel_rfl
theorem ASf:((Rows.planBestIsLeastUptoRow.ifacesOut==Tryz.f5.resultTypes.toList.any (prog.ifacesRec ·)))=true:=by kernel_rfl
theorem ASg:((Rows.planBestIsLeastUptoRow.loopsOut==Tryz.f5.resultTypes.toList.any (prog.loopsFrom ·)))=true:=by kernel_rfl
theorem ASh:((Rows.planBestIsLeastUptoRow.plainKeys==prog.plainKeys))=true:=by kernel_rfl
theorem ASi:(Rows.planBestIsLeastUptoRow.shortTexts.isNone)=true:=by kernel_rfl
theorem ASj:(prog.stopsHeard)=true:=by kernel_rfl
theorem ASk:(prog.mayEnter)=true:=by kernel_rfl
theorem ASl:((Rows.planBestIsLeastUptoRow.lifted==prog.liftsFinal))=true:=by kernel_rfl
theorem ASm:((prog.make==some Rows.planBestIsLeastUptoRow.make))=true:=by kernel_rfl
theorem ASn:((Rows.planBestIsLeastUptoRow.kinds==(if Rows.planBestIsLeastUptoRow.domain.isEmpty then []else Tryz.f5.params.toList.map fun t=>match prog.underlying t with|some (.int k)=>some k|_=>none)))=true:=by kernel_rfl
theorem ASo:((Rows.planBestIsLeastUptoRow.pinned==Rows.planBestIsLeastUptoRow.pinnedBy))=true:=by kernel_rfl
theorem ASp:((Rows.planBestIsLeastUptoRow.veiled==(Tryz.f5.params.toList++(Rows.OpenSpec.upto Rows.planBestIsLeastSpec).bare.plain.varTypes prog++Tryz.f5.resultTypes.toList).any (prog.veiledRec ·)))=true:=by kernel_rfl
theorem ASq:(Rows.planBestIsLeastUptoRow.veiledFits prog Tryz.f5.params.toList (Tryz.f5.params.toList++(Rows.OpenSpec.upto Rows.planBestIsLeastSpec).bare.plain.varTypes prog++Tryz.f5.resultTypes.toList))=true:=by kernel_rfl
theorem an{a b:Bool}(h:a=true)(k:b=true):(a&&b)=true:=by rw[h,k];rfl
theorem ASr:joinedFacts prog 5 Tryz.f5 (Rows.OpenSpec.upto Rows.planBestIsLeastSpec).bare Rows.planBestIsLeastUptoRow=true:=an (an (an (an (an (an (an (an (an (an (an (an (an (an (an (an (an (an (an (an (an (an (an (an (an (an (an (an (an (an (an (ASM) ASN) ASO) ASP) ASQ) ASR) ASS) AST) ASU) ASV) ASW) ASX) ASY) ASZ) AS_) ASa) ASb) ASc) ASd) ASe) ASf) ASg) ASh) ASi) ASj) ASk) ASl) ASm) ASn) ASo) ASp) ASq
theorem named:prog.funcNamed Rows.planBestIsLeastUptoRow.func=some 5:=by kernel_rfl
theorem ASs:Tryz.f5.isInstance prog Rows.planBestIsLeastUptoRow.origin Rows.planBestIsLeastUptoRow.targs:=of_decide_eq_true (by kernel_rfl)
theorem ASt:Tryz.f5.isWrapper prog Rows.planBestIsLeastUptoRow.wrapper Rows.planBestIsLeastUptoRow.mainSum:=by unfold Func.isWrapper;first|(rw[if_pos (by decide +kernel)];kernel_rfl)|(rw[if_neg (by decide +kernel)];exact⟨rfl,rfl⟩)
end Go.Proofs.YtlljgbmoloklgaaGreatDoor.best
