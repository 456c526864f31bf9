/-
  THE ROW's CLOSED FACTS, one by one.
-/
import Derived.Test.YtlljgbmoloklgaaGreatDoorF
set_option linter.unusedVariables false
set_option linter.unusedSimpArgs false
set_option linter.unusedSectionVars false
set_option maxRecDepth 100000
namespace Go.Proofs.YtlljgbmoloklgaaGreatDoor.solve
open Go.ChangeShapes Go.WideShapes Go.ChangeAt Go.ChangeMaps Go.RowKit Go.Ev Go.Lib
theorem APN:(Rows.planAllSolveUptoRow.wf (OpenSpec.ofChange (Rows.OpenSpec.upto Rows.planAllSolveSpec).bare))=true:=by kernel_rfl
theorem APO:(laidOutB Tryz.prog)=true:=by kernel_rfl
theorem APP:(mapsRowed Tryz.prog)=true:=by kernel_rfl
theorem APQ:(Tryz.f4.params.all (Tryz.prog.readableRec ·))=true:=by kernel_rfl
theorem APR:(namedTie Tryz.prog Rows.planAllSolveUptoRow.named (Rows.OpenSpec.upto Rows.planAllSolveSpec).bare.vars)=true:=by kernel_rfl
theorem APS:((Rows.planAllSolveUptoRow.stops== []))=true:=by kernel_rfl
theorem APT:((Tryz.prog.stops== []))=true:=by kernel_rfl
theorem APU:((Rows.planAllSolveUptoRow.knobs== []))=true:=by kernel_rfl
theorem APV:((Tryz.prog.stopKnobs== []))=true:=by kernel_rfl
theorem APW:((Rows.planAllSolveUptoRow.inPlace==Tryz.prog.inPlace 4))=true:=by kernel_rfl
theorem APX:((Rows.planAllSolveUptoRow.unfollowed==Tryz.prog.unfollowed 4))=true:=by kernel_rfl
theorem APY:((Rows.planAllSolveUptoRow.recurses==Tryz.prog.recurses 4))=true:=by kernel_rfl
theorem APZ:((Rows.planAllSolveUptoRow.named==Tryz.prog.varsNamed 4))=true:=by kernel_rfl
theorem AP_:((Rows.planAllSolveUptoRow.maps==(Tryz.f4.params.toList++(Rows.OpenSpec.upto Rows.planAllSolveSpec).bare.plain.varTypes Tryz.prog).any (Tryz.prog.mapsRec ·)))=true:=by kernel_rfl
theorem APa:((Rows.planAllSolveUptoRow.ifaces==(Tryz.f4.params.toList++(Rows.OpenSpec.upto Rows.planAllSolveSpec).bare.plain.varTypes Tryz.prog).any (Tryz.prog.ifacesRec ·)))=true:=by kernel_rfl
theorem APb:((Rows.planAllSolveUptoRow.mapsOut==Tryz.prog.mapsAmong Tryz.f4.resultTypes.toList))=true:=by kernel_rfl
theorem APc:((Rows.planAllSolveUptoRow.loops==(Tryz.f4.params.toList++(Rows.OpenSpec.upto Rows.planAllSolveSpec).bare.plain.varTypes Tryz.prog).any (Tryz.prog.loopsFrom ·)))=true:=by kernel_rfl
theorem APd:((Rows.planAllSolveUptoRow.wideKeys==(Tryz.f4.params.toList++(Rows.OpenSpec.upto Rows.planAllSolveSpec).bare.plain.varTypes Tryz.prog++Tryz.f4.resultTypes.toList).any (Tryz.prog.wideKeysFrom ·)))=true:=by kernel_rfl
theorem APe:((Rows.OpenSpec.upto Rows.planAllSolveSpec).bare.vars.all (Tryz.prog.varReadable ·))=true:=by kernel_rfl
theorem APf:(Tryz.f4.resultTypes.all (fun t=>Tryz.prog.readableRec t&&decide (t<Tryz.prog.types.size)))=true:=by kernel_rfl
theorem APg:((Rows.planAllSolveUptoRow.ifacesOut==Tryz.f4.resultTypes.toList.any (Tryz.prog.ifacesRec ·)))=true:=by kernel_rfl
theorem APh:((Rows.planAllSolveUptoRow.loopsOut==Tryz.f4.resultTypes.toList.any (Tryz.prog.loopsFrom ·)))=true:=by kernel_rfl
theorem APi:((Rows.planAllSolveUptoRow.plainKeys==Tryz.prog.plainKeys))=true:=by kernel_rfl
theorem APj:(Rows.planAllSolveUptoRow.shortTexts.isNone)=true:=by kernel_rfl
theorem APk:(Tryz.prog.stopsHeard)=true:=by kernel_rfl
theorem APl:(Tryz.prog.mayEnter)=true:=by kernel_rfl
theorem APm:((Rows.planAllSolveUptoRow.lifted==Tryz.prog.liftsFinal))=true:=by kernel_rfl
theorem APn:((Tryz.prog.make==some Rows.planAllSolveUptoRow.make))=true:=by kernel_rfl
theorem APo:((Rows.planAllSolveUptoRow.kinds==(if Rows.planAllSolveUptoRow.domain.isEmpty then []else Tryz.f4.params.toList.map fun t=>match Tryz.prog.underlying t with|some (.int k)=>some k|_=>none)))=true:=by kernel_rfl
theorem APp:((Rows.planAllSolveUptoRow.pinned==Rows.planAllSolveUptoRow.pinnedBy))=true:=by kernel_rfl
theorem APq:((Rows.planAllSolveUptoRow.veiled==(Tryz.f4.params.toList++(Rows.OpenSpec.upto Rows.planAllSolveSpec).bare.plain.varTypes Tryz.prog++Tryz.f4.resultTypes.toList).any (Tryz.prog.veiledRec ·)))=true:=by kernel_rfl
theorem APr:(Rows.planAllSolveUptoRow.veiledFits Tryz.prog Tryz.f4.params.toList (Tryz.f4.params.toList++(Rows.OpenSpec.upto Rows.planAllSolveSpec).bare.plain.varTypes Tryz.prog++Tryz.f4.resultTypes.toList))=true:=by kernel_rfl
theorem an{a b:Bool}(h:a=true)(k:b=true):(a&&b)=true:=by rw[h,k];rfl
theorem APs:joinedFacts Tryz.prog 4 Tryz.f4 (Rows.OpenSpec.upto Rows.planAllSolveSpec).bare Rows.planAllSolveUptoRow=true:=an (an (an (an (an (an (an (an (an (an (an (an (an (an (an (an (an (an (an (an (an (an (an (an (an (an (an (an (an (an (an (APN) APO) APP) APQ) APR) APS) APT) APU) APV) APW) APX) APY) APZ) AP_) APa) APb) APc) APd) APe) APf) APg) APh) APi) APj) APk) APl) APm) APn) APo) APp) APq) APr
theorem named:Tryz.prog.funcNamed Rows.planAllSolveUptoRow.func=some 4:=by kernel_rfl
theorem APt:Tryz.f4.isInstance Tryz.prog Rows.planAllSolveUptoRow.origin Rows.planAllSolveUptoRow.targs:=of_decide_eq_true (by kernel_rfl)
theorem APu:Tryz.f4.isWrapper Tryz.prog Rows.planAllSolveUptoRow.wrapper Rows.planAllSolveUptoRow.mainSum:=by unfold Func.isWrapper;first|(rw[if_pos (by decide +kernel)];kernel_rfl)|(rw[if_neg (by decide +kernel)];exact⟨rfl,rfl⟩)
end Go.Proofs.YtlljgbmoloklgaaGreatDoor.solve
