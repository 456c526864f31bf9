/-
  THE ROW's CLOSED FACTS, one by one.
-/
import Derived.Test.YtlljgbmoloklgaaGreatDoorLF
set_option linter.unusedVariables false
set_option linter.unusedSimpArgs false
set_option linter.unusedSectionVars false
set_option maxRecDepth 100000
namespace Go.Proofs.YtlljgbmoloklgaaGreatDoor.least
open Go.ChangeShapes Go.WideShapes Go.ChangeAt Go.ChangeMaps Go.RowKit Go.Ev Go.Lib
theorem AOK:(Rows.planConflictsAreLeastUptoRow.wf (OpenSpec.ofChange (Rows.OpenSpec.upto Rows.planConflictsAreLeastSpec).bare))=true:=by kernel_rfl
theorem AOL:(laidOutB Tryz.prog)=true:=by kernel_rfl
theorem AOM:(mapsRowed Tryz.prog)=true:=by kernel_rfl
theorem AON:(Tryz.f3.params.all (Tryz.prog.readableRec ·))=true:=by kernel_rfl
theorem AOO:(namedTie Tryz.prog Rows.planConflictsAreLeastUptoRow.named (Rows.OpenSpec.upto Rows.planConflictsAreLeastSpec).bare.vars)=true:=by kernel_rfl
theorem AOP:((Rows.planConflictsAreLeastUptoRow.stops== []))=true:=by kernel_rfl
theorem AOQ:((Tryz.prog.stops== []))=true:=by kernel_rfl
theorem AOR:((Rows.planConflictsAreLeastUptoRow.knobs== []))=true:=by kernel_rfl
theorem AOS:((Tryz.prog.stopKnobs== []))=true:=by kernel_rfl
theorem AOT:((Rows.planConflictsAreLeastUptoRow.inPlace==Tryz.prog.inPlace 3))=true:=by kernel_rfl
theorem AOU:((Rows.planConflictsAreLeastUptoRow.unfollowed==Tryz.prog.unfollowed 3))=true:=by kernel_rfl
theorem AOV:((Rows.planConflictsAreLeastUptoRow.recurses==Tryz.prog.recurses 3))=true:=by kernel_rfl
theorem AOW:((Rows.planConflictsAreLeastUptoRow.named==Tryz.prog.varsNamed 3))=true:=by kernel_rfl
theorem AOX:((Rows.planConflictsAreLeastUptoRow.maps==(Tryz.f3.params.toList++(Rows.OpenSpec.upto Rows.planConflictsAreLeastSpec).bare.plain.varTypes Tryz.prog).any (Tryz.prog.mapsRec ·)))=true:=by kernel_rfl
theorem AOY:((Rows.planConflictsAreLeastUptoRow.ifaces==(Tryz.f3.params.toList++(Rows.OpenSpec.upto Rows.planConflictsAreLeastSpec).bare.plain.varTypes Tryz.prog).any (Tryz.prog.ifacesRec ·)))=true:=by kernel_rfl
theorem AOZ:((Rows.planConflictsAreLeastUptoRow.mapsOut==Tryz.prog.mapsAmong Tryz.f3.resultTypes.toList))=true:=by kernel_rfl
theorem AO_:((Rows.planConflictsAreLeastUptoRow.loops==(Tryz.f3.params.toList++(Rows.OpenSpec.upto Rows.planConflictsAreLeastSpec).bare.plain.varTypes Tryz.prog).any (Tryz.prog.loopsFrom ·)))=true:=by kernel_rfl
theorem AOa:((Rows.planConflictsAreLeastUptoRow.wideKeys==(Tryz.f3.params.toList++(Rows.OpenSpec.upto Rows.planConflictsAreLeastSpec).bare.plain.varTypes Tryz.prog++Tryz.f3.resultTypes.toList).any (Tryz.prog.wideKeysFrom ·)))=true:=by kernel_rfl
theorem AOb:((Rows.OpenSpec.upto Rows.planConflictsAreLeastSpec).bare.vars.all (Tryz.prog.varReadable ·))=true:=by kernel_rfl
theorem AOc:(Tryz.f3.resultTypes.all (fun t=>Tryz.prog.readableRec t&&decide (t<Tryz.prog.types.size)))=true:=by kernel_rfl
theorem AOd:((Rows.planConflictsAreLeastUptoRow.ifacesOut==Tryz.f3.resultTypes.toList.any (Tryz.prog.ifacesRec ·)))=true:=by kernel_rfl
theorem AOe:((Rows.planConflictsAreLeastUptoRow.loopsOut==Tryz.f3.resultTypes.toList.any (Tryz.prog.loopsFrom ·)))=true:=by kernel_rfl
theorem AOf:((Rows.planConflictsAreLeastUptoRow.plainKeys==Tryz.prog.plainKeys))=true:=by kernel_rfl
theorem AOg:(Rows.planConflictsAreLeastUptoRow.shortTexts.isNone)=true:=by kernel_rfl
theorem AOh:(Tryz.prog.stopsHeard)=true:=by kernel_rfl
theorem AOi:(Tryz.prog.mayEnter)=true:=by kernel_rfl
theorem AOj:((Rows.planConflictsAreLeastUptoRow.lifted==Tryz.prog.liftsFinal))=true:=by kernel_rfl
theorem AOk:((Tryz.prog.make==some Rows.planConflictsAreLeastUptoRow.make))=true:=by kernel_rfl
theorem AOl:((Rows.planConflictsAreLeastUptoRow.kinds==(if Rows.planConflictsAreLeastUptoRow.domain.isEmpty then []else Tryz.f3.params.toList.map fun t=>match Tryz.prog.underlying t with|some (.int k)=>some k|_=>none)))=true:=by kernel_rfl
theorem AOm:((Rows.planConflictsAreLeastUptoRow.pinned==Rows.planConflictsAreLeastUptoRow.pinnedBy))=true:=by kernel_rfl
theorem AOn:((Rows.planConflictsAreLeastUptoRow.veiled==(Tryz.f3.params.toList++(Rows.OpenSpec.upto Rows.planConflictsAreLeastSpec).bare.plain.varTypes Tryz.prog++Tryz.f3.resultTypes.toList).any (Tryz.prog.veiledRec ·)))=true:=by kernel_rfl
theorem AOo:(Rows.planConflictsAreLeastUptoRow.veiledFits Tryz.prog Tryz.f3.params.toList (Tryz.f3.params.toList++(Rows.OpenSpec.upto Rows.planConflictsAreLeastSpec).bare.plain.varTypes Tryz.prog++Tryz.f3.resultTypes.toList))=true:=by kernel_rfl
theorem an{a b:Bool}(h:a=true)(k:b=true):(a&&b)=true:=by rw[h,k];rfl
theorem AOp:joinedFacts Tryz.prog 3 Tryz.f3 (Rows.OpenSpec.upto Rows.planConflictsAreLeastSpec).bare Rows.planConflictsAreLeastUptoRow=true:=an (an (an (an (an (an (an (an (an (an (an (an (an (an (an (an (an (an (an (an (an (an (an (an (an (an (an (an (an (an (an (AOK) AOL) AOM) AON) AOO) AOP) AOQ) AOR) AOS) AOT) AOU) AOV) AOW) AOX) AOY) AOZ) AO_) AOa) AOb) AOc) AOd) AOe) AOf) AOg) AOh) AOi) AOj) AOk) AOl) AOm) AOn) AOo
theorem named:Tryz.prog.funcNamed Rows.planConflictsAreLeastUptoRow.func=some 3:=by kernel_rfl
theorem AOq:Tryz.f3.isInstance Tryz.prog Rows.planConflictsAreLeastUptoRow.origin Rows.planConflictsAreLeastUptoRow.targs:=of_decide_eq_true (by kernel_rfl)
theorem AOr:Tryz.f3.isWrapper Tryz.prog Rows.planConflictsAreLeastUptoRow.wrapper Rows.planConflictsAreLeastUptoRow.mainSum:=by unfold Func.isWrapper;first|(rw[if_pos (by decide +kernel)];kernel_rfl)|(rw[if_neg (by decide +kernel)];exact⟨rfl,rfl⟩)
end Go.Proofs.YtlljgbmoloklgaaGreatDoor.least
