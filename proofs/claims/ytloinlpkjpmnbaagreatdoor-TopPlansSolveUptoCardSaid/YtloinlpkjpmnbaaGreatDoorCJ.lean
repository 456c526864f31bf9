/-
  THE ROW's CLOSED FACTS, one by one.
-/
import Derived.Test.YtloinlpkjpmnbaaGreatDoorF
set_option linter.unusedVariables false
set_option linter.unusedSimpArgs false
set_option linter.unusedSectionVars false
set_option maxRecDepth 100000
namespace Go.Proofs.YtloinlpkjpmnbaaGreatDoor.plans
open Go.ChangeShapes Go.WideShapes Go.ChangeAt Go.ChangeMaps Go.RowKit Go.Ev Go.Lib
theorem A_t:(Rows.topPlansSolveUptoRow.wf (OpenSpec.ofChange (Rows.OpenSpec.upto Rows.topPlansSolveSpec).bare))=true:=oh
theorem A_u:(laidOutB Tryz.prog)=true:=oh
theorem A_v:(mapsRowed Tryz.prog)=true:=oh
theorem A_w:(Tryz.f3.params.all (Tryz.prog.readableRec ·))=true:=oh
theorem A_x:(namedTie Tryz.prog Rows.topPlansSolveUptoRow.named (Rows.OpenSpec.upto Rows.topPlansSolveSpec).bare.vars)=true:=oh
theorem A_y:((Rows.topPlansSolveUptoRow.stops== []))=true:=oh
theorem A_z:((Tryz.prog.stops== []))=true:=oh
theorem Aa0:((Rows.topPlansSolveUptoRow.knobs== []))=true:=oh
theorem Aa1:((Tryz.prog.stopKnobs== []))=true:=oh
theorem Aa2:((Rows.topPlansSolveUptoRow.inPlace==Tryz.prog.inPlace 3))=true:=oh
theorem Aa3:((Rows.topPlansSolveUptoRow.unfollowed==Tryz.prog.unfollowed 3))=true:=oh
theorem Aa4:((Rows.topPlansSolveUptoRow.recurses==Tryz.prog.recurses 3))=true:=oh
theorem Aa5:((Rows.topPlansSolveUptoRow.named==Tryz.prog.varsNamed 3))=true:=oh
theorem Aa6:((Rows.topPlansSolveUptoRow.maps==(Tryz.f3.params.toList++(Rows.OpenSpec.upto Rows.topPlansSolveSpec).bare.plain.varTypes Tryz.prog).any (Tryz.prog.mapsRec ·)))=true:=oh
theorem Aa7:((Rows.topPlansSolveUptoRow.ifaces==(Tryz.f3.params.toList++(Rows.OpenSpec.upto Rows.topPlansSolveSpec).bare.plain.varTypes Tryz.prog).any (Tryz.prog.ifacesRec ·)))=true:=oh
theorem Aa8:((Rows.topPlansSolveUptoRow.mapsOut==Tryz.prog.mapsAmong Tryz.f3.resultTypes.toList))=true:=oh
theorem Aa9:((Rows.topPlansSolveUptoRow.loops==(Tryz.f3.params.toList++(Rows.OpenSpec.upto Rows.topPlansSolveSpec).bare.plain.varTypes Tryz.prog).any (Tryz.prog.loopsFrom ·)))=true:=oh
theorem AaA:((Rows.topPlansSolveUptoRow.wideKeys==(Tryz.f3.params.toList++(Rows.OpenSpec.upto Rows.topPlansSolveSpec).bare.plain.varTypes Tryz.prog++Tryz.f3.resultTypes.toList).any (Tryz.prog.wideKeysFrom ·)))=true:=oh
theorem AaB:((Rows.OpenSpec.upto Rows.topPlansSolveSpec).bare.vars.all (Tryz.prog.varReadable ·))=true:=oh
theorem AaC:(Tryz.f3.resultTypes.all (λt=>Tryz.prog.readableRec t&&decide (t<Tryz.prog.types.size)))=true:=oh
theorem AaD:((Rows.topPlansSolveUptoRow.ifacesOut==Tryz.f3.resultTypes.toList.any (Tryz.prog.ifacesRec ·)))=true:=oh
theorem AaE:((Rows.topPlansSolveUptoRow.loopsOut==Tryz.f3.resultTypes.toList.any (Tryz.prog.loopsFrom ·)))=true:=oh
theorem AaF:((Rows.topPlansSolveUptoRow.plainKeys==Tryz.prog.plainKeys))=true:=oh
theorem AaG:(Rows.topPlansSolveUptoRow.shortTexts.isNone)=true:=oh
theorem AaH:(Tryz.prog.stopsHeard)=true:=oh
theorem AaI:(Tryz.prog.mayEnter)=true:=oh
theorem AaJ:((Rows.topPlansSolveUptoRow.lifted==Tryz.prog.liftsFinal))=true:=oh
theorem AaK:((Tryz.prog.make==some Rows.topPlansSolveUptoRow.make))=true:=oh
theorem AaL:((Rows.topPlansSolveUptoRow.kinds==(if Rows.topPlansSolveUptoRow.domain.isEmpty then []else Tryz.f3.params.toList.map λt=>match Tryz.prog.underlying t with|some (.int k)=>some k|_=>none)))=true:=oh
theorem AaM:((Rows.topPlansSolveUptoRow.pinned==Rows.topPlansSolveUptoRow.pinnedBy))=true:=oh
theorem AaN:((Rows.topPlansSolveUptoRow.veiled==(Tryz.f3.params.toList++(Rows.OpenSpec.upto Rows.topPlansSolveSpec).bare.plain.varTypes Tryz.prog++Tryz.f3.resultTypes.toList).any (Tryz.prog.veiledRec ·)))=true:=oh
theorem AaO:(Rows.topPlansSolveUptoRow.veiledFits Tryz.prog Tryz.f3.params.toList (Tryz.f3.params.toList++(Rows.OpenSpec.upto Rows.topPlansSolveSpec).bare.plain.varTypes Tryz.prog++Tryz.f3.resultTypes.toList))=true:=oh
theorem an{a b:Bool}(h:a=true)(k:b=true):(a&&b)=true:=by rw[h,k];rfl
theorem AaP:joinedFacts Tryz.prog 3 Tryz.f3 (Rows.OpenSpec.upto Rows.topPlansSolveSpec).bare Rows.topPlansSolveUptoRow=true:=an (an (an (an (an (an (an (an (an (an (an (an (an (an (an (an (an (an (an (an (an (an (an (an (an (an (an (an (an (an (an (A_t) A_u) A_v) A_w) A_x) A_y) A_z) Aa0) Aa1) Aa2) Aa3) Aa4) Aa5) Aa6) Aa7) Aa8) Aa9) AaA) AaB) AaC) AaD) AaE) AaF) AaG) AaH) AaI) AaJ) AaK) AaL) AaM) AaN) AaO
theorem named:Tryz.prog.funcNamed Rows.topPlansSolveUptoRow.func=some 3:=oh
theorem AaQ:Tryz.f3.isInstance Tryz.prog Rows.topPlansSolveUptoRow.origin Rows.topPlansSolveUptoRow.targs:=of_decide_eq_true oh
theorem AaR:Tryz.f3.isWrapper Tryz.prog Rows.topPlansSolveUptoRow.wrapper Rows.topPlansSolveUptoRow.mainSum:=by unfold Func.isWrapper;first|(rw[if_pos (by decide +kernel)];kernel_rfl)|(rw[if_neg (by decide +kernel)];exact⟨rfl,rfl⟩)
end Go.Proofs.YtloinlpkjpmnbaaGreatDoor.plans
