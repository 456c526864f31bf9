/-
  THE ROW's CLOSED FACTS, one by one.
-/
import Derived.Test.YtkmeffadhdmdhaaGreatDoorF
set_option linter.all false
set_option maxRecDepth 100000
namespace Go.Proofs.YtkmeffadhdmdhaaGreatDoor.witness
open Go.ChangeShapes Go.WideShapes Go.ChangeAt Go.ChangeMaps Go.RowKit Go.Ev Go.Lib
theorem AgG:(Rows.topWitnessesCheckUptoRow.wf (OpenSpec.ofChange (Rows.OpenSpec.upto Rows.topWitnessesCheckSpec).bare))=true:=oe
theorem AgH:(laidOutB Tryz.prog)=true:=oe
theorem AgI:(mapsRowed Tryz.prog)=true:=oe
theorem AgJ:(Tryz.f3.params.all (Tryz.prog.readableRec ·))=true:=oe
theorem AgK:(namedTie Tryz.prog Rows.topWitnessesCheckUptoRow.named (Rows.OpenSpec.upto Rows.topWitnessesCheckSpec).bare.vars)=true:=oe
theorem AgL:((Rows.topWitnessesCheckUptoRow.stops== []))=true:=oe
theorem AgM:((Tryz.prog.stops== []))=true:=oe
theorem AgN:((Rows.topWitnessesCheckUptoRow.knobs== []))=true:=oe
theorem AgO:((Tryz.prog.stopKnobs== []))=true:=oe
theorem AgP:((Rows.topWitnessesCheckUptoRow.inPlace==Tryz.prog.inPlace 3))=true:=oe
theorem AgQ:((Rows.topWitnessesCheckUptoRow.unfollowed==Tryz.prog.unfollowed 3))=true:=oe
theorem AgR:((Rows.topWitnessesCheckUptoRow.recurses==Tryz.prog.recurses 3))=true:=oe
theorem AgS:((Rows.topWitnessesCheckUptoRow.named==Tryz.prog.varsNamed 3))=true:=oe
theorem AgT:((Rows.topWitnessesCheckUptoRow.maps==(Tryz.f3.params.toList++(Rows.OpenSpec.upto Rows.topWitnessesCheckSpec).bare.plain.varTypes Tryz.prog).any (Tryz.prog.mapsRec ·)))=true:=oe
theorem AgU:((Rows.topWitnessesCheckUptoRow.ifaces==(Tryz.f3.params.toList++(Rows.OpenSpec.upto Rows.topWitnessesCheckSpec).bare.plain.varTypes Tryz.prog).any (Tryz.prog.ifacesRec ·)))=true:=oe
theorem AgV:((Rows.topWitnessesCheckUptoRow.mapsOut==Tryz.prog.mapsAmong Tryz.f3.resultTypes.toList))=true:=oe
theorem AgW:((Rows.topWitnessesCheckUptoRow.loops==(Tryz.f3.params.toList++(Rows.OpenSpec.upto Rows.topWitnessesCheckSpec).bare.plain.varTypes Tryz.prog).any (Tryz.prog.loopsFrom ·)))=true:=oe
theorem AgX:((Rows.topWitnessesCheckUptoRow.wideKeys==(Tryz.f3.params.toList++(Rows.OpenSpec.upto Rows.topWitnessesCheckSpec).bare.plain.varTypes Tryz.prog++Tryz.f3.resultTypes.toList).any (Tryz.prog.wideKeysFrom ·)))=true:=oe
theorem AgY:((Rows.OpenSpec.upto Rows.topWitnessesCheckSpec).bare.vars.all (Tryz.prog.varReadable ·))=true:=oe
theorem AgZ:(Tryz.f3.resultTypes.all (λt=>Tryz.prog.readableRec t&&decide (t<Tryz.prog.types.size)))=true:=oe
theorem Ag_:((Rows.topWitnessesCheckUptoRow.ifacesOut==Tryz.f3.resultTypes.toList.any (Tryz.prog.ifacesRec ·)))=true:=oe
theorem Ah0:((Rows.topWitnessesCheckUptoRow.loopsOut==Tryz.f3.resultTypes.toList.any (Tryz.prog.loopsFrom ·)))=true:=oe
theorem Ah1:((Rows.topWitnessesCheckUptoRow.plainKeys==Tryz.prog.plainKeys))=true:=oe
theorem Ah2:(Rows.topWitnessesCheckUptoRow.shortTexts.isNone)=true:=oe
theorem Ah3:(Tryz.prog.stopsHeard)=true:=oe
theorem Ah4:(Tryz.prog.mayEnter)=true:=oe
theorem Ah5:((Rows.topWitnessesCheckUptoRow.lifted==Tryz.prog.liftsFinal))=true:=oe
theorem Ah6:((Tryz.prog.make==some Rows.topWitnessesCheckUptoRow.make))=true:=oe
theorem Ah7:((Rows.topWitnessesCheckUptoRow.kinds==(if Rows.topWitnessesCheckUptoRow.domain.isEmpty then []else Tryz.f3.params.toList.map λt=>match Tryz.prog.underlying t with|some (.int k)=>some k|_=>none)))=true:=oe
theorem Ah8:((Rows.topWitnessesCheckUptoRow.pinned==Rows.topWitnessesCheckUptoRow.pinnedBy))=true:=oe
theorem Ah9:((Rows.topWitnessesCheckUptoRow.veiled==(Tryz.f3.params.toList++(Rows.OpenSpec.upto Rows.topWitnessesCheckSpec).bare.plain.varTypes Tryz.prog++Tryz.f3.resultTypes.toList).any (Tryz.prog.veiledRec ·)))=true:=oe
theorem AhA:(Rows.topWitnessesCheckUptoRow.veiledFits Tryz.prog Tryz.f3.params.toList (Tryz.f3.params.toList++(Rows.OpenSpec.upto Rows.topWitnessesCheckSpec).bare.plain.varTypes Tryz.prog++Tryz.f3.resultTypes.toList))=true:=oe
theorem an{a b:Bool}(h:a=true)(k:b=true):(a&&b)=true:=by rw[h,k];rfl
theorem AhB:joinedFacts Tryz.prog 3 Tryz.f3 (Rows.OpenSpec.upto Rows.topWitnessesCheckSpec).bare Rows.topWitnessesCheckUptoRow=true:=an (an (an (an (an (an (an (an (an (an (an (an (an (an (an (an (an (an (an (an (an (an (an (an (an (an (an (an (an (an (an (AgG) AgH) AgI) AgJ) AgK) AgL) AgM) AgN) AgO) AgP) AgQ) AgR) AgS) AgT) AgU) AgV) AgW) AgX) AgY) AgZ) Ag_) Ah0) Ah1) Ah2) Ah3) Ah4) Ah5) Ah6) Ah7) Ah8) Ah9) AhA
theorem named:Tryz.prog.funcNamed Rows.topWitnessesCheckUptoRow.func=some 3:=oe
theorem AhC:Tryz.f3.isInstance Tryz.prog Rows.topWitnessesCheckUptoRow.origin Rows.topWitnessesCheckUptoRow.targs:=of_decide_eq_true oe
theorem AhD:Tryz.f3.isWrapper Tryz.prog Rows.topWitnessesCheckUptoRow.wrapper Rows.topWitnessesCheckUptoRow.mainSum:=by unfold Func.isWrapper;first|(rw[if_pos (by decide +kernel)];kernel_rfl)|(rw[if_neg (by decide +kernel)];exact⟨rfl,rfl⟩)
end Go.Proofs.YtkmeffadhdmdhaaGreatDoor.witness
