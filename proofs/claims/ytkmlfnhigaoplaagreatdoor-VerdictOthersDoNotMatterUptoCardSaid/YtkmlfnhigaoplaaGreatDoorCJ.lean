/-
  THE ROW's CLOSED FACTS, one by one.
-/
import Derived.Test.YtkmlfnhigaoplaaGreatDoorF
set_option linter.all false
set_option maxRecDepth 100000
namespace Go.Proofs.YtkmlfnhigaoplaaGreatDoor.others
open Go.ChangeShapes Go.WideShapes Go.ChangeAt Go.ChangeMaps Go.RowKit Go.Ev Go.Lib
theorem Ad9:(Rows.verdictOthersDoNotMatterUptoRow.wf (OpenSpec.ofChange (Rows.OpenSpec.upto Rows.verdictOthersDoNotMatterSpec).bare))=true:=oe
theorem AdA:(laidOutB Tryz.prog)=true:=oe
theorem AdC:(mapsRowed Tryz.prog)=true:=oe
theorem AdD:(Tryz.f3.params.all (Tryz.prog.readableRec ·))=true:=oe
theorem AdE:(namedTie Tryz.prog Rows.verdictOthersDoNotMatterUptoRow.named (Rows.OpenSpec.upto Rows.verdictOthersDoNotMatterSpec).bare.vars)=true:=oe
theorem AdF:((Rows.verdictOthersDoNotMatterUptoRow.stops== []))=true:=oe
theorem AdG:((Tryz.prog.stops== []))=true:=oe
theorem AdH:((Rows.verdictOthersDoNotMatterUptoRow.knobs== []))=true:=oe
theorem AdI:((Tryz.prog.stopKnobs== []))=true:=oe
theorem AdJ:((Rows.verdictOthersDoNotMatterUptoRow.inPlace==Tryz.prog.inPlace 3))=true:=oe
theorem AdK:((Rows.verdictOthersDoNotMatterUptoRow.unfollowed==Tryz.prog.unfollowed 3))=true:=oe
theorem AdL:((Rows.verdictOthersDoNotMatterUptoRow.recurses==Tryz.prog.recurses 3))=true:=oe
theorem AdM:((Rows.verdictOthersDoNotMatterUptoRow.named==Tryz.prog.varsNamed 3))=true:=oe
theorem AdN:((Rows.verdictOthersDoNotMatterUptoRow.maps==(Tryz.f3.params.toList++(Rows.OpenSpec.upto Rows.verdictOthersDoNotMatterSpec).bare.plain.varTypes Tryz.prog).any (Tryz.prog.mapsRec ·)))=true:=oe
theorem AdO:((Rows.verdictOthersDoNotMatterUptoRow.ifaces==(Tryz.f3.params.toList++(Rows.OpenSpec.upto Rows.verdictOthersDoNotMatterSpec).bare.plain.varTypes Tryz.prog).any (Tryz.prog.ifacesRec ·)))=true:=oe
theorem AdP:((Rows.verdictOthersDoNotMatterUptoRow.mapsOut==Tryz.prog.mapsAmong Tryz.f3.resultTypes.toList))=true:=oe
theorem AdQ:((Rows.verdictOthersDoNotMatterUptoRow.loops==(Tryz.f3.params.toList++(Rows.OpenSpec.upto Rows.verdictOthersDoNotMatterSpec).bare.plain.varTypes Tryz.prog).any (Tryz.prog.loopsFrom ·)))=true:=oe
theorem AdR:((Rows.verdictOthersDoNotMatterUptoRow.wideKeys==(Tryz.f3.params.toList++(Rows.OpenSpec.upto Rows.verdictOthersDoNotMatterSpec).bare.plain.varTypes Tryz.prog++Tryz.f3.resultTypes.toList).any (Tryz.prog.wideKeysFrom ·)))=true:=oe
theorem AdS:((Rows.OpenSpec.upto Rows.verdictOthersDoNotMatterSpec).bare.vars.all (Tryz.prog.varReadable ·))=true:=oe
theorem AdT:(Tryz.f3.resultTypes.all (λt=>Tryz.prog.readableRec t&&decide (t<Tryz.prog.types.size)))=true:=oe
theorem AdU:((Rows.verdictOthersDoNotMatterUptoRow.ifacesOut==Tryz.f3.resultTypes.toList.any (Tryz.prog.ifacesRec ·)))=true:=oe
theorem AdV:((Rows.verdictOthersDoNotMatterUptoRow.loopsOut==Tryz.f3.resultTypes.toList.any (Tryz.prog.loopsFrom ·)))=true:=oe
theorem AdW:((Rows.verdictOthersDoNotMatterUptoRow.plainKeys==Tryz.prog.plainKeys))=true:=oe
theorem AdX:(Rows.verdictOthersDoNotMatterUptoRow.shortTexts.isNone)=true:=oe
theorem AdY:(Tryz.prog.stopsHeard)=true:=oe
theorem AdZ:(Tryz.prog.mayEnter)=true:=oe
theorem Ad_:((Rows.verdictOthersDoNotMatterUptoRow.lifted==Tryz.prog.liftsFinal))=true:=oe
theorem Ae0:((Tryz.prog.make==some Rows.verdictOthersDoNotMatterUptoRow.make))=true:=oe
theorem Ae1:((Rows.verdictOthersDoNotMatterUptoRow.kinds==(if Rows.verdictOthersDoNotMatterUptoRow.domain.isEmpty then []else Tryz.f3.params.toList.map λt=>match Tryz.prog.underlying t with|some (.int k)=>some k|_=>none)))=true:=oe
theorem Ae2:((Rows.verdictOthersDoNotMatterUptoRow.pinned==Rows.verdictOthersDoNotMatterUptoRow.pinnedBy))=true:=oe
theorem Ae3:((Rows.verdictOthersDoNotMatterUptoRow.veiled==(Tryz.f3.params.toList++(Rows.OpenSpec.upto Rows.verdictOthersDoNotMatterSpec).bare.plain.varTypes Tryz.prog++Tryz.f3.resultTypes.toList).any (Tryz.prog.veiledRec ·)))=true:=oe
theorem Ae4:(Rows.verdictOthersDoNotMatterUptoRow.veiledFits Tryz.prog Tryz.f3.params.toList (Tryz.f3.params.toList++(Rows.OpenSpec.upto Rows.verdictOthersDoNotMatterSpec).bare.plain.varTypes Tryz.prog++Tryz.f3.resultTypes.toList))=true:=oe
theorem an{a b:Bool}(h:a=true)(k:b=true):(a&&b)=true:=by rw[h,k];rfl
theorem Ae5:joinedFacts Tryz.prog 3 Tryz.f3 (Rows.OpenSpec.upto Rows.verdictOthersDoNotMatterSpec).bare Rows.verdictOthersDoNotMatterUptoRow=true:=an (an (an (an (an (an (an (an (an (an (an (an (an (an (an (an (an (an (an (an (an (an (an (an (an (an (an (an (an (an (an (Ad9) AdA) AdC) AdD) AdE) AdF) AdG) AdH) AdI) AdJ) AdK) AdL) AdM) AdN) AdO) AdP) AdQ) AdR) AdS) AdT) AdU) AdV) AdW) AdX) AdY) AdZ) Ad_) Ae0) Ae1) Ae2) Ae3) Ae4
theorem named:Tryz.prog.funcNamed Rows.verdictOthersDoNotMatterUptoRow.func=some 3:=oe
theorem Ae6:Tryz.f3.isInstance Tryz.prog Rows.verdictOthersDoNotMatterUptoRow.origin Rows.verdictOthersDoNotMatterUptoRow.targs:=of_decide_eq_true oe
theorem Ae7:Tryz.f3.isWrapper Tryz.prog Rows.verdictOthersDoNotMatterUptoRow.wrapper Rows.verdictOthersDoNotMatterUptoRow.mainSum:=by unfold Func.isWrapper;first|(rw[if_pos (by decide +kernel)];kernel_rfl)|(rw[if_neg (by decide +kernel)];exact⟨rfl,rfl⟩)
end Go.Proofs.YtkmlfnhigaoplaaGreatDoor.others
