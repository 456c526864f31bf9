/-
  THE ROW's CLOSED FACTS, one by one.
-/
import Derived.Test.YtngpbgokgpnamaaGreatDoorF
set_option linter.all false
set_option maxRecDepth 100000
namespace Go.Proofs.YtngpbgokgpnamaaGreatDoor.nothing
open Go.ChangeShapes Go.WideShapes Go.ChangeAt Go.ChangeMaps Go.RowKit Go.Ev Go.Lib
theorem AdA:(Rows.topNothingIsPassedOverUptoRow.wf (OpenSpec.ofChange (Rows.OpenSpec.upto Rows.topNothingIsPassedOverSpec).bare))=true:=oe
theorem AdC:(laidOutB Tryz.prog)=true:=oe
theorem AdD:(mapsRowed Tryz.prog)=true:=oe
theorem AdE:(Tryz.f3.params.all (Tryz.prog.readableRec ·))=true:=oe
theorem AdF:(namedTie Tryz.prog Rows.topNothingIsPassedOverUptoRow.named (Rows.OpenSpec.upto Rows.topNothingIsPassedOverSpec).bare.vars)=true:=oe
theorem AdG:((Rows.topNothingIsPassedOverUptoRow.stops== []))=true:=oe
theorem AdH:((Tryz.prog.stops== []))=true:=oe
theorem AdI:((Rows.topNothingIsPassedOverUptoRow.knobs== []))=true:=oe
theorem AdJ:((Tryz.prog.stopKnobs== []))=true:=oe
theorem AdK:((Rows.topNothingIsPassedOverUptoRow.inPlace==Tryz.prog.inPlace 3))=true:=oe
theorem AdL:((Rows.topNothingIsPassedOverUptoRow.unfollowed==Tryz.prog.unfollowed 3))=true:=oe
theorem AdM:((Rows.topNothingIsPassedOverUptoRow.recurses==Tryz.prog.recurses 3))=true:=oe
theorem AdN:((Rows.topNothingIsPassedOverUptoRow.named==Tryz.prog.varsNamed 3))=true:=oe
theorem AdO:((Rows.topNothingIsPassedOverUptoRow.maps==(Tryz.f3.params.toList++(Rows.OpenSpec.upto Rows.topNothingIsPassedOverSpec).bare.plain.varTypes Tryz.prog).any (Tryz.prog.mapsRec ·)))=true:=oe
theorem AdP:((Rows.topNothingIsPassedOverUptoRow.ifaces==(Tryz.f3.params.toList++(Rows.OpenSpec.upto Rows.topNothingIsPassedOverSpec).bare.plain.varTypes Tryz.prog).any (Tryz.prog.ifacesRec ·)))=true:=oe
theorem AdQ:((Rows.topNothingIsPassedOverUptoRow.mapsOut==Tryz.prog.mapsAmong Tryz.f3.resultTypes.toList))=true:=oe
theorem AdR:((Rows.topNothingIsPassedOverUptoRow.loops==(Tryz.f3.params.toList++(Rows.OpenSpec.upto Rows.topNothingIsPassedOverSpec).bare.plain.varTypes Tryz.prog).any (Tryz.prog.loopsFrom ·)))=true:=oe
theorem AdS:((Rows.topNothingIsPassedOverUptoRow.wideKeys==(Tryz.f3.params.toList++(Rows.OpenSpec.upto Rows.topNothingIsPassedOverSpec).bare.plain.varTypes Tryz.prog++Tryz.f3.resultTypes.toList).any (Tryz.prog.wideKeysFrom ·)))=true:=oe
theorem AdT:((Rows.OpenSpec.upto Rows.topNothingIsPassedOverSpec).bare.vars.all (Tryz.prog.varReadable ·))=true:=oe
theorem AdU:(Tryz.f3.resultTypes.all (λt=>Tryz.prog.readableRec t&&decide (t<Tryz.prog.types.size)))=true:=oe
theorem AdV:((Rows.topNothingIsPassedOverUptoRow.ifacesOut==Tryz.f3.resultTypes.toList.any (Tryz.prog.ifacesRec ·)))=true:=oe
theorem AdW:((Rows.topNothingIsPassedOverUptoRow.loopsOut==Tryz.f3.resultTypes.toList.any (Tryz.prog.loopsFrom ·)))=true:=oe
theorem AdX:((Rows.topNothingIsPassedOverUptoRow.plainKeys==Tryz.prog.plainKeys))=true:=oe
theorem AdY:(Rows.topNothingIsPassedOverUptoRow.shortTexts.isNone)=true:=oe
theorem AdZ:(Tryz.prog.stopsHeard)=true:=oe
theorem Ad_:(Tryz.prog.mayEnter)=true:=oe
theorem Ae0:((Rows.topNothingIsPassedOverUptoRow.lifted==Tryz.prog.liftsFinal))=true:=oe
theorem Ae1:((Tryz.prog.make==some Rows.topNothingIsPassedOverUptoRow.make))=true:=oe
theorem Ae2:((Rows.topNothingIsPassedOverUptoRow.kinds==(if Rows.topNothingIsPassedOverUptoRow.domain.isEmpty then []else Tryz.f3.params.toList.map λt=>match Tryz.prog.underlying t with|some (.int k)=>some k|_=>none)))=true:=oe
theorem Ae3:((Rows.topNothingIsPassedOverUptoRow.pinned==Rows.topNothingIsPassedOverUptoRow.pinnedBy))=true:=oe
theorem Ae4:((Rows.topNothingIsPassedOverUptoRow.veiled==(Tryz.f3.params.toList++(Rows.OpenSpec.upto Rows.topNothingIsPassedOverSpec).bare.plain.varTypes Tryz.prog++Tryz.f3.resultTypes.toList).any (Tryz.prog.veiledRec ·)))=true:=oe
theorem Ae5:(Rows.topNothingIsPassedOverUptoRow.veiledFits Tryz.prog Tryz.f3.params.toList (Tryz.f3.params.toList++(Rows.OpenSpec.upto Rows.topNothingIsPassedOverSpec).bare.plain.varTypes Tryz.prog++Tryz.f3.resultTypes.toList))=true:=oe
theorem an{a b:Bool}(h:a=true)(k:b=true):(a&&b)=true:=by rw[h,k];rfl
theorem Ae6:joinedFacts Tryz.prog 3 Tryz.f3 (Rows.OpenSpec.upto Rows.topNothingIsPassedOverSpec).bare Rows.topNothingIsPassedOverUptoRow=true:=an (an (an (an (an (an (an (an (an (an (an (an (an (an (an (an (an (an (an (an (an (an (an (an (an (an (an (an (an (an (an (AdA) AdC) AdD) AdE) AdF) AdG) AdH) AdI) AdJ) AdK) AdL) AdM) AdN) AdO) AdP) AdQ) AdR) AdS) AdT) AdU) AdV) AdW) AdX) AdY) AdZ) Ad_) Ae0) Ae1) Ae2) Ae3) Ae4) Ae5
theorem named:Tryz.prog.funcNamed Rows.topNothingIsPassedOverUptoRow.func=some 3:=oe
theorem Ae7:Tryz.f3.isInstance Tryz.prog Rows.topNothingIsPassedOverUptoRow.origin Rows.topNothingIsPassedOverUptoRow.targs:=of_decide_eq_true oe
theorem Ae8:Tryz.f3.isWrapper Tryz.prog Rows.topNothingIsPassedOverUptoRow.wrapper Rows.topNothingIsPassedOverUptoRow.mainSum:=by unfold Func.isWrapper;first|(rw[if_pos (by decide +kernel)];kernel_rfl)|(rw[if_neg (by decide +kernel)];exact⟨rfl,rfl⟩)
end Go.Proofs.YtngpbgokgpnamaaGreatDoor.nothing
