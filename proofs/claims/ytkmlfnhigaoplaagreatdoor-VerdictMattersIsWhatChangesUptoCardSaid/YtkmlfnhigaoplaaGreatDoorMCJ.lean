/-
  THE ROW's CLOSED FACTS, one by one.
-/
import Derived.Test.YtkmlfnhigaoplaaGreatDoorMF
set_option linter.all false
set_option maxRecDepth 100000
namespace Go.Proofs.YtkmlfnhigaoplaaGreatDoor.matters
open Go.ChangeShapes Go.WideShapes Go.ChangeAt Go.ChangeMaps Go.RowKit Go.Ev Go.Lib
theorem AdK:(Rows.verdictMattersIsWhatChangesUptoRow.wf (OpenSpec.ofChange (Rows.OpenSpec.upto Rows.verdictMattersIsWhatChangesSpec).bare))=true:=oe
theorem AdL:(laidOutB Tryz.prog)=true:=oe
theorem AdM:(mapsRowed Tryz.prog)=true:=oe
theorem AdN:(Tryz.f4.params.all (Tryz.prog.readableRec ·))=true:=oe
theorem AdO:(namedTie Tryz.prog Rows.verdictMattersIsWhatChangesUptoRow.named (Rows.OpenSpec.upto Rows.verdictMattersIsWhatChangesSpec).bare.vars)=true:=oe
theorem AdP:((Rows.verdictMattersIsWhatChangesUptoRow.stops== []))=true:=oe
theorem AdQ:((Tryz.prog.stops== []))=true:=oe
theorem AdR:((Rows.verdictMattersIsWhatChangesUptoRow.knobs== []))=true:=oe
theorem AdS:((Tryz.prog.stopKnobs== []))=true:=oe
theorem AdT:((Rows.verdictMattersIsWhatChangesUptoRow.inPlace==Tryz.prog.inPlace 4))=true:=oe
theorem AdU:((Rows.verdictMattersIsWhatChangesUptoRow.unfollowed==Tryz.prog.unfollowed 4))=true:=oe
theorem AdV:((Rows.verdictMattersIsWhatChangesUptoRow.recurses==Tryz.prog.recurses 4))=true:=oe
theorem AdW:((Rows.verdictMattersIsWhatChangesUptoRow.named==Tryz.prog.varsNamed 4))=true:=oe
theorem AdX:((Rows.verdictMattersIsWhatChangesUptoRow.maps==(Tryz.f4.params.toList++(Rows.OpenSpec.upto Rows.verdictMattersIsWhatChangesSpec).bare.plain.varTypes Tryz.prog).any (Tryz.prog.mapsRec ·)))=true:=oe
theorem AdY:((Rows.verdictMattersIsWhatChangesUptoRow.ifaces==(Tryz.f4.params.toList++(Rows.OpenSpec.upto Rows.verdictMattersIsWhatChangesSpec).bare.plain.varTypes Tryz.prog).any (Tryz.prog.ifacesRec ·)))=true:=oe
theorem AdZ:((Rows.verdictMattersIsWhatChangesUptoRow.mapsOut==Tryz.prog.mapsAmong Tryz.f4.resultTypes.toList))=true:=oe
theorem Ad_:((Rows.verdictMattersIsWhatChangesUptoRow.loops==(Tryz.f4.params.toList++(Rows.OpenSpec.upto Rows.verdictMattersIsWhatChangesSpec).bare.plain.varTypes Tryz.prog).any (Tryz.prog.loopsFrom ·)))=true:=oe
theorem Ae0:((Rows.verdictMattersIsWhatChangesUptoRow.wideKeys==(Tryz.f4.params.toList++(Rows.OpenSpec.upto Rows.verdictMattersIsWhatChangesSpec).bare.plain.varTypes Tryz.prog++Tryz.f4.resultTypes.toList).any (Tryz.prog.wideKeysFrom ·)))=true:=oe
theorem Ae1:((Rows.OpenSpec.upto Rows.verdictMattersIsWhatChangesSpec).bare.vars.all (Tryz.prog.varReadable ·))=true:=oe
theorem Ae2:(Tryz.f4.resultTypes.all (λt=>Tryz.prog.readableRec t&&decide (t<Tryz.prog.types.size)))=true:=oe
theorem Ae3:((Rows.verdictMattersIsWhatChangesUptoRow.ifacesOut==Tryz.f4.resultTypes.toList.any (Tryz.prog.ifacesRec ·)))=true:=oe
theorem Ae4:((Rows.verdictMattersIsWhatChangesUptoRow.loopsOut==Tryz.f4.resultTypes.toList.any (Tryz.prog.loopsFrom ·)))=true:=oe
theorem Ae5:((Rows.verdictMattersIsWhatChangesUptoRow.plainKeys==Tryz.prog.plainKeys))=true:=oe
theorem Ae6:(Rows.verdictMattersIsWhatChangesUptoRow.shortTexts.isNone)=true:=oe
theorem Ae7:(Tryz.prog.stopsHeard)=true:=oe
theorem Ae8:(Tryz.prog.mayEnter)=true:=oe
theorem Ae9:((Rows.verdictMattersIsWhatChangesUptoRow.lifted==Tryz.prog.liftsFinal))=true:=oe
theorem AeA:((Tryz.prog.make==some Rows.verdictMattersIsWhatChangesUptoRow.make))=true:=oe
theorem AeB:((Rows.verdictMattersIsWhatChangesUptoRow.kinds==(if Rows.verdictMattersIsWhatChangesUptoRow.domain.isEmpty then []else Tryz.f4.params.toList.map λt=>match Tryz.prog.underlying t with|some (.int k)=>some k|_=>none)))=true:=oe
theorem AeC:((Rows.verdictMattersIsWhatChangesUptoRow.pinned==Rows.verdictMattersIsWhatChangesUptoRow.pinnedBy))=true:=oe
theorem AeD:((Rows.verdictMattersIsWhatChangesUptoRow.veiled==(Tryz.f4.params.toList++(Rows.OpenSpec.upto Rows.verdictMattersIsWhatChangesSpec).bare.plain.varTypes Tryz.prog++Tryz.f4.resultTypes.toList).any (Tryz.prog.veiledRec ·)))=true:=oe
theorem AeE:(Rows.verdictMattersIsWhatChangesUptoRow.veiledFits Tryz.prog Tryz.f4.params.toList (Tryz.f4.params.toList++(Rows.OpenSpec.upto Rows.verdictMattersIsWhatChangesSpec).bare.plain.varTypes Tryz.prog++Tryz.f4.resultTypes.toList))=true:=oe
theorem an{a b:Bool}(h:a=true)(k:b=true):(a&&b)=true:=by rw[h,k];rfl
theorem AeF:joinedFacts Tryz.prog 4 Tryz.f4 (Rows.OpenSpec.upto Rows.verdictMattersIsWhatChangesSpec).bare Rows.verdictMattersIsWhatChangesUptoRow=true:=an (an (an (an (an (an (an (an (an (an (an (an (an (an (an (an (an (an (an (an (an (an (an (an (an (an (an (an (an (an (an (AdK) AdL) AdM) AdN) AdO) AdP) AdQ) AdR) AdS) AdT) AdU) AdV) AdW) AdX) AdY) AdZ) Ad_) Ae0) Ae1) Ae2) Ae3) Ae4) Ae5) Ae6) Ae7) Ae8) Ae9) AeA) AeB) AeC) AeD) AeE
theorem named:Tryz.prog.funcNamed Rows.verdictMattersIsWhatChangesUptoRow.func=some 4:=oe
theorem AeG:Tryz.f4.isInstance Tryz.prog Rows.verdictMattersIsWhatChangesUptoRow.origin Rows.verdictMattersIsWhatChangesUptoRow.targs:=of_decide_eq_true oe
theorem AeH:Tryz.f4.isWrapper Tryz.prog Rows.verdictMattersIsWhatChangesUptoRow.wrapper Rows.verdictMattersIsWhatChangesUptoRow.mainSum:=by unfold Func.isWrapper;first|(rw[if_pos (by decide +kernel)];kernel_rfl)|(rw[if_neg (by decide +kernel)];exact⟨rfl,rfl⟩)
end Go.Proofs.YtkmlfnhigaoplaaGreatDoor.matters
