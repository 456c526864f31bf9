/-
  THE ROW's CLOSED FACTS, one by one.
-/
import Derived.Test.YthmppjbjlbaahaaGreatDoorF
set_option linter.unusedVariables false
set_option linter.unusedSimpArgs false
set_option linter.unusedSectionVars false
set_option maxRecDepth 100000
namespace Go.Proofs.YthmppjbjlbaahaaGreatDoor.deltas
open Go.ChangeShapes Go.WideShapes Go.ChangeAt Go.ChangeMaps Go.RowKit Go.Ev Go.Lib
theorem fact1 : (Rows.advisoryDeltasAddUpUptoRow.wf (OpenSpec.ofChange (Rows.OpenSpec.upto Rows.advisoryDeltasAddUpSpec).bare)) = true := by kernel_rfl
theorem fact2 : (laidOutB Tryz.prog) = true := by kernel_rfl
theorem fact3 : (mapsRowed Tryz.prog) = true := by kernel_rfl
theorem fact4 : (Tryz.f4.params.all (Tryz.prog.readableRec ·)) = true := by kernel_rfl
theorem fact5 : (namedTie Tryz.prog Rows.advisoryDeltasAddUpUptoRow.named (Rows.OpenSpec.upto Rows.advisoryDeltasAddUpSpec).bare.vars) = true := by kernel_rfl
theorem fact6 : ((Rows.advisoryDeltasAddUpUptoRow.stops == [])) = true := by kernel_rfl
theorem fact7 : ((Tryz.prog.stops == [])) = true := by kernel_rfl
theorem fact8 : ((Rows.advisoryDeltasAddUpUptoRow.knobs == [])) = true := by kernel_rfl
theorem fact9 : ((Tryz.prog.stopKnobs == [])) = true := by kernel_rfl
theorem ucd4_ : ((Rows.advisoryDeltasAddUpUptoRow.inPlace == Tryz.prog.inPlace 4)) = true := by kernel_rfl
theorem ucd5_ : ((Rows.advisoryDeltasAddUpUptoRow.unfollowed == Tryz.prog.unfollowed 4)) = true := by kernel_rfl
theorem ucd6_ : ((Rows.advisoryDeltasAddUpUptoRow.recurses == Tryz.prog.recurses 4)) = true := by kernel_rfl
theorem ucd7_ : ((Rows.advisoryDeltasAddUpUptoRow.named == Tryz.prog.varsNamed 4)) = true := by kernel_rfl
theorem ucd8_ : ((Rows.advisoryDeltasAddUpUptoRow.maps == (Tryz.f4.params.toList ++ (Rows.OpenSpec.upto Rows.advisoryDeltasAddUpSpec).bare.plain.varTypes Tryz.prog).any (Tryz.prog.mapsRec ·))) = true := by kernel_rfl
theorem ucd9_ : ((Rows.advisoryDeltasAddUpUptoRow.ifaces == (Tryz.f4.params.toList ++ (Rows.OpenSpec.upto Rows.advisoryDeltasAddUpSpec).bare.plain.varTypes Tryz.prog).any (Tryz.prog.ifacesRec ·))) = true := by kernel_rfl
theorem ucea_ : ((Rows.advisoryDeltasAddUpUptoRow.mapsOut == Tryz.prog.mapsAmong Tryz.f4.resultTypes.toList)) = true := by kernel_rfl
theorem uceb_ : ((Rows.advisoryDeltasAddUpUptoRow.loops == (Tryz.f4.params.toList ++ (Rows.OpenSpec.upto Rows.advisoryDeltasAddUpSpec).bare.plain.varTypes Tryz.prog).any (Tryz.prog.loopsFrom ·))) = true := by kernel_rfl
theorem ucec_ : ((Rows.advisoryDeltasAddUpUptoRow.wideKeys == (Tryz.f4.params.toList ++ (Rows.OpenSpec.upto Rows.advisoryDeltasAddUpSpec).bare.plain.varTypes Tryz.prog ++ Tryz.f4.resultTypes.toList).any (Tryz.prog.wideKeysFrom ·))) = true := by kernel_rfl
theorem uced_ : ((Rows.OpenSpec.upto Rows.advisoryDeltasAddUpSpec).bare.vars.all (Tryz.prog.varReadable ·)) = true := by kernel_rfl
theorem ucee_ : (Tryz.f4.resultTypes.all (fun t => Tryz.prog.readableRec t && decide (t < Tryz.prog.types.size))) = true := by kernel_rfl
theorem ucef_ : ((Rows.advisoryDeltasAddUpUptoRow.ifacesOut == Tryz.f4.resultTypes.toList.any (Tryz.prog.ifacesRec ·))) = true := by kernel_rfl
theorem uceg_ : ((Rows.advisoryDeltasAddUpUptoRow.loopsOut == Tryz.f4.resultTypes.toList.any (Tryz.prog.loopsFrom ·))) = true := by kernel_rfl
theorem uceh_ : ((Rows.advisoryDeltasAddUpUptoRow.plainKeys == Tryz.prog.plainKeys)) = true := by kernel_rfl
theorem ucei_ : (Rows.advisoryDeltasAddUpUptoRow.shortTexts.isNone) = true := by kernel_rfl
theorem ucej_ : (Tryz.prog.stopsHeard) = true := by kernel_rfl
theorem ucek_ : (Tryz.prog.mayEnter) = true := by kernel_rfl
theorem ucel_ : ((Rows.advisoryDeltasAddUpUptoRow.lifted == Tryz.prog.liftsFinal)) = true := by kernel_rfl
theorem ucem_ : ((Tryz.prog.make == some Rows.advisoryDeltasAddUpUptoRow.make)) = true := by kernel_rfl
theorem ucen_ : ((Rows.advisoryDeltasAddUpUptoRow.kinds == (if Rows.advisoryDeltasAddUpUptoRow.domain.isEmpty then [] else Tryz.f4.params.toList.map fun t => match Tryz.prog.underlying t with | some (.int k) => some k | _ => none))) = true := by kernel_rfl
theorem uceo_ : ((Rows.advisoryDeltasAddUpUptoRow.pinned == Rows.advisoryDeltasAddUpUptoRow.pinnedBy)) = true := by kernel_rfl
theorem ucep_ : ((Rows.advisoryDeltasAddUpUptoRow.veiled == (Tryz.f4.params.toList ++ (Rows.OpenSpec.upto Rows.advisoryDeltasAddUpSpec).bare.plain.varTypes Tryz.prog ++ Tryz.f4.resultTypes.toList).any (Tryz.prog.veiledRec ·))) = true := by kernel_rfl
theorem uceq_ : (Rows.advisoryDeltasAddUpUptoRow.veiledFits Tryz.prog Tryz.f4.params.toList (Tryz.f4.params.toList ++ (Rows.OpenSpec.upto Rows.advisoryDeltasAddUpSpec).bare.plain.varTypes Tryz.prog ++ Tryz.f4.resultTypes.toList)) = true := by kernel_rfl
theorem an {a b : Bool} (h : a = true) (k : b = true) : (a && b) = true := by rw [h, k]; rfl
theorem ucer_ : joinedFacts Tryz.prog 4 Tryz.f4 (Rows.OpenSpec.upto Rows.advisoryDeltasAddUpSpec).bare Rows.advisoryDeltasAddUpUptoRow = true := an (an (an (an (an (an (an (an (an (an (an (an (an (an (an (an (an (an (an (an (an (an (an (an (an (an (an (an (an (an (an (fact1) fact2) fact3) fact4) fact5) fact6) fact7) fact8) fact9) ucd4_) ucd5_) ucd6_) ucd7_) ucd8_) ucd9_) ucea_) uceb_) ucec_) uced_) ucee_) ucef_) uceg_) uceh_) ucei_) ucej_) ucek_) ucel_) ucem_) ucen_) uceo_) ucep_) uceq_
theorem named : Tryz.prog.funcNamed Rows.advisoryDeltasAddUpUptoRow.func = some 4 := by kernel_rfl
theorem ub9p_ : Tryz.f4.isInstance Tryz.prog Rows.advisoryDeltasAddUpUptoRow.origin Rows.advisoryDeltasAddUpUptoRow.targs := of_decide_eq_true (by kernel_rfl)
theorem ucbx_ : Tryz.f4.isWrapper Tryz.prog Rows.advisoryDeltasAddUpUptoRow.wrapper Rows.advisoryDeltasAddUpUptoRow.mainSum := by unfold Func.isWrapper; first | (rw [if_pos (by decide +kernel)]; kernel_rfl) | (rw [if_neg (by decide +kernel)]; exact ⟨rfl, rfl⟩)
end Go.Proofs.YthmppjbjlbaahaaGreatDoor.deltas
