/-
  THE ROW's CLOSED FACTS, one by one.
-/
import Derived.Test.YthepbdhoogphdaaGreatDoorF
set_option linter.unusedVariables false
set_option linter.unusedSimpArgs false
set_option linter.unusedSectionVars false
set_option maxRecDepth 100000
namespace Go.Proofs.YthepbdhoogphdaaGreatDoor.fix
open Go.ChangeShapes Go.WideShapes Go.ChangeAt Go.ChangeMaps Go.RowKit Go.Ev Go.Lib
theorem fact1 : (Rows.advisoryFixIsSafeUptoRow.wf (OpenSpec.ofChange (Rows.OpenSpec.upto Rows.advisoryFixIsSafeSpec).bare)) = true := by kernel_rfl
theorem fact2 : (laidOutB Tryz.prog) = true := by kernel_rfl
theorem fact3 : (mapsRowed Tryz.prog) = true := by kernel_rfl
theorem fact4 : (Tryz.f4.params.all (Tryz.prog.readableRec ·)) = true := by kernel_rfl
theorem fact5 : (namedTie Tryz.prog Rows.advisoryFixIsSafeUptoRow.named (Rows.OpenSpec.upto Rows.advisoryFixIsSafeSpec).bare.vars) = true := by kernel_rfl
theorem fact6 : ((Rows.advisoryFixIsSafeUptoRow.stops == [])) = true := by kernel_rfl
theorem fact7 : ((Tryz.prog.stops == [])) = true := by kernel_rfl
theorem fact8 : ((Rows.advisoryFixIsSafeUptoRow.knobs == [])) = true := by kernel_rfl
theorem fact9 : ((Tryz.prog.stopKnobs == [])) = true := by kernel_rfl
theorem ucct_ : ((Rows.advisoryFixIsSafeUptoRow.inPlace == Tryz.prog.inPlace 4)) = true := by kernel_rfl
theorem uccu_ : ((Rows.advisoryFixIsSafeUptoRow.unfollowed == Tryz.prog.unfollowed 4)) = true := by kernel_rfl
theorem uccv_ : ((Rows.advisoryFixIsSafeUptoRow.recurses == Tryz.prog.recurses 4)) = true := by kernel_rfl
theorem uccw_ : ((Rows.advisoryFixIsSafeUptoRow.named == Tryz.prog.varsNamed 4)) = true := by kernel_rfl
theorem uccx_ : ((Rows.advisoryFixIsSafeUptoRow.maps == (Tryz.f4.params.toList ++ (Rows.OpenSpec.upto Rows.advisoryFixIsSafeSpec).bare.plain.varTypes Tryz.prog).any (Tryz.prog.mapsRec ·))) = true := by kernel_rfl
theorem uccy_ : ((Rows.advisoryFixIsSafeUptoRow.ifaces == (Tryz.f4.params.toList ++ (Rows.OpenSpec.upto Rows.advisoryFixIsSafeSpec).bare.plain.varTypes Tryz.prog).any (Tryz.prog.ifacesRec ·))) = true := by kernel_rfl
theorem uccz_ : ((Rows.advisoryFixIsSafeUptoRow.mapsOut == Tryz.prog.mapsAmong Tryz.f4.resultTypes.toList)) = true := by kernel_rfl
theorem ucc0_ : ((Rows.advisoryFixIsSafeUptoRow.loops == (Tryz.f4.params.toList ++ (Rows.OpenSpec.upto Rows.advisoryFixIsSafeSpec).bare.plain.varTypes Tryz.prog).any (Tryz.prog.loopsFrom ·))) = true := by kernel_rfl
theorem ucc1_ : ((Rows.advisoryFixIsSafeUptoRow.wideKeys == (Tryz.f4.params.toList ++ (Rows.OpenSpec.upto Rows.advisoryFixIsSafeSpec).bare.plain.varTypes Tryz.prog ++ Tryz.f4.resultTypes.toList).any (Tryz.prog.wideKeysFrom ·))) = true := by kernel_rfl
theorem ucc2_ : ((Rows.OpenSpec.upto Rows.advisoryFixIsSafeSpec).bare.vars.all (Tryz.prog.varReadable ·)) = true := by kernel_rfl
theorem ucc3_ : (Tryz.f4.resultTypes.all (fun t => Tryz.prog.readableRec t && decide (t < Tryz.prog.types.size))) = true := by kernel_rfl
theorem ucc4_ : ((Rows.advisoryFixIsSafeUptoRow.ifacesOut == Tryz.f4.resultTypes.toList.any (Tryz.prog.ifacesRec ·))) = true := by kernel_rfl
theorem ucc5_ : ((Rows.advisoryFixIsSafeUptoRow.loopsOut == Tryz.f4.resultTypes.toList.any (Tryz.prog.loopsFrom ·))) = true := by kernel_rfl
theorem ucc6_ : ((Rows.advisoryFixIsSafeUptoRow.plainKeys == Tryz.prog.plainKeys)) = true := by kernel_rfl
theorem ucc7_ : (Rows.advisoryFixIsSafeUptoRow.shortTexts.isNone) = true := by kernel_rfl
theorem ucc8_ : (Tryz.prog.stopsHeard) = true := by kernel_rfl
theorem ucc9_ : (Tryz.prog.mayEnter) = true := by kernel_rfl
theorem ucda_ : ((Rows.advisoryFixIsSafeUptoRow.lifted == Tryz.prog.liftsFinal)) = true := by kernel_rfl
theorem ucdb_ : ((Tryz.prog.make == some Rows.advisoryFixIsSafeUptoRow.make)) = true := by kernel_rfl
theorem ucdc_ : ((Rows.advisoryFixIsSafeUptoRow.kinds == (if Rows.advisoryFixIsSafeUptoRow.domain.isEmpty then [] else Tryz.f4.params.toList.map fun t => match Tryz.prog.underlying t with | some (.int k) => some k | _ => none))) = true := by kernel_rfl
theorem ucdd_ : ((Rows.advisoryFixIsSafeUptoRow.pinned == Rows.advisoryFixIsSafeUptoRow.pinnedBy)) = true := by kernel_rfl
theorem ucde_ : ((Rows.advisoryFixIsSafeUptoRow.veiled == (Tryz.f4.params.toList ++ (Rows.OpenSpec.upto Rows.advisoryFixIsSafeSpec).bare.plain.varTypes Tryz.prog ++ Tryz.f4.resultTypes.toList).any (Tryz.prog.veiledRec ·))) = true := by kernel_rfl
theorem ucdf_ : (Rows.advisoryFixIsSafeUptoRow.veiledFits Tryz.prog Tryz.f4.params.toList (Tryz.f4.params.toList ++ (Rows.OpenSpec.upto Rows.advisoryFixIsSafeSpec).bare.plain.varTypes Tryz.prog ++ Tryz.f4.resultTypes.toList)) = true := by kernel_rfl
theorem an {a b : Bool} (h : a = true) (k : b = true) : (a && b) = true := by rw [h, k]; rfl
theorem ucdg_ : joinedFacts Tryz.prog 4 Tryz.f4 (Rows.OpenSpec.upto Rows.advisoryFixIsSafeSpec).bare Rows.advisoryFixIsSafeUptoRow = true := an (an (an (an (an (an (an (an (an (an (an (an (an (an (an (an (an (an (an (an (an (an (an (an (an (an (an (an (an (an (an (fact1) fact2) fact3) fact4) fact5) fact6) fact7) fact8) fact9) ucct_) uccu_) uccv_) uccw_) uccx_) uccy_) uccz_) ucc0_) ucc1_) ucc2_) ucc3_) ucc4_) ucc5_) ucc6_) ucc7_) ucc8_) ucc9_) ucda_) ucdb_) ucdc_) ucdd_) ucde_) ucdf_
theorem named : Tryz.prog.funcNamed Rows.advisoryFixIsSafeUptoRow.func = some 4 := by kernel_rfl
theorem ub8o_ : Tryz.f4.isInstance Tryz.prog Rows.advisoryFixIsSafeUptoRow.origin Rows.advisoryFixIsSafeUptoRow.targs := of_decide_eq_true (by kernel_rfl)
theorem ucat_ : Tryz.f4.isWrapper Tryz.prog Rows.advisoryFixIsSafeUptoRow.wrapper Rows.advisoryFixIsSafeUptoRow.mainSum := by unfold Func.isWrapper; first | (rw [if_pos (by decide +kernel)]; kernel_rfl) | (rw [if_neg (by decide +kernel)]; exact ⟨rfl, rfl⟩)
end Go.Proofs.YthepbdhoogphdaaGreatDoor.fix
