/-
  PROVED: called with any string, any int and any uint8, the law AdvisoryWorseIsNotLess returns true, and all that there was stays as it was: the row's tied card.
  CONDITIONS: those of the row alone (its listed variables hold what the row lists; the card ties them to the program's text). No other condition.
-/
import Derived.Test.YtncjpbogjfibfaaGreatDoorEvJ
import Derived.Test.YtncjpbogjfibfaaGreatDoorT1H
import Derived.Test.YtncjpbogjfibfaaGreatDoorL2
import Derived.Test.YtncjpbogjfibfaaGreatDoorCards
import Derived.Test.YtncjpbogjfibfaaGreatDoorTie
import Derived.WalkKit
import Derived.ProofKit
import Derived.ChangeMaps5
set_option linter.unusedVariables false
set_option linter.unusedSimpArgs false
namespace Go.Proofs.YtncjpbogjfibfaaGreatDoor.worse
open Go.ChangeShapes Go.WideShapes Go.ChangeAt Go.ChangeMaps Go.RowKit Go.Ev
set_option maxRecDepth 100000

theorem own : ownKnob Tryz.prog.godebug = none := by kernel_rfl

theorem walk (W : World) (x0 : ByteArray) (x1 : Int) (x2 : Int) (w0 : x0.data.toList.length ≤ reachBytes) (w1 : (Lit.int .i64 x1).wf = true) (w2 : (Lit.int .u8 x2).wf = true) :
    Calls Tryz.prog 3 #[.string x0, .int .i64 x1, .int .u8 x2] W fun e w' => e = .returned (.bool true) ∧ Same W w' :=
  (Pv.f3_ok.2 W im0 (x0.data.toList, x1, x2) [.string x0, .int .i64 x1, .int .u8 x2] [] (mem0 W) ⟨_, _, [], [], rfl, rfl, ⟨arg_str x0 w0, rfl⟩, _, _, [], [], rfl, rfl, ⟨arg_int w1, rfl⟩, _, rfl, arg_int w2, rfl⟩ .nil true (Pv.worse_law _ _ _ (int_wf w2))).mono
    fun _ _ ⟨_, _, _, _, he, _, hr, ha, hsh, _⟩ => bool_end he hr ha hsh

theorem contract (H : Type) (enc : TypeId × Value → H) (W : World) (base : Nat) (args : Array Value) (ds gs : List (DataW H)) (before : List MemPlace)
    (hval : ∀ (j : Nat) t v, Tryz.f3.params[j]? = some t → args[j]? = some v → Value.okWide Tryz.prog W .any base t v)
    (hW : DataW.Whole enc Tryz.prog Tryz.f3.params.toList Rows.advisoryWorseIsNotLessSpec.vars false W args.toList ds gs before)
    (hz : (DataW.weightsEach Tryz.prog (Tryz.f3.params.toList ++ (OpenSpec.ofChange Rows.advisoryWorseIsNotLessSpec).bare.plain.varTypes Tryz.prog) (ds ++ gs)).all (· ≤ reachBytes) = true) :
    Calls Tryz.prog 3 args W fun e W' => ∃ v, e = .returned v ∧ Rows.advisoryWorseIsNotLessSpec.post enc Tryz.prog Tryz.f3 false true false false W args v W' := by
  have hW' := hW
  obtain ⟨p, q, hA0, hV, rfl, hfz, hnd⟩ := hW
  have hA : DataW.TrodAll enc Tryz.prog W 0 (fun _ => true) true Tryz.f3.params.toList args.toList ds p := hA0
  rw [Tryz.params3] at hA hval
  obtain ⟨v0, vs0, d0, ds0, p0, q0, e0, rfl, rfl, h0, r0⟩ := trodAll_cons hA
  obtain ⟨v1, vs1, d1, ds1, p1, q1, e1, rfl, rfl, h1, r1⟩ := trodAll_cons r0
  obtain ⟨v2, vs2, d2, ds2, p2, q2, e2, rfl, rfl, h2, r2⟩ := trodAll_cons r1
  subst e2
  subst e1
  obtain ⟨rfl, rfl, rfl⟩ := trodAll_nil r2
  obtain rfl : args = #[v0, v1, v2] := by cases args; simp_all
  obtain ⟨rfl, rfl⟩ := trodVars_none hV
  obtain ⟨x0, rfl, rfl, rfl, u0⟩ := open_string Tryz.underlying9 (hval 0 9 v0 rfl rfl) h0
  obtain ⟨x1, rfl, rfl, rfl, u1⟩ := open_int Tryz.underlying3 (hval 1 3 v1 rfl rfl) h1
  obtain ⟨x2, rfl, rfl, rfl, u2⟩ := open_int Tryz.underlying5 (hval 2 5 v2 rfl rfl) h2
  have z0 := sized_string hz (j := 0) rfl rfl
  clear hA0 hz
  simp only [List.append_nil] at hW'
  refine (walk W x0 x1 x2 z0 u1 u2).mono fun e W' ⟨he, hg⟩ => ?_
  subst he
  exact ⟨_, rfl, post_same (pa := []) (pv := []) hW' (fun _ _ _ => trodAll_cons_mk (shut_bool Tryz.underlying4 _) trodAll_mk0)
    (fun _ _ => trodAll_cons_mk (shut_string Tryz.underlying9 u0) (trodAll_cons_mk (shut_int Tryz.underlying3 u1) (trodAll_cons_mk (shut_int Tryz.underlying5 u2) trodAll_mk0))) (fun _ _ => rfl) rfl (hg.kept _)⟩

theorem laid_met (os : Os) : laidMet Tryz.prog Rows.advisoryWorseIsNotLessRow.laid ((World.laidAll Tryz.prog os Rows.advisoryWorseIsNotLessRow.laid).forCall (fun _ _ => 0) ⟨#[], #[.string ⟨#[]⟩, .int .i64 0, .int .u8 0], []⟩).memory :=
  laidMet_laidAll _ (by kernel_rfl) (by kernel_rfl)
theorem shaped (os : Os) : ((World.laidAll Tryz.prog os Rows.advisoryWorseIsNotLessRow.laid).forCall (fun _ _ => 0) ⟨#[], #[.string ⟨#[]⟩, .int .i64 0, .int .u8 0], []⟩).Shaped Tryz.prog :=
  World.shaped_of_ZipB (by kernel_rfl) (by kernel_rfl)
theorem reads (os : Os) {H : Type} (enc : TypeId × Value → H) : ∃ places, DataW.whole enc Tryz.prog ((World.laidAll Tryz.prog os Rows.advisoryWorseIsNotLessRow.laid).forCall (fun _ _ => 0) ⟨#[], #[.string ⟨#[]⟩, .int .i64 0, .int .u8 0], []⟩).memory Tryz.f3.params.toList Rows.advisoryWorseIsNotLessSpec.vars false #[Value.string ⟨#[]⟩, .int .i64 0, .int .u8 0].toList 8 = some ([.lit (.string []), .lit (.int .i64 0), .lit (.int .u8 0)], [], places) :=
  ⟨[], by kernel_rfl⟩

theorem lifted (os : Os) (started : os.Started) (H : Type) (enc : TypeId × Value → H) (F : Stop.Interp) :
    ReturnsInHanded {} Tryz.checked os 3 .any ((OpenSpec.ofChange Rows.advisoryWorseIsNotLessSpec).preRow enc Tryz.prog Tryz.f3 Rows.advisoryWorseIsNotLessRow.domain false Rows.advisoryWorseIsNotLessRow.laid) (((OpenSpec.ofChange Rows.advisoryWorseIsNotLessSpec).at F).post enc Tryz.prog Tryz.f3 false true false false) := by
  obtain ⟨places, hx⟩ := reads os enc
  refine returnsInHanded_of_row (C := Tryz.checked) (s := OpenSpec.ofChange Rows.advisoryWorseIsNotLessSpec) own started (by kernel_rfl) Tryz.func3
    (witness_zip (enc := enc) (C := Tryz.checked) (World.laidAll Tryz.prog os Rows.advisoryWorseIsNotLessRow.laid) #[.string ⟨#[]⟩, .int .i64 0, .int .u8 0] (World.laidAll_os _ _ _) (shaped os) (by kernel_rfl)
      (OpenSpec.preRow_of_cond 8 hx (by kernel_rfl) (fun k hk => by cases hk) (by kernel_rfl) (by rw [MakeChecks.laidMetH_plain _ _ _ (by kernel_rfl)]; exact laid_met os))) ?_
  intro W base args ds gs before hval hW _ _ hz _ _ _
  exact contract H enc W base args ds gs before hval hW hz

theorem said : Rows.AdvisoryWorseIsNotLessSaid :=
  OpenClaim.holds_of_cond 3 Tryz.f3 rfl rfl rfl rfl rfl rfl rfl ⟨rfl, rfl, rfl, rfl, rfl⟩ rfl rfl rfl rfl rfl (by kernel_rfl) Tryz.func3 (by kernel_rfl)
    (of_decide_eq_true (by kernel_rfl)) (by unfold Func.isWrapper; first | (rw [if_pos (by decide +kernel)]; kernel_rfl) | (rw [if_neg (by decide +kernel)]; exact ⟨rfl, rfl⟩))
    (fun os started H enc _ F => by rw [OpenClaim.pre_eq_preRow]; exact lifted os started H enc F)

theorem plain (f : FuncId) (fn : Func) (hf : Tryz.pinned.checked.prog.funcNamed Rows.advisoryWorseIsNotLessRow.func = some f) (hfn : Tryz.pinned.checked.prog.funcs[f]? = some fn) :
    true = Tryz.pinned.checked.prog.looks [] ∧ ∀ (j : Nat) t, fn.params[j]? = some t → Tryz.pinned.checked.prog.wantsStandIn t = false := by
  obtain rfl : f = 3 := Option.some.inj ((show Tryz.prog.funcNamed Rows.advisoryWorseIsNotLessRow.func = some 3 by kernel_rfl).symm.trans hf) |>.symm
  obtain rfl : fn = Tryz.f3 := (Option.some.inj (Tryz.func3.symm.trans hfn)).symm
  refine ⟨by kernel_rfl, fun j t ht => ?_⟩
  rw [Tryz.params3] at ht
  have hm : t ∈ [9, 3, 5] := by simpa using Array.mem_of_getElem? ht
  have hall : ([9, 3, 5].all fun u => !Tryz.prog.wantsStandIn u) = true := by kernel_rfl
  exact (show Tryz.prog.wantsStandIn t = false by simpa using List.all_eq_true.1 hall t hm)

theorem card : Rows.AdvisoryWorseIsNotLessCardSaid :=
  Claim7.holds_tied_plain_at .later [] _ _ _ _ said (fun _ h => by cases h) (by kernel_rfl) (fun _ h => by cases h) advisoryWorseIsNotLess_row_tie rfl ⟨rfl, rfl⟩ (by kernel_rfl) rfl plain (by kernel_rfl)
end Go.Proofs.YtncjpbogjfibfaaGreatDoor.worse
