/-
  PROVED: called with any task of bulk at most 1048576 and any number, the law PlanBestIsLeast returns true, and all that there was stays as it was: the row's tied card of the second form.
-/
import Derived.Test.YtlljgbmoloklgaaGreatDoorBF
import Derived.Test.YtlljgbmoloklgaaGreatDoorBCJ
set_option linter.unusedVariables false
set_option linter.unusedSimpArgs false
set_option linter.unusedSectionVars false
set_option maxRecDepth 100000
namespace Go.Proofs.YtlljgbmoloklgaaGreatDoor.best
open Go.ChangeShapes Go.WideShapes Go.ChangeAt Go.ChangeMaps Go.RowKit Go.Ev Go.Lib
theorem ASu:Rows.PlanBestIsLeastUptoSaid:=
 OpenClaim.holds_of_cond 5 Tryz.f5 rfl rfl rfl rfl rfl rfl rfl ⟨rfl,rfl,rfl,rfl,rfl⟩ rfl rfl rfl rfl rfl named Tryz.func5 ASr ASs ASt
  (fun os started H enc _ F=>by rw[OpenClaim.pre_eq_preRow];exact lifted os started H enc F)
theorem plain(f:FuncId)(fn:Func)(hf:Tryz.pinned.checked.prog.funcNamed Rows.planBestIsLeastUptoRow.func=some f)(hfn:Tryz.pinned.checked.prog.funcs[f]?=some fn):
 true=Tryz.pinned.checked.prog.looks []/\∀(j:Nat) t,fn.params[j]?=some t->Tryz.pinned.checked.prog.wantsStandIn t=false:=by
 obtain rfl:f=5:=Option.some.inj ((show Tryz.prog.funcNamed Rows.planBestIsLeastUptoRow.func=some 5 by kernel_rfl).symm.trans hf)|>.symm;obtain rfl:fn=Tryz.f5:=(Option.some.inj (Tryz.func5.symm.trans hfn)).symm;refine⟨by kernel_rfl,fun j t ht=>?_⟩;rw[Tryz.params5]at ht;have hm:t∈[34,3]:=by simpa using Array.mem_of_getElem? ht
 have hall:([34,3].all fun u=>!Tryz.prog.wantsStandIn u)=true:=by kernel_rfl
 exact(show Tryz.prog.wantsStandIn t=false by simpa using List.all_eq_true.1 hall t hm)
theorem ASv{P:Program}(h:P.funcs.toList.all (fun fn=>!fn.goes)=true)(c:OpenClaim):false=c.goesBy P:=by
 have hf:∀fn∈P.funcs.toList,fn.goes=false:=fun fn hm=>by simpa using List.all_eq_true.1 h fn hm
 have hg:∀f,P.goes f=false:=by
  intro f;unfold Program.goes;rw[Bool.or_eq_false_iff];refine⟨?_,?_⟩
  ·rw[List.any_eq_false];intro g _;cases hgf:P.funcs[g]? with
   |none=>simp
   |some fn=>simp[hf fn (Array.mem_toList_iff.2 (Array.mem_of_getElem? hgf))]
  ·rw[Bool.and_eq_false_iff];refine .inr ?_;rw[Array.any_eq_false];intro i hi;simp[hf _ (Array.mem_toList_iff.2 (Array.getElem_mem hi))]
 have ha:P.goesFrom c.func=false:=by
  unfold Program.goesFrom;cases P.funcNamed c.func with
  |none=>rfl
  |some f=>exact hg f
 have hi:P.inits.toList.any P.goes=false:=by
  rw[List.any_eq_false];intro f _;simp[hg f]
 unfold OpenClaim.goesBy Program.goesAt;rw[ha,Bool.false_or];cases c.start<;>first|rfl|exact hi.symm
theorem ASw:Tryz.prog.funcs.toList.all (fun fn=>!fn.goes)=true:=by kernel_rfl
theorem card:Rows.PlanBestIsLeastUptoCardSaid:=
 Claim7.holds_tied_plain_at .later [] _ _ _ _ ASu (fun _ h=>by cases h) (by kernel_rfl) (fun _ h=>by cases h) planBestIsLeastUpto_row_tie rfl ⟨rfl,rfl⟩ (by kernel_rfl) rfl plain (ASv ASw _)
#print axioms card
end Go.Proofs.YtlljgbmoloklgaaGreatDoor.best
