/-
  PROVED: called with any product of bulk at most 1048576, the law TopWitnessesCheck returns true, and all that there was stays as it was: the row's tied card of the second form.
-/
import Derived.Test.YtkmeffadhdmdhaaGreatDoorCJ
set_option linter.all false
set_option maxRecDepth 100000
namespace Go.Proofs.YtkmeffadhdmdhaaGreatDoor.witness
open Go.ChangeShapes Go.WideShapes Go.ChangeAt Go.ChangeMaps Go.RowKit Go.Ev Go.Lib
theorem AhE:Rows.TopWitnessesCheckUptoSaid:=
 OpenClaim.holds_of_cond 3 Tryz.f3 rfl rfl rfl rfl rfl rfl rfl ⟨rfl,rfl,rfl,rfl,rfl⟩ rfl rfl rfl rfl rfl named Tryz.func3 AhB AhC AhD
  (λos started H enc _ F=>by rw[OpenClaim.pre_eq_preRow];exact lifted os started H enc F)
theorem plain(f:FuncId)(fn:Func)(hf:Tryz.pinned.checked.prog.funcNamed Rows.topWitnessesCheckUptoRow.func=some f)(hfn:Tryz.pinned.checked.prog.funcs[f]?=some fn):
 true=Tryz.pinned.checked.prog.looks []/\∀(j:Nat) t,fn.params[j]?=some t->Tryz.pinned.checked.prog.wantsStandIn t=false:=by
 obtain rfl:f=3:=Option.some.inj ((show Tryz.prog.funcNamed Rows.topWitnessesCheckUptoRow.func=some 3 by kernel_rfl).symm.trans hf)|>.symm;obtain rfl:fn=Tryz.f3:=(Option.some.inj (Tryz.func3.symm.trans hfn)).symm;refine⟨oe,λj t ht=>?_⟩;rw[Tryz.params3]at ht;have hm:t∈[34]:=by simpa using Array.mem_of_getElem? ht
 have hall:([34].all λu=>!Tryz.prog.wantsStandIn u)=true:=oe;exact(show Tryz.prog.wantsStandIn t=false by simpa using List.all_eq_true.1 hall t hm)
theorem AhF{P:Program}(h:P.funcs.toList.all (λfn=>!fn.goes)=true)(c:OpenClaim):false=c.goesBy P:=by
 have hf:∀fn∈P.funcs.toList,fn.goes=false:=λfn hm=>by simpa using List.all_eq_true.1 h fn hm
 have hg:∀f,P.goes f=false:=by
  intro f;unfold Program.goes;rw[Bool.or_eq_false_iff];refine⟨?_,?_⟩
  .rw[List.any_eq_false];intro g _;cases hgf:P.funcs[g]? with
   |none=>simp
   |some fn=>simp[hf fn (Array.mem_toList_iff.2 (Array.mem_of_getElem? hgf))]
  .rw[Bool.and_eq_false_iff];refine .inr ?_;rw[Array.any_eq_false];intro i hi;simp[hf _ (Array.mem_toList_iff.2 (Array.getElem_mem hi))]
 have ha:P.goesFrom c.func=false:=by
  unfold Program.goesFrom;cases P.funcNamed c.func with
  |none=>rfl
  |some f=>exact hg f
 have hi:P.inits.toList.any P.goes=false:=by rw[List.any_eq_false];intro f _;simp[hg f]
 unfold OpenClaim.goesBy Program.goesAt;rw[ha,Bool.false_or];cases c.start<;>first|rfl|exact hi.symm
theorem AhG:Tryz.prog.funcs.toList.all (λfn=>!fn.goes)=true:=oe
theorem card:Rows.TopWitnessesCheckUptoCardSaid:=
 Claim7.holds_tied_plain_at .later [] _ _ _ _ AhE (λ_ h=>om) oe (λ_ h=>om) topWitnessesCheckUpto_row_tie rfl ⟨rfl,rfl⟩ oe rfl plain (AhF AhG _)
#print axioms card
end Go.Proofs.YtkmeffadhdmdhaaGreatDoor.witness
