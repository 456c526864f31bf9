/-
  WHAT THE LISTED VARIABLES HOLD. FOR: called with any task of bulk at most 1048576, the law TopPlansSolve returns true, and all that there was stays as it was: the row's tied card of the second form.; THE CALL OF THE LAW, from what comes in to what goes out.; AN INPUT THAT FITS.; THE ROW's STEP.
-/
import Derived.Test.YtloinlpkjpmnbaaGreatDoorK
import Derived.Test.YtloinlpkjpmnbaaGreatDoorH
import Derived.Lib.LaidCase
import Derived.Lib.LaidU8T
import Derived.PinnedBridge
import Derived.LaidSub
import Derived.Test.YtloinlpkjpmnbaaGreatDoorCards
import Derived.Test.YtloinlpkjpmnbaaGreatDoorTie
import Derived.WalkKit
import Derived.ProofKit
import Derived.ChangeMaps5
set_option linter.unusedVariables false
set_option linter.unusedSimpArgs false
set_option linter.unusedSectionVars false
set_option maxRecDepth 100000
namespace Go.Proofs.YtloinlpkjpmnbaaGreatDoor.plans
open Go.ChangeShapes Go.WideShapes Go.ChangeAt Go.ChangeMaps Go.RowKit Go.Ev Go.Lib
theorem A_j{w:World}{n:String}{k:IntKind}{z:List Int}{g t e m:Nat}(h:VarReads Tryz.prog w n (tabData k z))
 (v:Tryz.prog.globalNamed n=some g)(o:(Tryz.prog.globals[g]?).map (·.type)=some t)(y:Tryz.prog.underlying t=some (.array m e))(s:Tryz.prog.underlying e=some (.int k))(d:Tryz.prog.cellsOf e=1)(j:Tryz.prog.cellsOf t=m):
 Pv.HoldsTab w g k z:=by
 obtain⟨B,C,A,fuel,p,b,l,a,r⟩:=h;obtain rfl:=Option.some.inj (v.symm.trans b);obtain rfl:=Option.some.inj (o.symm.trans l);have i:=cells_of_tab y s d j r;unfold World.var? at a;rw[b]at a;simp only[Option.bind_some]at a;split at a
 .rename_i q el fz x;cases a;refine⟨el,fz,?_⟩;rw[x,<-i]
 .cases a
theorem ADC{w:World}{n x:String}{d:DataW Unit}{g t:Nat}{ms:Array (String×TypeId)}(h:VarReads Tryz.prog w n (.iface x d))
 (r:Tryz.prog.globalNamed n=some g)(l:(Tryz.prog.globals[g]?).map (·.type)=some t)(s:Tryz.prog.underlying t=some (.interface ms)):
 ∃j,w.cell? ⟨g,0,none⟩=some j/\(j=.nilIface\/∃z y,j=.iface z y):=by
 obtain⟨A,B,o,fuel,p,b,k,e,i⟩:=h;obtain rfl:=Option.some.inj (r.symm.trans b);obtain rfl:=Option.some.inj (l.symm.trans k);have a:=World.var?_cell b e 0
 have key:∃u v,o.toList=[Value.iface u v]:=by
  cases fuel with
  |zero=>simp[DataW.trod]at i
  |succ fuel=>
   unfold DataW.trod at i;rw[s]at i;split at i
   all_goals first
    |(rename_i h;exact⟨_,_,h⟩)
    |exact⟨_,_,by assumption⟩
    |simp_all
 obtain⟨u,v,q⟩:=key;refine⟨_,?_,Or.inr ⟨u,v,rfl⟩⟩;rw[a,<-Array.getElem?_toList,q];rfl
theorem bld:((begin Tryz.prog (λ_ _=>0) default).world.heap[0]?).bind Obj.row? =some (#[.int .i64 0],3):=oh
theorem A_k{w:World}(h:w.ShapedOpen Tryz.prog):∃m,w.cell? ⟨0,0,none⟩=some (.int .i64 m):=by
 obtain⟨e,o,q,r⟩:=h.1 0 _ _ (of_decide_eq_true oh) bld;obtain⟨y,j,_,s⟩:=r oh;have l:Tryz.prog.cellTypes Tryz.prog.depth 3=some [3]:=oh
 rw[l]at j;cases j;have v:e.size=1:=q;obtain⟨u,i,d⟩:=s 0 e[0] (Array.getElem?_eq_getElem oa);have i:some 3=some u:=i;cases i;have t:Tryz.prog.underlying 3=some (.int .i64):=Tryz.underlying3;unfold Cell.ok at d;rw[t]at d;split at d<;>first|(rename_i a b;cases a;done)|skip
 all_goals try (exact d.elim)
 all_goals
  rename_i k x n a b;cases a;obtain⟨rfl,_⟩:=d;refine⟨n,?_⟩;simp only[World.cell?,o];simp[Array.getElem?_eq_getElem (show 0<e.size by omega),b]
theorem facts{W:World}(b:laidMetH Tryz.prog Rows.topPlansSolveUptoRow.laid W)(a:W.ShapedOpen Tryz.prog):Pv.Facts W:=by
 have h:laidMet Tryz.prog Rows.topPlansSolveUptoRow.laid W:=by
  rw[MakeChecks.laidMetH_plain _ _ _ oh]at b;exact b
 have r:VarReads Tryz.prog W "internal/strconv.uint64pow10" Rows.laid_internal_strconv_uint64pow10:=laidMet.reads h (.tail _ (.tail _ (.head _)));have d:VarReads Tryz.prog W "unicode/utf8.acceptRanges" Rows.laid_unicode_utf8_acceptRanges:=laidMet.reads h (.tail _ (.tail _ (.tail _ (.head _))));have l:VarReads Tryz.prog W "strconv.ErrRange" Rows.laid_strconv_ErrRange:=laidMet.reads h (.tail _ (.tail _ (.tail _ (.tail _ (.head _)))));have o:VarReads Tryz.prog W "strconv.ErrSyntax" Rows.laid_strconv_ErrSyntax:=laidMet.reads h (.tail _ (.tail _ (.tail _ (.tail _ (.tail _ (.head _))))));have i:VarReads Tryz.prog W "unicode.CaseRanges" Rows.laid_unicode_CaseRanges:=laidMet.reads h (.tail _ (.tail _ (.tail _ (.tail _ (.tail _ (.tail _ (.head _)))))));have j:VarReads Tryz.prog W "unicode/utf8.first" Rows.laid_unicode_utf8_first:=laidMet.reads h (.tail _ (.tail _ (.tail _ (.tail _ (.tail _ (.tail _ (.tail _ (.head _))))))));refine⟨?_,?_,?_,A_k a,?_,?_⟩
 .have e:(Rows.laid_internal_strconv_uint64pow10:DataW Unit)=tabData .u64 Lib.pow10Tab:=oh
  rw[e]at r;exact A_j r oh oh Tryz.underlying485 Tryz.underlying311 oh oh
 .have e:Rows.laid_unicode_CaseRanges=caseData:=Pinned.caseRanges_eq;rw[e]at i;exact caseVar_of_reads (ρ:=Tryz.lays159_ren) {Tryz.lays159 with} oh ⟨oh,oh,oh,oh,oh,oh⟩ i
 .have e:Rows.laid_unicode_utf8_first=firstData:=Pinned.utf8First_eq;have k:(Rows.laid_unicode_utf8_acceptRanges:DataW Unit)=acceptData:=oh
  rw[e]at j;rw[k]at d;exact utf8Tabs_of_readsT (ρ:=Tryz.lays159_ren) {Tryz.lays159 with} ⟨oh,oh,oh,oh,oh,oh,oh⟩ j d
 .exact ADC (t:=280) o oh oh Tryz.underlying280
 .exact ADC (t:=280) l oh oh Tryz.underlying280
end Go.Proofs.YtloinlpkjpmnbaaGreatDoor.plans
namespace Go.Proofs.YtloinlpkjpmnbaaGreatDoor.plans
open Go.ChangeShapes Go.WideShapes Go.ChangeAt Go.ChangeMaps Go.RowKit Go.Ev Go.Lib
theorem A_l:laidOutB Tryz.prog=true:=oh
theorem A_m{H:Type}(d:DataW H):1<=Rows.uptoBulk d:=by
 cases d with
 |lit l=>cases l<;>simp[Rows.uptoBulk]
 |nil=>simp[Rows.uptoBulk]
 |ptr d=>simp[Rows.uptoBulk]
 |slice a s=>simp[Rows.uptoBulk]
 |agg b=>simp[Rows.uptoBulk]
 |iface t d=>simp[Rows.uptoBulk]
 |map e=>simp[Rows.uptoBulk]
 |held h=>simp[Rows.uptoBulk]
def nL(H:Type):Bulk H:=⟨Rows.uptoBulk,Rows.uptoBulkAll,λs=>by simp[Rows.uptoBulk],A_m,λa b=>by simp[Rows.uptoBulk],λl=>by simp[Rows.uptoBulk],by simp[Rows.uptoBulkAll],λd l=>by simp[Rows.uptoBulkAll]⟩
theorem A_n:Ev.Lay Tryz.prog (Ty.agg Pv.tTask) 34:=by unfold Ev.Lay;kernel_rfl
theorem A_o{W:World}(h:Pv.Facts W):HY W (OR W):=⟨λ_ _ h=>h,λ_ h=>h,W,h,λ_ a=>⟨a,rfl⟩⟩
theorem A_p(W:World)(hF:Pv.Facts W)(x:(Ty.agg Pv.tTask).T)(v:Value)(a:VRel W (OR W) (Ty.agg Pv.tTask) x v)
 (l:Ty.bulk (Pv.tTask) x<=1048576):
 Calls Tryz.prog 3 #[v] W λe w=>e=.returned (.bool true)/\Same W w:=
 (Pv.T_TopPlansSolve_ok.2 W (OR W) (x) [v] [] (A_o hF) ⟨_,rfl,a,rfl⟩ .nil true
  (Pv.law14u x l)).mono
  λ_ _ ⟨_,_,_,_,d,_,i,b,h,_⟩=>A_U d i b h
theorem A_q(H:Type)(enc:TypeId×Value->H)(W:World)(base:Nat)(a:Array Value)(ds y:List (DataW H))(b:List MemPlace)
 (h:∀(j:Nat) t v,Tryz.f3.params[j]?=some t->a[j]?=some v->Value.okWide Tryz.prog W .any base t v)
 (B:DataW.Whole enc Tryz.prog Tryz.f3.params.toList Rows.topPlansSolveSpec.vars false W a.toList ds y b)
 (hk:Rows.uptoSmall H (ds++y)=true)(G:laidMetH Tryz.prog Rows.topPlansSolveUptoRow.laid W)(s:W.ShapedOpen Tryz.prog):
 Calls Tryz.prog 3 a W λe W'=>∃v,e=.returned v/\Rows.topPlansSolveSpec.post enc Tryz.prog Tryz.f3 false true false false W a v W':=by
 have l:=B;obtain⟨p,q,d,I,rfl,L,M⟩:=B;have r:=d.lt;have A:DataW.TrodAll enc Tryz.prog W 0 (λ_=>true) true Tryz.f3.params.toList a.toList ds p:=d;rw[Tryz.params3]at A h;obtain⟨w,R,k,D,O,V,i,rfl,rfl,z,Q⟩:=trodAll_cons A;obtain⟨rfl,rfl,rfl⟩:=trodAll_nil Q;obtain rfl:a= #[w]:=by cases a;simp_all
 obtain⟨rfl,rfl⟩:=trodVars_none I
 have J:(nL H).all [k]<=1048576:=by
  show Rows.uptoBulkAll [k]<=1048576;have o:decide (Rows.uptoBulkAll ([k]++[])<=1048576)=true:=hk;exact of_decide_eq_true o
 rw[(nL H).cons,(nL H).nil]at J;obtain⟨T,E,U⟩:=A_T (nL H) (K:=1048576) oi (t:=Pv.tTask) rfl A_n (h 0 34 w rfl rfl) z oa;refine(A_p W (facts G s) T w E oa).mono λe W' ⟨K,C⟩=>?_;subst K;refine⟨_,rfl,A_V (pa:=O++[]) (pv:=[]) l (λ_ _ _=>trodAll_cons_mk (shut_bool Tryz.underlying4 _) trodAll_mk0) ?_ rfl oe (C.kept _)⟩;rw[Tryz.params3];exact trodAll_cons_mk (Below.trod A_l oh (of_decide_eq_true oh) z C.below λx N=>r x (by simp[N])) trodAll_mk0
end Go.Proofs.YtloinlpkjpmnbaaGreatDoor.plans
namespace Go.Proofs.YtloinlpkjpmnbaaGreatDoor.plans
open Go.ChangeShapes Go.WideShapes Go.ChangeAt Go.ChangeMaps Go.RowKit Go.Ev Go.Lib
theorem A_r(os:Os):laidMet Tryz.prog Rows.topPlansSolveUptoRow.laid ((World.laidAll Tryz.prog os Rows.topPlansSolveUptoRow.laid).forCall (λ_ _=>0) ⟨#[],#[.agg #[.slice none 0 0,.slice none 0 0,.int .i64 0,.slice none 0 0,.slice none 0 0,.bool false,.int .i64 0,.slice none 0 0,.slice none 0 0]],[]⟩).memory:=
 laidMet_laidAll _ oh oh
theorem A_s(os:Os):((World.laidAll Tryz.prog os Rows.topPlansSolveUptoRow.laid).forCall (λ_ _=>0) ⟨#[],#[.agg #[.slice none 0 0,.slice none 0 0,.int .i64 0,.slice none 0 0,.slice none 0 0,.bool false,.int .i64 0,.slice none 0 0,.slice none 0 0]],[]⟩).Shaped Tryz.prog:=
 World.shaped_of_ZipB oh oh
theorem reads(os:Os){H:Type}(enc:TypeId×Value->H):∃a,DataW.whole enc Tryz.prog ((World.laidAll Tryz.prog os Rows.topPlansSolveUptoRow.laid).forCall (λ_ _=>0) ⟨#[],#[.agg #[.slice none 0 0,.slice none 0 0,.int .i64 0,.slice none 0 0,.slice none 0 0,.bool false,.int .i64 0,.slice none 0 0,.slice none 0 0]],[]⟩).memory Tryz.f3.params.toList Rows.topPlansSolveSpec.vars false #[.agg #[.slice none 0 0,.slice none 0 0,.int .i64 0,.slice none 0 0,.slice none 0 0,.bool false,.int .i64 0,.slice none 0 0,.slice none 0 0]].toList 8=
 some ([.agg [.agg [.nil],.nil,.lit (.int .i64 0),.nil,.nil,.lit (.bool false),.agg [.lit (.int .i64 0),.nil,.nil]]],[],a):=
 ⟨[],oh⟩
end Go.Proofs.YtloinlpkjpmnbaaGreatDoor.plans
namespace Go.Proofs.YtloinlpkjpmnbaaGreatDoor.plans
open Go.ChangeShapes Go.WideShapes Go.ChangeAt Go.ChangeMaps Go.RowKit Go.Ev Go.Lib
theorem own:ownKnob Tryz.prog.godebug=none:=oh
theorem lifted(os:Os)(s:os.Started)(H:Type)(enc:TypeId×Value->H)(F:Stop.Interp):
 ReturnsInHanded {} Tryz.checked os 3 .any ((Rows.OpenSpec.upto Rows.topPlansSolveSpec).preRow enc Tryz.prog Tryz.f3 Rows.topPlansSolveUptoRow.domain false Rows.topPlansSolveUptoRow.laid) (((Rows.OpenSpec.upto Rows.topPlansSolveSpec).at F).post enc Tryz.prog Tryz.f3 false true false false):=by
 obtain⟨e,r⟩:=reads os enc
 refine returnsInHanded_of_row (C:=Tryz.checked) (s:=Rows.OpenSpec.upto Rows.topPlansSolveSpec) own s oh Tryz.func3
  (A_W (enc:=enc) (C:=Tryz.checked) (World.laidAll Tryz.prog os Rows.topPlansSolveUptoRow.laid) #[.agg #[.slice none 0 0,.slice none 0 0,.int .i64 0,.slice none 0 0,.slice none 0 0,.bool false,.int .i64 0,.slice none 0 0,.slice none 0 0]] (World.laidAll_os _ _ _) (A_s os) oh
   (OpenSpec.preRow_of_cond 8 r oh (λk hk=>by cases hk;kernel_rfl) oh (by rw[MakeChecks.laidMetH_plain _ _ _ oh];exact A_r os))) ?_
 intro W base a j l b d q _ h _ o i _;exact A_q H enc W base a j l b d q (h _ rfl) o i
end Go.Proofs.YtloinlpkjpmnbaaGreatDoor.plans
