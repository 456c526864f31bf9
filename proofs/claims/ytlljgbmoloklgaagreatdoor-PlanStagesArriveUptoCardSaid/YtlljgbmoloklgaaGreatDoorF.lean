/-
  WHAT THE LISTED VARIABLES HOLD. FOR: called with any task and any lock, of bulk at most 1048576 together, the law PlanStagesArrive returns true, and all that there was stays as it was: the row's tied card of the second form.; THE CALL OF THE LAW, from what comes in to what goes out.; AN INPUT THAT F
-/
import Derived.Test.YtlljgbmoloklgaaGreatDoorK
import Derived.Test.YtlljgbmoloklgaaGreatDoorH
import Derived.Lib.LaidCase
import Derived.Lib.LaidU8T
import Derived.PinnedBridge
import Derived.LaidSub
import Derived.Test.YtlljgbmoloklgaaGreatDoorCards
import Derived.Test.YtlljgbmoloklgaaGreatDoorTie
import Derived.WalkKit
import Derived.ProofKit
import Derived.ChangeMaps5
set_option linter.unusedVariables false
set_option linter.unusedSimpArgs false
set_option linter.unusedSectionVars false
set_option maxRecDepth 100000
namespace Go.Proofs.YtlljgbmoloklgaaGreatDoor.stages
open Go.ChangeShapes Go.WideShapes Go.ChangeAt Go.ChangeMaps Go.RowKit Go.Ev Go.Lib
theorem ASa{w:World}{n:String}{k:IntKind}{zs:List Int}{g t e m:Nat}(h:VarReads Tryz.prog w n (tabData k zs))
 (hg:Tryz.prog.globalNamed n=some g)(hty:(Tryz.prog.globals[g]?).map (·.type)=some t)(ht:Tryz.prog.underlying t=some (.array m e))(he:Tryz.prog.underlying e=some (.int k))(hce:Tryz.prog.cellsOf e=1)(hct:Tryz.prog.cellsOf t=m):
 Pv.HoldsTab w g k zs:=by
 obtain⟨g',t',cs,fuel,p,hg',ht',hvar,hd⟩:=h;obtain rfl:=Option.some.inj (hg.symm.trans hg');obtain rfl:=Option.some.inj (hty.symm.trans ht');have hcs:=cells_of_tab ht he hce hct hd;unfold World.var? at hvar;rw[hg']at hvar;simp only[Option.bind_some]at hvar;split at hvar
 .rename_i cs' el fz hh;cases hvar;refine⟨el,fz,?_⟩;rw[hh,<-hcs]
 .cases hvar
theorem A7p{w:World}{n nm:String}{d:DataW Unit}{g t:Nat}{ms:Array (String×TypeId)}(h:VarReads Tryz.prog w n (.iface nm d))
 (hg:Tryz.prog.globalNamed n=some g)(hty:(Tryz.prog.globals[g]?).map (·.type)=some t)(ht:Tryz.prog.underlying t=some (.interface ms)):
 ∃ev,w.cell? ⟨g,0,none⟩=some ev/\(ev=.nilIface\/∃te pe,ev=.iface te pe):=by
 obtain⟨g',t',cs,fuel,p,hg',ht',hvar,hd⟩:=h;obtain rfl:=Option.some.inj (hg.symm.trans hg');obtain rfl:=Option.some.inj (hty.symm.trans ht');have hcell:=World.var?_cell hg' hvar 0
 have key:∃u v,cs.toList=[Value.iface u v]:=by
  cases fuel with
  |zero=>simp[DataW.trod]at hd
  |succ fuel=>
   unfold DataW.trod at hd;rw[ht]at hd;split at hd
   all_goals first
    |(rename_i h;exact⟨_,_,h⟩)
    |exact⟨_,_,by assumption⟩
    |simp_all
 obtain⟨u,v,hc⟩:=key;refine⟨_,?_,Or.inr ⟨u,v,rfl⟩⟩;rw[hcell,<-Array.getElem?_toList,hc];rfl
theorem bld:((begin Tryz.prog (λ_ _=>0) default).world.heap[0]?).bind Obj.row? =some (#[.int .i64 0],3):=oa
theorem ASb{w:World}(h:w.ShapedOpen Tryz.prog):∃m,w.cell? ⟨0,0,none⟩=some (.int .i64 m):=by
 obtain⟨cs,h1,h2,h3⟩:=h.1 0 _ _ (of_decide_eq_true oa) bld;obtain⟨ts,h4,_,h5⟩:=h3 oa;have e4:Tryz.prog.cellTypes Tryz.prog.depth 3=some [3]:=oa
 rw[e4]at h4;cases h4;have hs:cs.size=1:=h2;obtain⟨u,h6,h7⟩:=h5 0 cs[0] (Array.getElem?_eq_getElem o5);have h6:some 3=some u:=h6;cases h6;have hu:Tryz.prog.underlying 3=some (.int .i64):=Tryz.underlying3;unfold Cell.ok at h7;rw[hu]at h7;split at h7<;>first|(rename_i a b;cases a;done)|skip
 all_goals try (exact h7.elim)
 all_goals
  rename_i k k' n a b;cases a;obtain⟨rfl,_⟩:=h7;refine⟨n,?_⟩;simp only[World.cell?,h1];simp[Array.getElem?_eq_getElem (show 0<cs.size by omega),b]
theorem facts{W:World}(hL:laidMetH Tryz.prog Rows.planStagesArriveUptoRow.laid W)(hsh:W.ShapedOpen Tryz.prog):Pv.Facts W:=by
 have h:laidMet Tryz.prog Rows.planStagesArriveUptoRow.laid W:=by
  rw[MakeChecks.laidMetH_plain _ _ _ oa]at hL;exact hL
 have r2:VarReads Tryz.prog W "internal/strconv.uint64pow10" Rows.laid_internal_strconv_uint64pow10:=laidMet.reads h (.tail _ (.tail _ (.head _)));have r3:VarReads Tryz.prog W "unicode/utf8.acceptRanges" Rows.laid_unicode_utf8_acceptRanges:=laidMet.reads h (.tail _ (.tail _ (.tail _ (.head _))));have r4:VarReads Tryz.prog W "strconv.ErrRange" Rows.laid_strconv_ErrRange:=laidMet.reads h (.tail _ (.tail _ (.tail _ (.tail _ (.head _)))));have r5:VarReads Tryz.prog W "strconv.ErrSyntax" Rows.laid_strconv_ErrSyntax:=laidMet.reads h (.tail _ (.tail _ (.tail _ (.tail _ (.tail _ (.head _))))));have r6:VarReads Tryz.prog W "unicode.CaseRanges" Rows.laid_unicode_CaseRanges:=laidMet.reads h (.tail _ (.tail _ (.tail _ (.tail _ (.tail _ (.tail _ (.head _)))))));have r7:VarReads Tryz.prog W "unicode/utf8.first" Rows.laid_unicode_utf8_first:=laidMet.reads h (.tail _ (.tail _ (.tail _ (.tail _ (.tail _ (.tail _ (.tail _ (.head _))))))));refine⟨?_,?_,?_,ASb hsh,?_,?_⟩
 .have e:(Rows.laid_internal_strconv_uint64pow10:DataW Unit)=tabData .u64 Lib.pow10Tab:=oa
  rw[e]at r2;exact ASa r2 oa oa Tryz.underlying454 Tryz.underlying253 oa oa
 .have e:Rows.laid_unicode_CaseRanges=caseData:=Pinned.caseRanges_eq;rw[e]at r6;exact caseVar_of_reads (ρ:=Tryz.lays159_ren) {Tryz.lays159 with} oa ⟨oa,oa,oa,oa,oa,oa⟩ r6
 .have e:Rows.laid_unicode_utf8_first=firstData:=Pinned.utf8First_eq;have e2:(Rows.laid_unicode_utf8_acceptRanges:DataW Unit)=acceptData:=oa
  rw[e]at r7;rw[e2]at r3;exact utf8Tabs_of_readsT (ρ:=Tryz.lays159_ren) {Tryz.lays159 with} ⟨oa,oa,oa,oa,oa,oa,oa⟩ r7 r3
 .exact A7p (t:=304) r5 oa oa Tryz.underlying304
 .exact A7p (t:=304) r4 oa oa Tryz.underlying304
end Go.Proofs.YtlljgbmoloklgaaGreatDoor.stages
namespace Go.Proofs.YtlljgbmoloklgaaGreatDoor.stages
open Go.ChangeShapes Go.WideShapes Go.ChangeAt Go.ChangeMaps Go.RowKit Go.Ev Go.Lib
theorem A7q:laidOutB Tryz.prog=true:=oa
theorem ASc{H:Type}(d:DataW H):1<=Rows.uptoBulk d:=by
 cases d with
 |lit l=>cases l<;>simp[Rows.uptoBulk]
 |nil=>simp[Rows.uptoBulk]
 |ptr d=>simp[Rows.uptoBulk]
 |slice elems spare=>simp[Rows.uptoBulk]
 |agg parts=>simp[Rows.uptoBulk]
 |iface t d=>simp[Rows.uptoBulk]
 |map entries=>simp[Rows.uptoBulk]
 |held h=>simp[Rows.uptoBulk]
def SD(H:Type):Bulk H:=⟨Rows.uptoBulk,Rows.uptoBulkAll,λs=>by simp[Rows.uptoBulk],ASc,λa b=>by simp[Rows.uptoBulk],λl=>by simp[Rows.uptoBulk],by simp[Rows.uptoBulkAll],λd l=>by simp[Rows.uptoBulkAll]⟩
theorem ASd:Ev.Lay Tryz.prog (Ty.agg Pv.tTask) 34:=by unfold Ev.Lay;kernel_rfl
theorem ASe:Ev.Lay Tryz.prog (Ty.slice (.agg Pv.tPin)) 27:=by unfold Ev.Lay;kernel_rfl
theorem ASf{W:World}(h:Pv.Facts W):GM W (L6 W):=⟨λ_ _ h=>h,λ_ h=>h,W,h,λ_ hb=>⟨hb,rfl⟩⟩
theorem ASg(W:World)(hF:Pv.Facts W)(x0:(Ty.agg Pv.tTask).T)(x1:(Ty.slice (.agg Pv.tPin)).T)(v0 v1:Value)(h0:VRel W (L6 W) (Ty.agg Pv.tTask) x0 v0)(h1:VRel W (L6 W) (Ty.slice (.agg Pv.tPin)) x1 v1)
 (l0:Ty.bulk (Pv.tTask) x0<=1048576)(l1:Ty.bulk (Ty.slice (.agg Pv.tPin)) x1<=1048576):
 Calls Tryz.prog 6 #[v0,v1] W λe w'=>e=.returned (.bool true)/\Same W w':=
 (Pv.L10_PlanStagesArrive_ok.2 W (L6 W) (x0,x1) [v0,v1] [] (ASf hF) ⟨_,_,[],[],rfl,rfl,⟨h0,rfl⟩,_,rfl,h1,rfl⟩ .nil true
  (Pv.law25u x0 x1 l0 l1)).mono
  λ_ _ ⟨_,_,_,_,he,_,hr,ha,hsh,_⟩=>ASK he hr ha hsh
theorem ASh(H:Type)(enc:TypeId×Value->H)(W:World)(base:Nat)(args:Array Value)(ds gs:List (DataW H))(before:List MemPlace)
 (hval:∀(j:Nat) t v,Tryz.f6.params[j]?=some t->args[j]?=some v->Value.okWide Tryz.prog W .any base t v)
 (hW:DataW.Whole enc Tryz.prog Tryz.f6.params.toList Rows.planStagesArriveSpec.vars false W args.toList ds gs before)
 (hk:Rows.uptoSmall H (ds++gs)=true)(hL:laidMetH Tryz.prog Rows.planStagesArriveUptoRow.laid W)(hsh:W.ShapedOpen Tryz.prog):
 Calls Tryz.prog 6 args W λe W'=>∃v,e=.returned v/\Rows.planStagesArriveSpec.post enc Tryz.prog Tryz.f6 false true false false W args v W':=by
 have hW':=hW;obtain⟨p,q,hA0,hV,rfl,hfz,hnd⟩:=hW;have hlt:=hA0.lt;have hA:DataW.TrodAll enc Tryz.prog W 0 (λ_=>true) true Tryz.f6.params.toList args.toList ds p:=hA0;rw[Tryz.params6]at hA hval;obtain⟨v0,vs0,d0,ds0,p0,q0,hargs0,rfl,rfl,h0,r0⟩:=trodAll_cons hA;obtain⟨v1,vs1,d1,ds1,p1,q1,hargs1,rfl,rfl,h1,r1⟩:=trodAll_cons r0;subst hargs1;obtain⟨rfl,rfl,rfl⟩:=trodAll_nil r1;obtain rfl:args= #[v0,v1]:=by cases args;simp_all
 obtain⟨rfl,rfl⟩:=trodVars_none hV
 have hb:(SD H).all [d0,d1]<=1048576:=by
  show Rows.uptoBulkAll [d0,d1]<=1048576;have hk':decide (Rows.uptoBulkAll ([d0,d1]++[])<=1048576)=true:=hk;exact of_decide_eq_true hk'
 rw[(SD H).cons,(SD H).cons,(SD H).nil]at hb;obtain⟨x0,e0,l0⟩:=ASJ (SD H) (K:=1048576) od (t:=Pv.tTask) rfl ASd (hval 0 34 v0 rfl rfl) h0 o5;obtain⟨x1,e1,l1⟩:=ASO (SD H) (K:=1048576) od (e:=.agg Pv.tPin) rfl ASe (hval 1 27 v1 rfl rfl) h1 o5;refine(ASg W (facts hL hsh) x0 x1 v0 v1 e0 e1 o5 o5).mono λe W' ⟨he,hg⟩=>?_;subst he;refine⟨_,rfl,ASL (pa:=p0++(p1++[])) (pv:=[]) hW' (λ_ _ _=>trodAll_cons_mk (shut_bool Tryz.underlying4 _) trodAll_mk0) ?_ rfl oc (hg.kept _)⟩;rw[Tryz.params6];exact trodAll_cons_mk (Below.trod A7q oa (of_decide_eq_true oa) h0 hg.below λx hx=>hlt x (by simp[hx])) (trodAll_cons_mk (Below.trod A7q oa (of_decide_eq_true oa) h1 hg.below λx hx=>hlt x (by simp[hx])) trodAll_mk0)
end Go.Proofs.YtlljgbmoloklgaaGreatDoor.stages
namespace Go.Proofs.YtlljgbmoloklgaaGreatDoor.stages
open Go.ChangeShapes Go.WideShapes Go.ChangeAt Go.ChangeMaps Go.RowKit Go.Ev Go.Lib
theorem ASi(os:Os):laidMet Tryz.prog Rows.planStagesArriveUptoRow.laid ((World.laidAll Tryz.prog os Rows.planStagesArriveUptoRow.laid).forCall (λ_ _=>0) ⟨#[],#[.agg #[.slice none 0 0,.slice none 0 0,.int .i64 0,.slice none 0 0,.slice none 0 0,.bool false,.int .i64 0,.slice none 0 0,.slice none 0 0],.slice none 0 0],[]⟩).memory:=
 laidMet_laidAll _ oa oa
theorem ASj(os:Os):((World.laidAll Tryz.prog os Rows.planStagesArriveUptoRow.laid).forCall (λ_ _=>0) ⟨#[],#[.agg #[.slice none 0 0,.slice none 0 0,.int .i64 0,.slice none 0 0,.slice none 0 0,.bool false,.int .i64 0,.slice none 0 0,.slice none 0 0],.slice none 0 0],[]⟩).Shaped Tryz.prog:=
 World.shaped_of_ZipB oa oa
theorem reads(os:Os){H:Type}(enc:TypeId×Value->H):∃places,DataW.whole enc Tryz.prog ((World.laidAll Tryz.prog os Rows.planStagesArriveUptoRow.laid).forCall (λ_ _=>0) ⟨#[],#[.agg #[.slice none 0 0,.slice none 0 0,.int .i64 0,.slice none 0 0,.slice none 0 0,.bool false,.int .i64 0,.slice none 0 0,.slice none 0 0],.slice none 0 0],[]⟩).memory Tryz.f6.params.toList Rows.planStagesArriveSpec.vars false #[.agg #[.slice none 0 0,.slice none 0 0,.int .i64 0,.slice none 0 0,.slice none 0 0,.bool false,.int .i64 0,.slice none 0 0,.slice none 0 0],.slice none 0 0].toList 8=
 some ([.agg [.agg [.nil],.nil,.lit (.int .i64 0),.nil,.nil,.lit (.bool false),.agg [.lit (.int .i64 0),.nil,.nil]],.nil],[],places):=
 ⟨[],oa⟩
end Go.Proofs.YtlljgbmoloklgaaGreatDoor.stages
namespace Go.Proofs.YtlljgbmoloklgaaGreatDoor.stages
open Go.ChangeShapes Go.WideShapes Go.ChangeAt Go.ChangeMaps Go.RowKit Go.Ev Go.Lib
theorem own:ownKnob Tryz.prog.godebug=none:=oa
theorem lifted(os:Os)(started:os.Started)(H:Type)(enc:TypeId×Value->H)(F:Stop.Interp):
 ReturnsInHanded {} Tryz.checked os 6 .any ((Rows.OpenSpec.upto Rows.planStagesArriveSpec).preRow enc Tryz.prog Tryz.f6 Rows.planStagesArriveUptoRow.domain false Rows.planStagesArriveUptoRow.laid) (((Rows.OpenSpec.upto Rows.planStagesArriveSpec).at F).post enc Tryz.prog Tryz.f6 false true false false):=by
 obtain⟨places,hx⟩:=reads os enc
 refine returnsInHanded_of_row (C:=Tryz.checked) (s:=Rows.OpenSpec.upto Rows.planStagesArriveSpec) own started oa Tryz.func6
  (ASM (enc:=enc) (C:=Tryz.checked) (World.laidAll Tryz.prog os Rows.planStagesArriveUptoRow.laid) #[.agg #[.slice none 0 0,.slice none 0 0,.int .i64 0,.slice none 0 0,.slice none 0 0,.bool false,.int .i64 0,.slice none 0 0,.slice none 0 0],.slice none 0 0] (World.laidAll_os _ _ _) (ASj os) oa
   (OpenSpec.preRow_of_cond 8 hx oa (λk hk=>by cases hk;kernel_rfl) oa (by rw[MakeChecks.laidMetH_plain _ _ _ oa];exact ASi os))) ?_
 intro W base args ds gs before hval hW _ hcond _ hL hsh _;exact ASh H enc W base args ds gs before hval hW (hcond _ rfl) hL hsh
end Go.Proofs.YtlljgbmoloklgaaGreatDoor.stages
