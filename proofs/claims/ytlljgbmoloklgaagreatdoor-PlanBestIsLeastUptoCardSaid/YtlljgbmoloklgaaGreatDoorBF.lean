/- WHAT THE LISTED VARIABLES HOLD; THE CALL OF THE LAW. -/
import Derived.Test.YtlljgbmoloklgaaGreatDoorBK
import Derived.Test.YtlljgbmoloklgaaGreatDoorBH
import Derived.Lib.LaidCase
import Derived.Lib.LaidU8T
import Derived.PinnedBridge
import Derived.LaidSub
import Derived.Test.YtlljgbmoloklgaaGreatDoorCards
import Derived.Test.YtlljgbmoloklgaaGreatDoorTie
import Derived.WalkKit
import Derived.ProofKit
import Derived.ChangeMaps5
set_option linter.unusedVariables false
set_option linter.unusedSimpArgs false
set_option linter.unusedSectionVars false
set_option maxRecDepth 100000
namespace Go.Proofs.YtlljgbmoloklgaaGreatDoor.best
open Go.ChangeShapes Go.WideShapes Go.ChangeAt Go.ChangeMaps Go.RowKit Go.Ev Go.Lib _root_.Go.Proofs.Tryz
theorem ASC{w:World}{n:String}{k:IntKind}{zs:List Int}{g t e m:Nat}(h:VarReads prog w n (tabData k zs))
 (hg:prog.globalNamed n=some g)(hty:(prog.globals[g]?).map (·.type)=some t)(ht:prog.underlying t=some (.array m e))(he:prog.underlying e=some (.int k))(hce:prog.cellsOf e=1)(hct:prog.cellsOf t=m):
 Pv.HoldsTab w g k zs:=by
 obtain⟨g',t',cs,fuel,p,hg',ht',hvar,hd⟩:=h;obtain rfl:=Option.some.inj (hg.symm.trans hg');obtain rfl:=Option.some.inj (hty.symm.trans ht');have hcs:=cells_of_tab ht he hce hct hd;unfold World.var? at hvar;rw[hg']at hvar;simp only[Option.bind_some]at hvar;split at hvar
 ·rename_i cs' el fz hh;cases hvar;refine⟨el,fz,?_⟩;rw[hh,<-hcs]
 ·cases hvar
theorem A8E{w:World}{n nm:String}{d:DataW Unit}{g t:Nat}{ms:Array (String×TypeId)}(h:VarReads prog w n (.iface nm d))
 (hg:prog.globalNamed n=some g)(hty:(prog.globals[g]?).map (·.type)=some t)(ht:prog.underlying t=some (.interface ms)):
 ∃ev,w.cell? ⟨g,0,none⟩=some ev/\(ev=.nilIface\/∃te pe,ev=.iface te pe):=by
 obtain⟨g',t',cs,fuel,p,hg',ht',hvar,hd⟩:=h;obtain rfl:=Option.some.inj (hg.symm.trans hg');obtain rfl:=Option.some.inj (hty.symm.trans ht');have hcell:=World.var?_cell hg' hvar 0
 have key:∃u v,cs.toList=[Value.iface u v]:=by
  cases fuel with
  |zero=>simp[DataW.trod]at hd
  |succ fuel=>
   unfold DataW.trod at hd;rw[ht]at hd;split at hd
   all_goals first
    |(rename_i h;exact⟨_,_,h⟩)
    |exact⟨_,_,by assumption⟩
    |simp_all
 obtain⟨u,v,hc⟩:=key;refine⟨_,?_,Or.inr ⟨u,v,rfl⟩⟩;rw[hcell,<-Array.getElem?_toList,hc];rfl
theorem bld:((begin prog (fun _ _=>0) default).world.heap[0]?).bind Obj.row? =some (#[.int .i64 0],3):=by kernel_rfl
theorem ASD{w:World}(h:w.ShapedOpen prog):∃m,w.cell? ⟨0,0,none⟩=some (.int .i64 m):=by
 obtain⟨cs,h1,h2,h3⟩:=h.1 0 _ _ (of_decide_eq_true (by kernel_rfl)) bld;obtain⟨ts,h4,_,h5⟩:=h3 (by kernel_rfl);have e4:prog.cellTypes prog.depth 3=some [3]:=by kernel_rfl
 rw[e4]at h4;cases h4;have hs:cs.size=1:=h2;obtain⟨u,h6,h7⟩:=h5 0 cs[0] (Array.getElem?_eq_getElem (by omega));have h6:some 3=some u:=h6;cases h6;have hu:prog.underlying 3=some (.int .i64):=Tryz.underlying3;unfold Cell.ok at h7;rw[hu]at h7;split at h7<;>first|(rename_i a b;cases a;done)|skip
 all_goals try (exact h7.elim)
 all_goals
  rename_i k k' n a b;cases a;obtain⟨rfl,_⟩:=h7;refine⟨n,?_⟩;simp only[World.cell?,h1];simp[Array.getElem?_eq_getElem (show 0<cs.size by omega),b]
theorem facts{W:World}(hL:laidMetH prog Rows.planBestIsLeastUptoRow.laid W)(hsh:W.ShapedOpen prog):Pv.Facts W:=by
 have h:laidMet prog Rows.planBestIsLeastUptoRow.laid W:=by
  rw[MakeChecks.laidMetH_plain _ _ _ (by kernel_rfl)]at hL;exact hL
 have r2:VarReads prog W "internal/strconv.uint64pow10" Rows.laid_internal_strconv_uint64pow10:=laidMet.reads h (.tail _ (.tail _ (.head _)));have r3:VarReads prog W "unicode/utf8.acceptRanges" Rows.laid_unicode_utf8_acceptRanges:=laidMet.reads h (.tail _ (.tail _ (.tail _ (.head _))));have r4:VarReads prog W "strconv.ErrRange" Rows.laid_strconv_ErrRange:=laidMet.reads h (.tail _ (.tail _ (.tail _ (.tail _ (.head _)))));have r5:VarReads prog W "strconv.ErrSyntax" Rows.laid_strconv_ErrSyntax:=laidMet.reads h (.tail _ (.tail _ (.tail _ (.tail _ (.tail _ (.head _))))));have r6:VarReads prog W "unicode.CaseRanges" Rows.laid_unicode_CaseRanges:=laidMet.reads h (.tail _ (.tail _ (.tail _ (.tail _ (.tail _ (.tail _ (.head _)))))));have r7:VarReads prog W "unicode/utf8.first" Rows.laid_unicode_utf8_first:=laidMet.reads h (.tail _ (.tail _ (.tail _ (.tail _ (.tail _ (.tail _ (.tail _ (.head _))))))));refine⟨?_,?_,?_,ASD hsh,?_,?_⟩
 ·have e:(Rows.laid_internal_strconv_uint64pow10:DataW Unit)=tabData .u64 Lib.pow10Tab:=by kernel_rfl
  rw[e]at r2;exact ASC r2 (by kernel_rfl) (by kernel_rfl) Tryz.underlying454 Tryz.underlying253 (by kernel_rfl) (by kernel_rfl)
 ·have e:Rows.laid_unicode_CaseRanges=caseData:=Pinned.caseRanges_eq;rw[e]at r6;exact caseVar_of_reads (ρ:=Tryz.lays159_ren) {Tryz.lays159 with} (by kernel_rfl) ⟨by kernel_rfl,by kernel_rfl,by kernel_rfl,by kernel_rfl,by kernel_rfl,by kernel_rfl⟩ r6
 ·have e:Rows.laid_unicode_utf8_first=firstData:=Pinned.utf8First_eq;have e2:(Rows.laid_unicode_utf8_acceptRanges:DataW Unit)=acceptData:=by kernel_rfl
  rw[e]at r7;rw[e2]at r3;exact utf8Tabs_of_readsT (ρ:=Tryz.lays159_ren) {Tryz.lays159 with} ⟨by kernel_rfl,by kernel_rfl,by kernel_rfl,by kernel_rfl,by kernel_rfl,by kernel_rfl,by kernel_rfl⟩ r7 r3
 ·exact A8E (t:=304) r5 (by kernel_rfl) (by kernel_rfl) Tryz.underlying304
 ·exact A8E (t:=304) r4 (by kernel_rfl) (by kernel_rfl) Tryz.underlying304
theorem A8F:laidOutB prog=true:=by kernel_rfl
theorem ASE{H:Type}(d:DataW H):1<=Rows.uptoBulk d:=by
 cases d with
 |lit l=>cases l<;>simp[Rows.uptoBulk]
 |_=>simp[Rows.uptoBulk]
def T9(H:Type):Bulk H:=⟨Rows.uptoBulk,Rows.uptoBulkAll,fun s=>by simp[Rows.uptoBulk],ASE,fun a b=>by simp[Rows.uptoBulk],fun l=>by simp[Rows.uptoBulk],by simp[Rows.uptoBulkAll],fun d l=>by simp[Rows.uptoBulkAll]⟩
theorem ASF:Ev.Lay prog (Ty.agg Pv.tTask) 34:=by unfold Ev.Lay;kernel_rfl
theorem ASG:Ev.Lay prog (Ty.int .i64) 3:=by unfold Ev.Lay;kernel_rfl
theorem ASH{W:World}(h:Pv.Facts W):HU W (LE W):=⟨fun _ _ h=>h,fun _ h=>h,W,h,fun _ hb=>⟨hb,rfl⟩⟩
theorem ASI(W:World)(hF:Pv.Facts W)(x0:(Ty.agg Pv.tTask).T)(x1:(Ty.int .i64).T)(v0 v1:Value)(h0:VRel W (LE W) (Ty.agg Pv.tTask) x0 v0)(h1:VRel W (LE W) (Ty.int .i64) x1 v1)
 (l0:Ty.bulk (Pv.tTask) x0<=1048576):
 Calls prog 5 #[v0,v1] W fun e w'=>e=.returned (.bool true)/\Same W w':=
 (Pv.L10_PlanBestIsLeast_ok.2 W (LE W) (x0,x1) [v0,v1] [] (ASH hF) ⟨_,_,[],[],rfl,rfl,⟨h0,rfl⟩,_,rfl,h1,rfl⟩ .nil true
  (Pv.law24u x0 x1 l0)).mono
  fun _ _ ⟨_,_,_,_,he,_,hr,ha,hsh,_⟩=>ARu he hr ha hsh
theorem ASJ(H:Type)(enc:TypeId×Value->H)(W:World)(base:Nat)(args:Array Value)(ds gs:List (DataW H))(before:List MemPlace)
 (hval:∀(j:Nat) t v,Tryz.f5.params[j]?=some t->args[j]?=some v->Value.okWide prog W .any base t v)
 (hW:DataW.Whole enc prog Tryz.f5.params.toList Rows.planBestIsLeastSpec.vars false W args.toList ds gs before)
 (hk:Rows.uptoSmall H (ds++gs)=true)(hL:laidMetH prog Rows.planBestIsLeastUptoRow.laid W)(hsh:W.ShapedOpen prog):
 Calls prog 5 args W fun e W'=>∃v,e=.returned v/\Rows.planBestIsLeastSpec.post enc prog Tryz.f5 false true false false W args v W':=by
 have hW':=hW;obtain⟨p,q,hA0,hV,rfl,hfz,hnd⟩:=hW;have hlt:=hA0.lt;have hA:DataW.TrodAll enc prog W 0 (fun _=>true) true Tryz.f5.params.toList args.toList ds p:=hA0;rw[Tryz.params5]at hA hval;obtain⟨v0,vs0,d0,ds0,p0,q0,hargs0,rfl,rfl,h0,r0⟩:=trodAll_cons hA;obtain⟨v1,vs1,d1,ds1,p1,q1,hargs1,rfl,rfl,h1,r1⟩:=trodAll_cons r0;subst hargs1;obtain⟨rfl,rfl,rfl⟩:=trodAll_nil r1;obtain rfl:args= #[v0,v1]:=by cases args;simp_all
 obtain⟨rfl,rfl⟩:=trodVars_none hV
 have hb:(T9 H).all [d0,d1]<=1048576:=by
  show Rows.uptoBulkAll [d0,d1]<=1048576;have hk':decide (Rows.uptoBulkAll ([d0,d1]++[])<=1048576)=true:=hk;exact of_decide_eq_true hk'
 rw[(T9 H).cons,(T9 H).cons,(T9 H).nil]at hb;obtain⟨x0,e0,l0⟩:=ARt (T9 H) (K:=1048576) (by decide) (t:=Pv.tTask) rfl ASF (hval 0 34 v0 rfl rfl) h0 (by omega);obtain⟨x1,e1⟩:=ARy (T9 H) (K:=1048576) (by decide) ASG (hval 1 3 v1 rfl rfl) h1 (by omega);refine(ASI W (facts hL hsh) x0 x1 v0 v1 e0 e1 (by omega)).mono fun e W' ⟨he,hg⟩=>?_;subst he;refine⟨_,rfl,ARv (pa:=p0++(p1++[])) (pv:=[]) hW' (fun _ _ _=>trodAll_cons_mk (shut_bool Tryz.underlying4 _) trodAll_mk0) ?_ rfl (by simp) (hg.kept _)⟩;rw[Tryz.params5];exact trodAll_cons_mk (Below.trod A8F (by kernel_rfl) (of_decide_eq_true (by kernel_rfl)) h0 hg.below fun x hx=>hlt x (by simp[hx])) (trodAll_cons_mk (Below.trod A8F (by kernel_rfl) (of_decide_eq_true (by kernel_rfl)) h1 hg.below fun x hx=>hlt x (by simp[hx])) trodAll_mk0)
theorem ASK(os:Os):laidMet prog Rows.planBestIsLeastUptoRow.laid ((World.laidAll prog os Rows.planBestIsLeastUptoRow.laid).forCall (fun _ _=>0) ⟨#[],#[.agg #[.slice none 0 0,.slice none 0 0,.int .i64 0,.slice none 0 0,.slice none 0 0,.bool false,.int .i64 0,.slice none 0 0,.slice none 0 0],.int .i64 0],[]⟩).memory:=
 laidMet_laidAll _ (by kernel_rfl) (by kernel_rfl)
theorem ASL(os:Os):((World.laidAll prog os Rows.planBestIsLeastUptoRow.laid).forCall (fun _ _=>0) ⟨#[],#[.agg #[.slice none 0 0,.slice none 0 0,.int .i64 0,.slice none 0 0,.slice none 0 0,.bool false,.int .i64 0,.slice none 0 0,.slice none 0 0],.int .i64 0],[]⟩).Shaped prog:=
 World.shaped_of_ZipB (by kernel_rfl) (by kernel_rfl)
theorem reads(os:Os){H:Type}(enc:TypeId×Value->H):∃places,DataW.whole enc prog ((World.laidAll prog os Rows.planBestIsLeastUptoRow.laid).forCall (fun _ _=>0) ⟨#[],#[.agg #[.slice none 0 0,.slice none 0 0,.int .i64 0,.slice none 0 0,.slice none 0 0,.bool false,.int .i64 0,.slice none 0 0,.slice none 0 0],.int .i64 0],[]⟩).memory Tryz.f5.params.toList Rows.planBestIsLeastSpec.vars false #[.agg #[.slice none 0 0,.slice none 0 0,.int .i64 0,.slice none 0 0,.slice none 0 0,.bool false,.int .i64 0,.slice none 0 0,.slice none 0 0],.int .i64 0].toList 8=
 some ([.agg [.agg [.nil],.nil,.lit (.int .i64 0),.nil,.nil,.lit (.bool false),.agg [.lit (.int .i64 0),.nil,.nil]],.lit (.int .i64 0)],[],places):=
 ⟨[],by kernel_rfl⟩
theorem own:ownKnob prog.godebug=none:=by kernel_rfl
theorem lifted(os:Os)(started:os.Started)(H:Type)(enc:TypeId×Value->H)(F:Stop.Interp):
 ReturnsInHanded {} Tryz.checked os 5 .any ((Rows.OpenSpec.upto Rows.planBestIsLeastSpec).preRow enc prog Tryz.f5 Rows.planBestIsLeastUptoRow.domain false Rows.planBestIsLeastUptoRow.laid) (((Rows.OpenSpec.upto Rows.planBestIsLeastSpec).at F).post enc prog Tryz.f5 false true false false):=by
 obtain⟨places,hx⟩:=reads os enc
 refine returnsInHanded_of_row (C:=Tryz.checked) (s:=Rows.OpenSpec.upto Rows.planBestIsLeastSpec) own started (by kernel_rfl) Tryz.func5
  (ARw (enc:=enc) (C:=Tryz.checked) (World.laidAll prog os Rows.planBestIsLeastUptoRow.laid) #[.agg #[.slice none 0 0,.slice none 0 0,.int .i64 0,.slice none 0 0,.slice none 0 0,.bool false,.int .i64 0,.slice none 0 0,.slice none 0 0],.int .i64 0] (World.laidAll_os _ _ _) (ASL os) (by kernel_rfl)
   (OpenSpec.preRow_of_cond 8 hx (by kernel_rfl) (fun k hk=>by cases hk;kernel_rfl) (by kernel_rfl) (by rw[MakeChecks.laidMetH_plain _ _ _ (by kernel_rfl)];exact ASK os))) ?_
 intro W base args ds gs before hval hW _ hcond _ hL hsh _;exact ASJ H enc W base args ds gs before hval hW (hcond _ rfl) hL hsh
end Go.Proofs.YtlljgbmoloklgaaGreatDoor.best
