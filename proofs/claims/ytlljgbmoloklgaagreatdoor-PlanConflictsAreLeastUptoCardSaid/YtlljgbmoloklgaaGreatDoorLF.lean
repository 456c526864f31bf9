/-
  WHAT THE LISTED VARIABLES HOLD. FOR: called with any task of bulk at most 1048576, the law PlanConflictsAreLeast returns true, and all that there was stays as it was: the row's tied card of the second form.; THE CALL OF THE LAW, from what comes in to what goes out.; AN INPUT THAT FITS.; THE ROW's ST
-/
import Derived.Test.YtlljgbmoloklgaaGreatDoorLK
import Derived.Test.YtlljgbmoloklgaaGreatDoorLH
import Derived.Lib.LaidCase
import Derived.Lib.LaidU8T
import Derived.PinnedBridge
import Derived.LaidSub
import Derived.Test.YtlljgbmoloklgaaGreatDoorCards
import Derived.Test.YtlljgbmoloklgaaGreatDoorTie
import Derived.WalkKit
import Derived.ProofKit
import Derived.ChangeMaps5
set_option linter.unusedVariables false
set_option linter.unusedSimpArgs false
set_option linter.unusedSectionVars false
set_option maxRecDepth 100000
namespace Go.Proofs.YtlljgbmoloklgaaGreatDoor.least
open Go.ChangeShapes Go.WideShapes Go.ChangeAt Go.ChangeMaps Go.RowKit Go.Ev Go.Lib
theorem AOA{w:World}{n:String}{k:IntKind}{zs:List Int}{g t e m:Nat}(h:VarReads Tryz.prog w n (tabData k zs))
 (hg:Tryz.prog.globalNamed n=some g)(hty:(Tryz.prog.globals[g]?).map (·.type)=some t)(ht:Tryz.prog.underlying t=some (.array m e))(he:Tryz.prog.underlying e=some (.int k))(hce:Tryz.prog.cellsOf e=1)(hct:Tryz.prog.cellsOf t=m):
 Pv.HoldsTab w g k zs:=by
 obtain⟨g',t',cs,fuel,p,hg',ht',hvar,hd⟩:=h;obtain rfl:=Option.some.inj (hg.symm.trans hg');obtain rfl:=Option.some.inj (hty.symm.trans ht');have hcs:=cells_of_tab ht he hce hct hd;unfold World.var? at hvar;rw[hg']at hvar;simp only[Option.bind_some]at hvar;split at hvar
 ·rename_i cs' el fz hh;cases hvar;refine⟨el,fz,?_⟩;rw[hh,<-hcs]
 ·cases hvar
theorem A5Q{w:World}{n nm:String}{d:DataW Unit}{g t:Nat}{ms:Array (String×TypeId)}(h:VarReads Tryz.prog w n (.iface nm d))
 (hg:Tryz.prog.globalNamed n=some g)(hty:(Tryz.prog.globals[g]?).map (·.type)=some t)(ht:Tryz.prog.underlying t=some (.interface ms)):
 ∃ev,w.cell? ⟨g,0,none⟩=some ev/\(ev=.nilIface\/∃te pe,ev=.iface te pe):=by
 obtain⟨g',t',cs,fuel,p,hg',ht',hvar,hd⟩:=h;obtain rfl:=Option.some.inj (hg.symm.trans hg');obtain rfl:=Option.some.inj (hty.symm.trans ht');have hcell:=World.var?_cell hg' hvar 0
 have key:∃u v,cs.toList=[Value.iface u v]:=by
  cases fuel with
  |zero=>simp[DataW.trod]at hd
  |succ fuel=>
   unfold DataW.trod at hd;rw[ht]at hd;split at hd
   all_goals first
    |(rename_i h;exact⟨_,_,h⟩)
    |exact⟨_,_,by assumption⟩
    |simp_all
 obtain⟨u,v,hc⟩:=key;refine⟨_,?_,Or.inr ⟨u,v,rfl⟩⟩;rw[hcell,<-Array.getElem?_toList,hc];rfl
theorem bld:((begin Tryz.prog (fun _ _=>0) default).world.heap[0]?).bind Obj.row? =some (#[.int .i64 0],3):=by kernel_rfl
theorem AOB{w:World}(h:w.ShapedOpen Tryz.prog):∃m,w.cell? ⟨0,0,none⟩=some (.int .i64 m):=by
 obtain⟨cs,h1,h2,h3⟩:=h.1 0 _ _ (of_decide_eq_true (by kernel_rfl)) bld;obtain⟨ts,h4,_,h5⟩:=h3 (by kernel_rfl);have e4:Tryz.prog.cellTypes Tryz.prog.depth 3=some [3]:=by kernel_rfl
 rw[e4]at h4;cases h4;have hs:cs.size=1:=h2;obtain⟨u,h6,h7⟩:=h5 0 cs[0] (Array.getElem?_eq_getElem (by omega));have h6:some 3=some u:=h6;cases h6;have hu:Tryz.prog.underlying 3=some (.int .i64):=Tryz.underlying3;unfold Cell.ok at h7;rw[hu]at h7;split at h7<;>first|(rename_i a b;cases a;done)|skip
 all_goals try (exact h7.elim)
 all_goals
  rename_i k k' n a b;cases a;obtain⟨rfl,_⟩:=h7;refine⟨n,?_⟩;simp only[World.cell?,h1];simp[Array.getElem?_eq_getElem (show 0<cs.size by omega),b]
theorem facts{W:World}(hL:laidMetH Tryz.prog Rows.planConflictsAreLeastUptoRow.laid W)(hsh:W.ShapedOpen Tryz.prog):Pv.Facts W:=by
 have h:laidMet Tryz.prog Rows.planConflictsAreLeastUptoRow.laid W:=by
  rw[MakeChecks.laidMetH_plain _ _ _ (by kernel_rfl)]at hL;exact hL
 have r2:VarReads Tryz.prog W "internal/strconv.uint64pow10" Rows.laid_internal_strconv_uint64pow10:=laidMet.reads h (.tail _ (.tail _ (.head _)));have r3:VarReads Tryz.prog W "unicode/utf8.acceptRanges" Rows.laid_unicode_utf8_acceptRanges:=laidMet.reads h (.tail _ (.tail _ (.tail _ (.head _))));have r4:VarReads Tryz.prog W "strconv.ErrRange" Rows.laid_strconv_ErrRange:=laidMet.reads h (.tail _ (.tail _ (.tail _ (.tail _ (.head _)))));have r5:VarReads Tryz.prog W "strconv.ErrSyntax" Rows.laid_strconv_ErrSyntax:=laidMet.reads h (.tail _ (.tail _ (.tail _ (.tail _ (.tail _ (.head _))))));have r6:VarReads Tryz.prog W "unicode.CaseRanges" Rows.laid_unicode_CaseRanges:=laidMet.reads h (.tail _ (.tail _ (.tail _ (.tail _ (.tail _ (.tail _ (.head _)))))));have r7:VarReads Tryz.prog W "unicode/utf8.first" Rows.laid_unicode_utf8_first:=laidMet.reads h (.tail _ (.tail _ (.tail _ (.tail _ (.tail _ (.tail _ (.tail _ (.head _))))))));refine⟨?_,?_,?_,AOB hsh,?_,?_⟩
 ·have e:(Rows.laid_internal_strconv_uint64pow10:DataW Unit)=tabData .u64 Lib.pow10Tab:=by kernel_rfl
  rw[e]at r2;exact AOA r2 (by kernel_rfl) (by kernel_rfl) Tryz.underlying454 Tryz.underlying253 (by kernel_rfl) (by kernel_rfl)
 ·have e:Rows.laid_unicode_CaseRanges=caseData:=Pinned.caseRanges_eq;rw[e]at r6;exact caseVar_of_reads (ρ:=Tryz.lays159_ren) {Tryz.lays159 with} (by kernel_rfl) ⟨by kernel_rfl,by kernel_rfl,by kernel_rfl,by kernel_rfl,by kernel_rfl,by kernel_rfl⟩ r6
 ·have e:Rows.laid_unicode_utf8_first=firstData:=Pinned.utf8First_eq;have e2:(Rows.laid_unicode_utf8_acceptRanges:DataW Unit)=acceptData:=by kernel_rfl
  rw[e]at r7;rw[e2]at r3;exact utf8Tabs_of_readsT (ρ:=Tryz.lays159_ren) {Tryz.lays159 with} ⟨by kernel_rfl,by kernel_rfl,by kernel_rfl,by kernel_rfl,by kernel_rfl,by kernel_rfl,by kernel_rfl⟩ r7 r3
 ·exact A5Q (t:=304) r5 (by kernel_rfl) (by kernel_rfl) Tryz.underlying304
 ·exact A5Q (t:=304) r4 (by kernel_rfl) (by kernel_rfl) Tryz.underlying304
end Go.Proofs.YtlljgbmoloklgaaGreatDoor.least
namespace Go.Proofs.YtlljgbmoloklgaaGreatDoor.least
open Go.ChangeShapes Go.WideShapes Go.ChangeAt Go.ChangeMaps Go.RowKit Go.Ev Go.Lib
theorem AOC:laidOutB Tryz.prog=true:=by kernel_rfl
theorem AOD{H:Type}(d:DataW H):1<=Rows.uptoBulk d:=by
 cases d with
 |lit l=>cases l<;>simp[Rows.uptoBulk]
 |nil=>simp[Rows.uptoBulk]
 |ptr d=>simp[Rows.uptoBulk]
 |slice elems spare=>simp[Rows.uptoBulk]
 |agg parts=>simp[Rows.uptoBulk]
 |iface t d=>simp[Rows.uptoBulk]
 |map entries=>simp[Rows.uptoBulk]
 |held h=>simp[Rows.uptoBulk]
def dQ(H:Type):Bulk H:=⟨Rows.uptoBulk,Rows.uptoBulkAll,fun s=>by simp[Rows.uptoBulk],AOD,fun a b=>by simp[Rows.uptoBulk],fun l=>by simp[Rows.uptoBulk],by simp[Rows.uptoBulkAll],fun d l=>by simp[Rows.uptoBulkAll]⟩
theorem AOE:Ev.Lay Tryz.prog (Ty.agg Pv.tTask) 34:=by unfold Ev.Lay;kernel_rfl
theorem AOF{W:World}(h:Pv.Facts W):HM W (M4 W):=⟨fun _ _ h=>h,fun _ h=>h,W,h,fun _ hb=>⟨hb,rfl⟩⟩
theorem AOG(W:World)(hF:Pv.Facts W)(x0:(Ty.agg Pv.tTask).T)(v0:Value)(h0:VRel W (M4 W) (Ty.agg Pv.tTask) x0 v0)
 (l0:Ty.bulk (Pv.tTask) x0<=1048576):
 Calls Tryz.prog 3 #[v0] W fun e w'=>e=.returned (.bool true)/\Same W w':=
 (Pv.L10_PlanConflictsAreLeast_ok.2 W (M4 W) (x0) [v0] [] (AOF hF) ⟨_,rfl,h0,rfl⟩ .nil true
  (Pv.law15u x0 l0)).mono
  fun _ _ ⟨_,_,_,_,he,_,hr,ha,hsh,_⟩=>ANu he hr ha hsh
theorem AOH(H:Type)(enc:TypeId×Value->H)(W:World)(base:Nat)(args:Array Value)(ds gs:List (DataW H))(before:List MemPlace)
 (hval:∀(j:Nat) t v,Tryz.f3.params[j]?=some t->args[j]?=some v->Value.okWide Tryz.prog W .any base t v)
 (hW:DataW.Whole enc Tryz.prog Tryz.f3.params.toList Rows.planConflictsAreLeastSpec.vars false W args.toList ds gs before)
 (hk:Rows.uptoSmall H (ds++gs)=true)(hL:laidMetH Tryz.prog Rows.planConflictsAreLeastUptoRow.laid W)(hsh:W.ShapedOpen Tryz.prog):
 Calls Tryz.prog 3 args W fun e W'=>∃v,e=.returned v/\Rows.planConflictsAreLeastSpec.post enc Tryz.prog Tryz.f3 false true false false W args v W':=by
 have hW':=hW;obtain⟨p,q,hA0,hV,rfl,hfz,hnd⟩:=hW;have hlt:=hA0.lt;have hA:DataW.TrodAll enc Tryz.prog W 0 (fun _=>true) true Tryz.f3.params.toList args.toList ds p:=hA0;rw[Tryz.params3]at hA hval;obtain⟨v0,vs0,d0,ds0,p0,q0,hargs0,rfl,rfl,h0,r0⟩:=trodAll_cons hA;obtain⟨rfl,rfl,rfl⟩:=trodAll_nil r0;obtain rfl:args= #[v0]:=by cases args;simp_all
 obtain⟨rfl,rfl⟩:=trodVars_none hV
 have hb:(dQ H).all [d0]<=1048576:=by
  show Rows.uptoBulkAll [d0]<=1048576;have hk':decide (Rows.uptoBulkAll ([d0]++[])<=1048576)=true:=hk;exact of_decide_eq_true hk'
 rw[(dQ H).cons,(dQ H).nil]at hb;obtain⟨x0,e0,l0⟩:=ANt (dQ H) (K:=1048576) (by decide) (t:=Pv.tTask) rfl AOE (hval 0 34 v0 rfl rfl) h0 (by omega);refine(AOG W (facts hL hsh) x0 v0 e0 (by omega)).mono fun e W' ⟨he,hg⟩=>?_;subst he;refine⟨_,rfl,ANv (pa:=p0++[]) (pv:=[]) hW' (fun _ _ _=>trodAll_cons_mk (shut_bool Tryz.underlying4 _) trodAll_mk0) ?_ rfl (by simp) (hg.kept _)⟩;rw[Tryz.params3];exact trodAll_cons_mk (Below.trod AOC (by kernel_rfl) (of_decide_eq_true (by kernel_rfl)) h0 hg.below fun x hx=>hlt x (by simp[hx])) trodAll_mk0
end Go.Proofs.YtlljgbmoloklgaaGreatDoor.least
namespace Go.Proofs.YtlljgbmoloklgaaGreatDoor.least
open Go.ChangeShapes Go.WideShapes Go.ChangeAt Go.ChangeMaps Go.RowKit Go.Ev Go.Lib
theorem AOI(os:Os):laidMet Tryz.prog Rows.planConflictsAreLeastUptoRow.laid ((World.laidAll Tryz.prog os Rows.planConflictsAreLeastUptoRow.laid).forCall (fun _ _=>0) ⟨#[],#[.agg #[.slice none 0 0,.slice none 0 0,.int .i64 0,.slice none 0 0,.slice none 0 0,.bool false,.int .i64 0,.slice none 0 0,.slice none 0 0]],[]⟩).memory:=
 laidMet_laidAll _ (by kernel_rfl) (by kernel_rfl)
theorem AOJ(os:Os):((World.laidAll Tryz.prog os Rows.planConflictsAreLeastUptoRow.laid).forCall (fun _ _=>0) ⟨#[],#[.agg #[.slice none 0 0,.slice none 0 0,.int .i64 0,.slice none 0 0,.slice none 0 0,.bool false,.int .i64 0,.slice none 0 0,.slice none 0 0]],[]⟩).Shaped Tryz.prog:=
 World.shaped_of_ZipB (by kernel_rfl) (by kernel_rfl)
theorem reads(os:Os){H:Type}(enc:TypeId×Value->H):∃places,DataW.whole enc Tryz.prog ((World.laidAll Tryz.prog os Rows.planConflictsAreLeastUptoRow.laid).forCall (fun _ _=>0) ⟨#[],#[.agg #[.slice none 0 0,.slice none 0 0,.int .i64 0,.slice none 0 0,.slice none 0 0,.bool false,.int .i64 0,.slice none 0 0,.slice none 0 0]],[]⟩).memory Tryz.f3.params.toList Rows.planConflictsAreLeastSpec.vars false #[.agg #[.slice none 0 0,.slice none 0 0,.int .i64 0,.slice none 0 0,.slice none 0 0,.bool false,.int .i64 0,.slice none 0 0,.slice none 0 0]].toList 8=
 some ([.agg [.agg [.nil],.nil,.lit (.int .i64 0),.nil,.nil,.lit (.bool false),.agg [.lit (.int .i64 0),.nil,.nil]]],[],places):=
 ⟨[],by kernel_rfl⟩
end Go.Proofs.YtlljgbmoloklgaaGreatDoor.least
namespace Go.Proofs.YtlljgbmoloklgaaGreatDoor.least
open Go.ChangeShapes Go.WideShapes Go.ChangeAt Go.ChangeMaps Go.RowKit Go.Ev Go.Lib
theorem own:ownKnob Tryz.prog.godebug=none:=by kernel_rfl
theorem lifted(os:Os)(started:os.Started)(H:Type)(enc:TypeId×Value->H)(F:Stop.Interp):
 ReturnsInHanded {} Tryz.checked os 3 .any ((Rows.OpenSpec.upto Rows.planConflictsAreLeastSpec).preRow enc Tryz.prog Tryz.f3 Rows.planConflictsAreLeastUptoRow.domain false Rows.planConflictsAreLeastUptoRow.laid) (((Rows.OpenSpec.upto Rows.planConflictsAreLeastSpec).at F).post enc Tryz.prog Tryz.f3 false true false false):=by
 obtain⟨places,hx⟩:=reads os enc
 refine returnsInHanded_of_row (C:=Tryz.checked) (s:=Rows.OpenSpec.upto Rows.planConflictsAreLeastSpec) own started (by kernel_rfl) Tryz.func3
  (ANw (enc:=enc) (C:=Tryz.checked) (World.laidAll Tryz.prog os Rows.planConflictsAreLeastUptoRow.laid) #[.agg #[.slice none 0 0,.slice none 0 0,.int .i64 0,.slice none 0 0,.slice none 0 0,.bool false,.int .i64 0,.slice none 0 0,.slice none 0 0]] (World.laidAll_os _ _ _) (AOJ os) (by kernel_rfl)
   (OpenSpec.preRow_of_cond 8 hx (by kernel_rfl) (fun k hk=>by cases hk;kernel_rfl) (by kernel_rfl) (by rw[MakeChecks.laidMetH_plain _ _ _ (by kernel_rfl)];exact AOI os))) ?_
 intro W base args ds gs before hval hW _ hcond _ hL hsh _;exact AOH H enc W base args ds gs before hval hW (hcond _ rfl) hL hsh
end Go.Proofs.YtlljgbmoloklgaaGreatDoor.least
