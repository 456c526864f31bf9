/-
  WHAT THE LISTED VARIABLES HOLD. FOR: called with any product and any statement, of bulk at most 1048576 together, the law VerdictMattersIsWhatChanges returns true, and all that there was stays as it was: the row's tied card of the second form.; THE CALL OF THE LAW, from what comes in to what goes ou
-/
import Derived.Test.YtkmlfnhigaoplaaGreatDoorMK
import Derived.Test.YtkmlfnhigaoplaaGreatDoorMH
import Derived.Lib.LaidU8T
import Derived.PinnedBridge
import Derived.Test.YtkmlfnhigaoplaaGreatDoorCards
import Derived.Test.YtkmlfnhigaoplaaGreatDoorTie
import Derived.ProofKit
set_option linter.all false
set_option maxRecDepth 100000
namespace Go.Proofs.YtkmlfnhigaoplaaGreatDoor.matters
open Go.ChangeShapes Go.WideShapes Go.ChangeAt Go.ChangeMaps Go.RowKit Go.Ev Go.Lib
theorem Ad9{w:World}{n:String}{k:IntKind}{z:List Int}{g t e m:Nat}(h:VarReads Tryz.prog w n (tabData k z))
 (C:Tryz.prog.globalNamed n=some g)(x:(Tryz.prog.globals[g]?).map (·.type)=some t)(E:Tryz.prog.underlying t=some (.array m e))(B:Tryz.prog.underlying e=some (.int k))(d:Tryz.prog.cellsOf e=1)(l:Tryz.prog.cellsOf t=m):
 Pv.HoldsTab w g k z:=by
 obtain⟨H,I,G,fuel,p,b,s,a,A⟩:=h;obtain rfl:=Option.some.inj (C.symm.trans b);obtain rfl:=Option.some.inj (x.symm.trans s);have j:=cells_of_tab E B d l A;unfold World.var? at a;rw[b]at a;simp only[Option.bind_some]at a;split at a
 .rename_i y el fz D;cases a;refine⟨el,fz,?_⟩;rw[D,<-j]
 .cases a
theorem AEj{w:World}{n B:String}{d:DataW Unit}{g t:Nat}{ms:Array (String×TypeId)}(h:VarReads Tryz.prog w n (.iface B d))
 (z:Tryz.prog.globalNamed n=some g)(s:(Tryz.prog.globals[g]?).map (·.type)=some t)(A:Tryz.prog.underlying t=some (.interface ms)):
 ∃l,w.cell? ⟨g,0,none⟩=some l/\(l=.nilIface\/∃D C,l=.iface D C):=by
 obtain⟨E,G,x,fuel,p,b,m,e,j⟩:=h;obtain rfl:=Option.some.inj (z.symm.trans b);obtain rfl:=Option.some.inj (s.symm.trans m);have a:=World.var?_cell b e 0
 have key:∃u v,x.toList=[Value.iface u v]:=by
  cases fuel with
  |zero=>simp[DataW.trod]at j
  |succ fuel=>
   unfold DataW.trod at j;rw[A]at j;split at j
   all_goals first
    |(rename_i h;exact⟨_,_,h⟩)
    |exact⟨_,_,by assumption⟩
    |simp_all
 obtain⟨u,v,y⟩:=key;refine⟨_,?_,Or.inr ⟨u,v,rfl⟩⟩;rw[a,<-Array.getElem?_toList,y];rfl
theorem bld:((begin Tryz.prog (λ_ _=>0) default).world.heap[0]?).bind Obj.row? =some (#[.int .i64 0],3):=oe
theorem AdA{w:World}(h:w.ShapedOpen Tryz.prog):∃m,w.cell? ⟨0,0,none⟩=some (.int .i64 m):=by
 obtain⟨e,h1,s,x⟩:=h.1 0 _ _ (of_decide_eq_true oe) bld;obtain⟨C,l,_,y⟩:=x oe;have p:Tryz.prog.cellTypes Tryz.prog.depth 3=some [3]:=oe
 rw[p]at l;cases l;have A:e.size=1:=s;obtain⟨u,j,d⟩:=y 0 e[0] (Array.getElem?_eq_getElem oa);have j:some 3=some u:=j;cases j;have z:Tryz.prog.underlying 3=some (.int .i64):=Tryz.underlying3;unfold Cell.ok at d;rw[z]at d;split at d<;>first|(rename_i a b;cases a;done)|skip
 all_goals try (exact d.elim)
 all_goals
  rename_i k B n a b;cases a;obtain⟨rfl,_⟩:=d;refine⟨n,?_⟩;simp only[World.cell?,h1];simp[Array.getElem?_eq_getElem (show 0<e.size by omega),b]
theorem facts{W:World}(b:laidMetH Tryz.prog Rows.verdictMattersIsWhatChangesUptoRow.laid W)(a:W.ShapedOpen Tryz.prog):Pv.Facts W:=by
 have h:laidMet Tryz.prog Rows.verdictMattersIsWhatChangesUptoRow.laid W:=by
  rw[MakeChecks.laidMetH_plain _ _ _ oe]at b;exact b
 have d:VarReads Tryz.prog W "internal/strconv.uint64pow10" Rows.laid_internal_strconv_uint64pow10:=laidMet.reads h (.tail _ (.tail _ (.head _)));have j:VarReads Tryz.prog W "unicode/utf8.acceptRanges" Rows.laid_unicode_utf8_acceptRanges:=laidMet.reads h (.tail _ (.tail _ (.tail _ (.head _))));have s:VarReads Tryz.prog W "strconv.ErrRange" Rows.laid_strconv_ErrRange:=laidMet.reads h (.tail _ (.tail _ (.tail _ (.tail _ (.head _)))));have w:VarReads Tryz.prog W "strconv.ErrSyntax" Rows.laid_strconv_ErrSyntax:=laidMet.reads h (.tail _ (.tail _ (.tail _ (.tail _ (.tail _ (.head _))))));have l:VarReads Tryz.prog W "unicode.CaseRanges" Rows.laid_unicode_CaseRanges:=laidMet.reads h (.tail _ (.tail _ (.tail _ (.tail _ (.tail _ (.tail _ (.head _)))))));have m:VarReads Tryz.prog W "unicode/utf8.first" Rows.laid_unicode_utf8_first:=laidMet.reads h (.tail _ (.tail _ (.tail _ (.tail _ (.tail _ (.tail _ (.tail _ (.head _))))))));refine⟨?_,?_,?_,AdA a,?_,?_⟩
 .have e:(Rows.laid_internal_strconv_uint64pow10:DataW Unit)=tabData .u64 Lib.pow10Tab:=oe
  rw[e]at d;exact Ad9 d oe oe Tryz.underlying563 Tryz.underlying182 oe oe
 .have e:Rows.laid_unicode_CaseRanges=caseData:=Pinned.caseRanges_eq;rw[e]at l;exact caseVar_of_reads (ρ:=uy) {vv with} oe ⟨oe,oe,oe,oe,oe,oe⟩ l
 .have e:Rows.laid_unicode_utf8_first=firstData:=Pinned.utf8First_eq;have p:(Rows.laid_unicode_utf8_acceptRanges:DataW Unit)=acceptData:=oe
  rw[e]at m;rw[p]at j;exact utf8Tabs_of_readsT (ρ:=uy) {vv with} ⟨oe,oe,oe,oe,oe,oe,oe⟩ m j
 .exact AEj (t:=330) w oe oe Tryz.underlying330
 .exact AEj (t:=330) s oe oe Tryz.underlying330
end Go.Proofs.YtkmlfnhigaoplaaGreatDoor.matters
namespace Go.Proofs.YtkmlfnhigaoplaaGreatDoor.matters
open Go.ChangeShapes Go.WideShapes Go.ChangeAt Go.ChangeMaps Go.RowKit Go.Ev Go.Lib
theorem AEk:laidOutB Tryz.prog=true:=oe
theorem AdC{H:Type}(d:DataW H):1<=Rows.uptoBulk d:=by
 cases d with
 |lit l=>cases l<;>simp[Rows.uptoBulk]
 |nil=>simp[Rows.uptoBulk]
 |ptr d=>simp[Rows.uptoBulk]
 |slice e s=>simp[Rows.uptoBulk]
 |agg p=>simp[Rows.uptoBulk]
 |iface t d=>simp[Rows.uptoBulk]
 |map entries=>simp[Rows.uptoBulk]
 |held h=>simp[Rows.uptoBulk]
def XH(H:Type):Bulk H:=⟨Rows.uptoBulk,Rows.uptoBulkAll,λs=>by simp[Rows.uptoBulk],AdC,λa b=>by simp[Rows.uptoBulk],λl=>by simp[Rows.uptoBulk],by simp[Rows.uptoBulkAll],λd l=>by simp[Rows.uptoBulkAll]⟩
theorem AdD:Ev.Lay Tryz.prog (Ty.agg Pv.tProd) 34:=by unfold Ev.Lay;kernel_rfl
theorem AdE:Ev.Lay Tryz.prog (Ty.agg Pv.tStmt) 45:=by unfold Ev.Lay;kernel_rfl
theorem AdF{W:World}(h:Pv.Facts W):HQ W (OB W):=⟨λ_ _ h=>h,λ_ h=>h,W,h,λ_ a=>⟨a,rfl⟩⟩
theorem AdG(W:World)(j:Pv.Facts W)(x:(Ty.agg Pv.tProd).T)(a:(Ty.agg Pv.tStmt).T)(b d:Value)(h0:VRel W (OB W) (Ty.agg Pv.tProd) x b)(h1:VRel W (OB W) (Ty.agg Pv.tStmt) a d)
 (s:Ty.bulk (Pv.tProd) x<=1048576)(w:Ty.bulk (Pv.tStmt) a<=1048576):
 Calls Tryz.prog 4 #[b,d] W λe y=>e=.returned (.bool true)/\Same W y:=
 (Pv.L7_VerdictMattersIsWhatChanges_ok.2 W (OB W) (x,a) [b,d] [] (AdF j) ⟨_,_,[],[],rfl,rfl,⟨h0,rfl⟩,_,rfl,h1,rfl⟩ .nil true
  (Pv.law32u x a s w)).mono
  λ_ _ ⟨_,_,_,_,m,_,p,l,h,_⟩=>AcP m p l h
theorem AdH(H:Type)(enc:TypeId×Value->H)(W:World)(base:Nat)(args:Array Value)(ds G:List (DataW H))(b:List MemPlace)
 (h:∀(j:Nat) t v,Tryz.f4.params[j]?=some t->args[j]?=some v->Value.okWide Tryz.prog W .any base t v)
 (J:DataW.Whole enc Tryz.prog Tryz.f4.params.toList Rows.verdictMattersIsWhatChangesSpec.vars false W args.toList ds G b)
 (hk:Rows.uptoSmall H (ds++G)=true)(N:laidMetH Tryz.prog Rows.verdictMattersIsWhatChangesUptoRow.laid W)(B:W.ShapedOpen Tryz.prog):
 Calls Tryz.prog 4 args W λe W'=>∃v,e=.returned v/\Rows.verdictMattersIsWhatChangesSpec.post enc Tryz.prog Tryz.f4 false true false false W args v W':=by
 have y:=J;obtain⟨p,q,d,O,rfl,T,U⟩:=J;have l:=d.lt;have I:DataW.TrodAll enc Tryz.prog W 0 (λ_=>true) true Tryz.f4.params.toList args.toList ds p:=d;rw[Tryz.params4]at I h;obtain⟨D,Y,s,K,p0,q0,m,rfl,rfl,h0,V⟩:=trodAll_cons I;obtain⟨E,Z,w,L,p1,q1,a,rfl,rfl,h1,X⟩:=trodAll_cons V;subst a;obtain⟨rfl,rfl,rfl⟩:=trodAll_nil X;obtain rfl:args= #[D,E]:=by cases args;simp_all
 obtain⟨rfl,rfl⟩:=trodVars_none O
 have Q:(XH H).all [s,w]<=1048576:=by
  show Rows.uptoBulkAll [s,w]<=1048576;have A:decide (Rows.uptoBulkAll ([s,w]++[])<=1048576)=true:=hk;exact of_decide_eq_true A
 rw[(XH H).cons,(XH H).cons,(XH H).nil]at Q;obtain⟨x0,e0,l0⟩:=AEg (XH H) (K:=1048576) oi (t:=Pv.tProd) rfl AdD (h 0 34 D rfl rfl) h0 oa;obtain⟨x1,M,l1⟩:=AEg (XH H) (K:=1048576) oi (t:=Pv.tStmt) rfl AdE (h 1 45 E rfl rfl) h1 oa;refine(AdG W (facts N B) x0 x1 D E e0 M oa oa).mono λe W' ⟨R,z⟩=>?_;subst R;refine⟨_,rfl,AcQ (pa:=p0++(p1++[])) (pv:=[]) y (λ_ _ _=>trodAll_cons_mk (shut_bool Tryz.underlying4 _) trodAll_mk0) ?_ rfl oh (z.kept _)⟩;rw[Tryz.params4];exact trodAll_cons_mk (Below.trod AEk oe (of_decide_eq_true oe) h0 z.below λx C=>l x (by simp[C])) (trodAll_cons_mk (Below.trod AEk oe (of_decide_eq_true oe) h1 z.below λx C=>l x (by simp[C])) trodAll_mk0)
end Go.Proofs.YtkmlfnhigaoplaaGreatDoor.matters
namespace Go.Proofs.YtkmlfnhigaoplaaGreatDoor.matters
open Go.ChangeShapes Go.WideShapes Go.ChangeAt Go.ChangeMaps Go.RowKit Go.Ev Go.Lib
theorem AdI(os:Os):laidMet Tryz.prog Rows.verdictMattersIsWhatChangesUptoRow.laid ((World.laidAll Tryz.prog os Rows.verdictMattersIsWhatChangesUptoRow.laid).forCall (λ_ _=>0) ⟨#[],#[.agg #[.string ⟨#[]⟩,.string ⟨#[]⟩,.string ⟨#[]⟩,.slice none 0 0,.slice none 0 0,.int .i64 0,.int .i64 0,.slice none 0 0,.slice none 0 0,.slice none 0 0,.int .i64 0,.slice none 0 0,.slice none 0 0],.agg #[.string ⟨#[]⟩,.string ⟨#[]⟩,.string ⟨#[]⟩,.int .i64 0,.int .i64 0,.int .i64 0,.int .i64 0]],[]⟩).memory:=
 laidMet_laidAll _ oe oe
theorem AdJ(os:Os):((World.laidAll Tryz.prog os Rows.verdictMattersIsWhatChangesUptoRow.laid).forCall (λ_ _=>0) ⟨#[],#[.agg #[.string ⟨#[]⟩,.string ⟨#[]⟩,.string ⟨#[]⟩,.slice none 0 0,.slice none 0 0,.int .i64 0,.int .i64 0,.slice none 0 0,.slice none 0 0,.slice none 0 0,.int .i64 0,.slice none 0 0,.slice none 0 0],.agg #[.string ⟨#[]⟩,.string ⟨#[]⟩,.string ⟨#[]⟩,.int .i64 0,.int .i64 0,.int .i64 0,.int .i64 0]],[]⟩).Shaped Tryz.prog:=
 World.shaped_of_ZipB oe oe
theorem reads(os:Os){H:Type}(enc:TypeId×Value->H):∃p,DataW.whole enc Tryz.prog ((World.laidAll Tryz.prog os Rows.verdictMattersIsWhatChangesUptoRow.laid).forCall (λ_ _=>0) ⟨#[],#[.agg #[.string ⟨#[]⟩,.string ⟨#[]⟩,.string ⟨#[]⟩,.slice none 0 0,.slice none 0 0,.int .i64 0,.int .i64 0,.slice none 0 0,.slice none 0 0,.slice none 0 0,.int .i64 0,.slice none 0 0,.slice none 0 0],.agg #[.string ⟨#[]⟩,.string ⟨#[]⟩,.string ⟨#[]⟩,.int .i64 0,.int .i64 0,.int .i64 0,.int .i64 0]],[]⟩).memory Tryz.f4.params.toList Rows.verdictMattersIsWhatChangesSpec.vars false #[.agg #[.string ⟨#[]⟩,.string ⟨#[]⟩,.string ⟨#[]⟩,.slice none 0 0,.slice none 0 0,.int .i64 0,.int .i64 0,.slice none 0 0,.slice none 0 0,.slice none 0 0,.int .i64 0,.slice none 0 0,.slice none 0 0],.agg #[.string ⟨#[]⟩,.string ⟨#[]⟩,.string ⟨#[]⟩,.int .i64 0,.int .i64 0,.int .i64 0,.int .i64 0]].toList 8=
 some ([.agg [.agg [.lit (.string []),.lit (.string []),.lit (.string []),.nil,.nil],.lit (.int .i64 0),.agg [.lit (.int .i64 0),.nil,.nil],.nil,.lit (.int .i64 0),.nil,.nil],.agg [.lit (.string []),.lit (.string []),.lit (.string []),.lit (.int .i64 0),.lit (.int .i64 0),.lit (.int .i64 0),.lit (.int .i64 0)]],[],p):=
 ⟨[],oe⟩
end Go.Proofs.YtkmlfnhigaoplaaGreatDoor.matters
namespace Go.Proofs.YtkmlfnhigaoplaaGreatDoor.matters
open Go.ChangeShapes Go.WideShapes Go.ChangeAt Go.ChangeMaps Go.RowKit Go.Ev Go.Lib
theorem own:ownKnob Tryz.prog.godebug=none:=oe
theorem lifted(os:Os)(s:os.Started)(H:Type)(enc:TypeId×Value->H)(F:Stop.Interp):
 ReturnsInHanded {} Tryz.checked os 4 .any ((Rows.OpenSpec.upto Rows.verdictMattersIsWhatChangesSpec).preRow enc Tryz.prog Tryz.f4 Rows.verdictMattersIsWhatChangesUptoRow.domain false Rows.verdictMattersIsWhatChangesUptoRow.laid) (((Rows.OpenSpec.upto Rows.verdictMattersIsWhatChangesSpec).at F).post enc Tryz.prog Tryz.f4 false true false false):=by
 obtain⟨p,x⟩:=reads os enc
 refine returnsInHanded_of_row (C:=Tryz.checked) (s:=Rows.OpenSpec.upto Rows.verdictMattersIsWhatChangesSpec) own s oe Tryz.func4
  (AcR (enc:=enc) (C:=Tryz.checked) (World.laidAll Tryz.prog os Rows.verdictMattersIsWhatChangesUptoRow.laid) #[.agg #[.string ⟨#[]⟩,.string ⟨#[]⟩,.string ⟨#[]⟩,.slice none 0 0,.slice none 0 0,.int .i64 0,.int .i64 0,.slice none 0 0,.slice none 0 0,.slice none 0 0,.int .i64 0,.slice none 0 0,.slice none 0 0],.agg #[.string ⟨#[]⟩,.string ⟨#[]⟩,.string ⟨#[]⟩,.int .i64 0,.int .i64 0,.int .i64 0,.int .i64 0]] (World.laidAll_os _ _ _) (AdJ os) oe
   (OpenSpec.preRow_of_cond 8 x oe (λk hk=>by cases hk;kernel_rfl) oe (by rw[MakeChecks.laidMetH_plain _ _ _ oe];exact AdI os))) ?_
 intro W base a j l b d w _ h _ m e _;exact AdH H enc W base a j l b d w (h _ rfl) m e
end Go.Proofs.YtkmlfnhigaoplaaGreatDoor.matters
