/-
  WHAT THE LISTED VARIABLES HOLD. FOR: called with any product of bulk at most 1048576, the law TopWitnessesCheck returns true, and all that there was stays as it was: the row's tied card of the second form.; THE CALL OF THE LAW, from what comes in to what goes out.; AN INPUT THAT FITS.; THE ROW's STE
-/
import Derived.Test.YtkmeffadhdmdhaaGreatDoorK
import Derived.Test.YtkmeffadhdmdhaaGreatDoorH
import Derived.Lib.LaidU8T
import Derived.PinnedBridge
import Derived.Test.YtkmeffadhdmdhaaGreatDoorCards
import Derived.Test.YtkmeffadhdmdhaaGreatDoorTie
import Derived.ProofKit
set_option linter.all false
set_option maxRecDepth 100000
namespace Go.Proofs.YtkmeffadhdmdhaaGreatDoor.witness
open Go.ChangeShapes Go.WideShapes Go.ChangeAt Go.ChangeMaps Go.RowKit Go.Ev Go.Lib
theorem Ag6{w:World}{n:String}{k:IntKind}{z:List Int}{g t e m:Nat}(h:VarReads Tryz.prog w n (tabData k z))
 (B:Tryz.prog.globalNamed n=some g)(x:(Tryz.prog.globals[g]?).map (·.type)=some t)(D:Tryz.prog.underlying t=some (.array m e))(A:Tryz.prog.underlying e=some (.int k))(d:Tryz.prog.cellsOf e=1)(l:Tryz.prog.cellsOf t=m):
 Pv.HoldsTab w g k z:=by
 obtain⟨G,H,E,fuel,p,b,s,a,hd⟩:=h;obtain rfl:=Option.some.inj (B.symm.trans b);obtain rfl:=Option.some.inj (x.symm.trans s);have j:=cells_of_tab D A d l hd;unfold World.var? at a;rw[b]at a;simp only[Option.bind_some]at a;split at a
 .rename_i y el fz C;cases a;refine⟨el,fz,?_⟩;rw[C,<-j]
 .cases a
theorem AFi{w:World}{n A:String}{d:DataW Unit}{g t:Nat}{ms:Array (String×TypeId)}(h:VarReads Tryz.prog w n (.iface A d))
 (y:Tryz.prog.globalNamed n=some g)(m:(Tryz.prog.globals[g]?).map (·.type)=some t)(z:Tryz.prog.underlying t=some (.interface ms)):
 ∃j,w.cell? ⟨g,0,none⟩=some j/\(j=.nilIface\/∃C B,j=.iface C B):=by
 obtain⟨D,E,s,fuel,p,b,l,e,hd⟩:=h;obtain rfl:=Option.some.inj (y.symm.trans b);obtain rfl:=Option.some.inj (m.symm.trans l);have a:=World.var?_cell b e 0;have key:∃u v,s.toList=[Value.iface u v]:=by
  cases fuel with
  |zero=>simp[DataW.trod]at hd
  |succ fuel=>
   unfold DataW.trod at hd;rw[z]at hd;split at hd
   all_goals first
    |(rename_i h;exact⟨_,_,h⟩)
    |exact⟨_,_,by assumption⟩
    |simp_all
 obtain⟨u,v,x⟩:=key;refine⟨_,?_,Or.inr ⟨u,v,rfl⟩⟩;rw[a,<-Array.getElem?_toList,x];rfl
theorem R9:((begin Tryz.prog (λ_ _=>0) default).world.heap[0]?).bind Obj.row? =some (#[.int .i64 0],3):=oe
theorem Ag7{w:World}(h:w.ShapedOpen Tryz.prog):∃m,w.cell? ⟨0,0,none⟩=some (.int .i64 m):=by
 obtain⟨e,s,x,y⟩:=h.1 0 _ _ (of_decide_eq_true oe) R9;obtain⟨D,l,_,z⟩:=y oe;have p:Tryz.prog.cellTypes Tryz.prog.depth 3=some [3]:=oe;rw[p]at l;cases l;have B:e.size=1:=x;obtain⟨u,j,d⟩:=z 0 e[0] (Array.getElem?_eq_getElem oa);have j:some 3=some u:=j;cases j;have A:Tryz.prog.underlying 3=some (.int .i64):=Tryz.underlying3;unfold Cell.ok at d;rw[A]at d;split at d<;>first|(rename_i a b;cases a;done)|skip
 all_goals try (exact d.elim)
 all_goals
  rename_i k C n a b;cases a;obtain⟨rfl,_⟩:=d;refine⟨n,?_⟩;simp only[World.cell?,s];simp[Array.getElem?_eq_getElem (show 0<e.size by omega),b]
theorem facts{W:World}(b:laidMetH Tryz.prog Rows.topWitnessesCheckUptoRow.laid W)(a:W.ShapedOpen Tryz.prog):Pv.l8 W:=by
 have h:laidMet Tryz.prog Rows.topWitnessesCheckUptoRow.laid W:=by rw[MakeChecks.laidMetH_plain _ _ _ oe]at b;exact b
 have d:VarReads Tryz.prog W "internal/strconv.uint64pow10" Rows.laid_internal_strconv_uint64pow10:=laidMet.reads h (.tail _ (.tail _ (.head _)));have j:VarReads Tryz.prog W "unicode/utf8.acceptRanges" Rows.laid_unicode_utf8_acceptRanges:=laidMet.reads h (.tail _ (.tail _ (.tail _ (.head _))));have s:VarReads Tryz.prog W "strconv.ErrRange" Rows.laid_strconv_ErrRange:=laidMet.reads h (.tail _ (.tail _ (.tail _ (.tail _ (.head _)))));have w:VarReads Tryz.prog W "strconv.ErrSyntax" Rows.laid_strconv_ErrSyntax:=laidMet.reads h (.tail _ (.tail _ (.tail _ (.tail _ (.tail _ (.head _))))));have l:VarReads Tryz.prog W "unicode.CaseRanges" Rows.laid_unicode_CaseRanges:=laidMet.reads h (.tail _ (.tail _ (.tail _ (.tail _ (.tail _ (.tail _ (.head _)))))));have m:VarReads Tryz.prog W "unicode/utf8.first" Rows.laid_unicode_utf8_first:=laidMet.reads h (.tail _ (.tail _ (.tail _ (.tail _ (.tail _ (.tail _ (.tail _ (.head _))))))));refine⟨?_,?_,?_,Ag7 a,?_,?_⟩
 .have e:(Rows.laid_internal_strconv_uint64pow10:DataW Unit)=tabData .u64 Lib.pow10Tab:=oe;rw[e]at d;exact Ag6 d oe oe Tryz.underlying546 Tryz.underlying362 oe oe
 .have e:Rows.laid_unicode_CaseRanges=caseData:=Pinned.caseRanges_eq;rw[e]at l;exact caseVar_of_reads (ρ:=v0) {wb with} oe ⟨oe,oe,oe,oe,oe,oe⟩ l
 .have e:Rows.laid_unicode_utf8_first=firstData:=Pinned.utf8First_eq;have p:(Rows.laid_unicode_utf8_acceptRanges:DataW Unit)=acceptData:=oe;rw[e]at m;rw[p]at j;exact utf8Tabs_of_readsT (ρ:=v0) {wb with} ⟨oe,oe,oe,oe,oe,oe,oe⟩ m j
 .exact AFi (t:=300) w oe oe Tryz.underlying300
 .exact AFi (t:=300) s oe oe Tryz.underlying300
end Go.Proofs.YtkmeffadhdmdhaaGreatDoor.witness
namespace Go.Proofs.YtkmeffadhdmdhaaGreatDoor.witness
open Go.ChangeShapes Go.WideShapes Go.ChangeAt Go.ChangeMaps Go.RowKit Go.Ev Go.Lib
theorem Ag8:laidOutB Tryz.prog=true:=oe
theorem Ag9{H:Type}(d:DataW H):1<=Rows.uptoBulk d:=by
 cases d with
 |lit l=>cases l<;>simp[Rows.uptoBulk]
 |nil=>simp[Rows.uptoBulk]
 |ptr d=>simp[Rows.uptoBulk]
 |slice e s=>simp[Rows.uptoBulk]
 |agg p=>simp[Rows.uptoBulk]
 |iface t d=>simp[Rows.uptoBulk]
 |map entries=>simp[Rows.uptoBulk]
 |held h=>simp[Rows.uptoBulk]
def rS(H:Type):Bulk H:=⟨Rows.uptoBulk,Rows.uptoBulkAll,λs=>by simp[Rows.uptoBulk],Ag9,λa b=>by simp[Rows.uptoBulk],λl=>by simp[Rows.uptoBulk],by simp[Rows.uptoBulkAll],λd l=>by simp[Rows.uptoBulkAll]⟩
theorem AgA:Ev.Lay Tryz.prog (Ty.agg Pv.tProd) 34:=by unfold Ev.Lay;kernel_rfl
theorem AgB{W:World}(h:Pv.l8 W):I4 W (PS W):=⟨λ_ _ h=>h,λ_ h=>h,W,h,λ_ a=>⟨a,rfl⟩⟩
theorem AgC(W:World)(b:Pv.l8 W)(x:(Ty.agg Pv.tProd).T)(a:Value)(h0:Z4 W (PS W) (Ty.agg Pv.tProd) x a)
 (m:Ty.bulk (Pv.tProd) x<=1048576):
 Calls Tryz.prog 3 #[a] W λe w=>e=.returned (.bool true)/\Same W w:=
 (Pv.l5.2 W (PS W) (x) [a] [] (AgB b) ⟨_,rfl,h0,rfl⟩ .nil true
  (Pv.law27u x m)).mono
  λ_ _ ⟨_,_,_,_,j,_,l,d,h,_⟩=>AfL j l d h
theorem AgD(H:Type)(enc:TypeId×Value->H)(W:World)(base:Nat)(args:Array Value)(ds A:List (DataW H))(b:List MemPlace)
 (h:∀(j:Nat) t v,Tryz.f3.params[j]?=some t->args[j]?=some v->Value.okWide Tryz.prog W .any base t v)
 (C:DataW.Whole enc Tryz.prog Tryz.f3.params.toList Rows.topWitnessesCheckSpec.vars false W args.toList ds A b)
 (hk:Rows.uptoSmall H (ds++A)=true)(G:laidMetH Tryz.prog Rows.topWitnessesCheckUptoRow.laid W)(y:W.ShapedOpen Tryz.prog):
 Calls Tryz.prog 3 args W λe W'=>∃v,e=.returned v/\Rows.topWitnessesCheckSpec.post enc Tryz.prog Tryz.f3 false true false false W args v W':=by
 have m:=C;obtain⟨p,q,a,I,rfl,L,M⟩:=C;have w:=a.lt;have B:DataW.TrodAll enc Tryz.prog W 0 (λ_=>true) true Tryz.f3.params.toList args.toList ds p:=a;rw[Tryz.params3]at B h;obtain⟨z,Q,l,E,p0,U,d,rfl,rfl,h0,O⟩:=trodAll_cons B;obtain⟨rfl,rfl,rfl⟩:=trodAll_nil O;obtain rfl:args= #[z]:=by cases args;simp_all
 obtain⟨rfl,rfl⟩:=trodVars_none I;have J:(rS H).all [l]<=1048576:=by show Rows.uptoBulkAll [l]<=1048576;have s:decide (Rows.uptoBulkAll ([l]++[])<=1048576)=true:=hk;exact of_decide_eq_true s
 rw[(rS H).cons,(rS H).nil]at J;obtain⟨R,e0,T⟩:=AfJ (rS H) (K:=1048576) oi (t:=Pv.tProd) rfl AgA (h 0 34 z rfl rfl) h0 oa;refine(AgC W (facts G y) R z e0 oa).mono λe W' ⟨K,D⟩=>?_;subst K;refine⟨_,rfl,AfM (pa:=p0++[]) (pv:=[]) m (λ_ _ _=>trodAll_cons_mk (shut_bool Tryz.underlying4 _) trodAll_mk0) ?_ rfl oh (D.kept _)⟩;rw[Tryz.params3];exact trodAll_cons_mk (Below.trod Ag8 oe (of_decide_eq_true oe) h0 D.below λx N=>w x (by simp[N])) trodAll_mk0
end Go.Proofs.YtkmeffadhdmdhaaGreatDoor.witness
namespace Go.Proofs.YtkmeffadhdmdhaaGreatDoor.witness
open Go.ChangeShapes Go.WideShapes Go.ChangeAt Go.ChangeMaps Go.RowKit Go.Ev Go.Lib
theorem AgE(os:Os):laidMet Tryz.prog Rows.topWitnessesCheckUptoRow.laid ((World.laidAll Tryz.prog os Rows.topWitnessesCheckUptoRow.laid).forCall (λ_ _=>0) ⟨#[],#[.agg #[.string ⟨#[]⟩,.string ⟨#[]⟩,.string ⟨#[]⟩,.slice none 0 0,.slice none 0 0,.int .i64 0,.int .i64 0,.slice none 0 0,.slice none 0 0,.slice none 0 0,.int .i64 0,.slice none 0 0,.slice none 0 0]],[]⟩).memory:=
 laidMet_laidAll _ oe oe
theorem AgF(os:Os):((World.laidAll Tryz.prog os Rows.topWitnessesCheckUptoRow.laid).forCall (λ_ _=>0) ⟨#[],#[.agg #[.string ⟨#[]⟩,.string ⟨#[]⟩,.string ⟨#[]⟩,.slice none 0 0,.slice none 0 0,.int .i64 0,.int .i64 0,.slice none 0 0,.slice none 0 0,.slice none 0 0,.int .i64 0,.slice none 0 0,.slice none 0 0]],[]⟩).Shaped Tryz.prog:=
 World.shaped_of_ZipB oe oe
theorem reads(os:Os){H:Type}(enc:TypeId×Value->H):∃p,DataW.whole enc Tryz.prog ((World.laidAll Tryz.prog os Rows.topWitnessesCheckUptoRow.laid).forCall (λ_ _=>0) ⟨#[],#[.agg #[.string ⟨#[]⟩,.string ⟨#[]⟩,.string ⟨#[]⟩,.slice none 0 0,.slice none 0 0,.int .i64 0,.int .i64 0,.slice none 0 0,.slice none 0 0,.slice none 0 0,.int .i64 0,.slice none 0 0,.slice none 0 0]],[]⟩).memory Tryz.f3.params.toList Rows.topWitnessesCheckSpec.vars false #[.agg #[.string ⟨#[]⟩,.string ⟨#[]⟩,.string ⟨#[]⟩,.slice none 0 0,.slice none 0 0,.int .i64 0,.int .i64 0,.slice none 0 0,.slice none 0 0,.slice none 0 0,.int .i64 0,.slice none 0 0,.slice none 0 0]].toList 8=
 some ([.agg [.agg [.lit (.string []),.lit (.string []),.lit (.string []),.nil,.nil],.lit (.int .i64 0),.agg [.lit (.int .i64 0),.nil,.nil],.nil,.lit (.int .i64 0),.nil,.nil]],[],p):=
 ⟨[],oe⟩
end Go.Proofs.YtkmeffadhdmdhaaGreatDoor.witness
namespace Go.Proofs.YtkmeffadhdmdhaaGreatDoor.witness
open Go.ChangeShapes Go.WideShapes Go.ChangeAt Go.ChangeMaps Go.RowKit Go.Ev Go.Lib
theorem own:ownKnob Tryz.prog.godebug=none:=oe
theorem lifted(os:Os)(s:os.Started)(H:Type)(enc:TypeId×Value->H)(F:Stop.Interp):
 ReturnsInHanded {} Tryz.checked os 3 .any ((Rows.OpenSpec.upto Rows.topWitnessesCheckSpec).preRow enc Tryz.prog Tryz.f3 Rows.topWitnessesCheckUptoRow.domain false Rows.topWitnessesCheckUptoRow.laid) (((Rows.OpenSpec.upto Rows.topWitnessesCheckSpec).at F).post enc Tryz.prog Tryz.f3 false true false false):=by
 obtain⟨p,x⟩:=reads os enc
 refine returnsInHanded_of_row (C:=Tryz.checked) (s:=Rows.OpenSpec.upto Rows.topWitnessesCheckSpec) own s oe Tryz.func3
  (AfN (enc:=enc) (C:=Tryz.checked) (World.laidAll Tryz.prog os Rows.topWitnessesCheckUptoRow.laid) #[.agg #[.string ⟨#[]⟩,.string ⟨#[]⟩,.string ⟨#[]⟩,.slice none 0 0,.slice none 0 0,.int .i64 0,.int .i64 0,.slice none 0 0,.slice none 0 0,.slice none 0 0,.int .i64 0,.slice none 0 0,.slice none 0 0]] (World.laidAll_os _ _ _) (AgF os) oe
   (OpenSpec.preRow_of_cond 8 x oe (λk hk=>by cases hk;kernel_rfl) oe (by rw[MakeChecks.laidMetH_plain _ _ _ oe];exact AgE os))) ?_
 intro W base a j l b d w _ h _ m e _;exact AgD H enc W base a j l b d w (h _ rfl) m e
end Go.Proofs.YtkmeffadhdmdhaaGreatDoor.witness
