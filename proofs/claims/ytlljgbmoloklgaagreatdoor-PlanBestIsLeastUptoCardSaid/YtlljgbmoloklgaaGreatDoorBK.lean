/- BULK AND BOUNDS -/
import Derived.Test.YtlljgbmoloklgaaGreatDoorBE4
import Derived.Carry
import Derived.OpenShut
import Derived.ChangeSame
import Derived.Lay
import Derived.Deep.DeepHandedRow
import Derived.Test.YtlljgbmoloklgaaGreatDoorBA1
import Derived.Test.YtlljgbmoloklgaaGreatDoorBA2
set_option linter.unusedVariables false
set_option linter.unusedSimpArgs false
set_option linter.unusedSectionVars false
set_option maxRecDepth 100000
namespace Go.Ev
variable [Pins]
open Go.ChangeShapes Go.WideShapes
def Ty.plain:Ty->Bool
 | .unit=>true
 | .bool=>true
 | .int _=>true
 | .str=>true
 | .slice e=>e.plain
 | .agg t=>t.plain
 | .prod a b=>a.plain&&b.plain
 |_=>false
def LE(w:World):Im:=⟨fun b _=>b<w.heap.size,fun b=>b<w.heap.size⟩
structure Bulk(H:Type) where
 bk:DataW H->Nat
 all:List (DataW H)->Nat
 str:∀s,bk (.lit (.string s))=s.length+1
 pos:∀d,1<=bk d
 slice:∀a b,bk (.slice a b)=all a+all b+1
 agg:∀l,bk (.agg l)=all l+1
 nil:all []=0
 cons:∀d l,all (d::l)=bk d+all l
def Ty.bulk:(t:Ty)->t.T->Nat
 | .str,s=>(show List UInt8 from s).length+1
 | .slice e,xs=>((show List e.T from xs).map fun x=>max 1 (e.bulk x)).sum+1
 | .agg t,x=>t.bulk x
 | .prod a b,x=>a.bulk x.1+b.bulk x.2
 |_,_=>0
theorem ARo{α β:Type}{f:α->Nat}{g:β->Nat}:∀(l:List α) (m:List β),l.length=m.length->(∀(i:Nat) (v:α) (d:β),l[i]?=some v->m[i]?=some d->f v<=g d)->(l.map f).sum<=(m.map g).sum:=by
 intro l;induction l with
 |nil=>intro m _ _;simp
 |cons a l ih=>
  intro m hl h;cases m with
  |nil=>cases hl
  |cons d m=>
   have h1:=h 0 a d rfl rfl;have h2:=ih m (by simpa using hl) fun i v d hv hd=>h (i+1) v d (by simpa using hv) (by simpa using hd);simp only[CZ,List.sum_cons];omega
theorem ARp{H:Type}(B:Bulk H):∀l:List (DataW H),(l.map B.bk).sum=B.all l:=by
 intro l;induction l with
 |nil=>rw[B.nil];rfl
 |cons d l ih=>rw[B.cons,<-ih];simp
theorem ARq{H:Type}(B:Bulk H):∀l:List (DataW H),l.length<=B.all l:=by
 intro l;induction l with
 |nil=>simp
 |cons d l ih=>have:=B.pos d;rw[B.cons,AD];omega
theorem ARr{H:Type}(B:Bulk H):∀(l:List (DataW H)) (d:DataW H),d∈l->B.bk d<=B.all l:=by
 intro l;induction l with
 |nil=>intro d h;cases h
 |cons e l ih=>
  intro d h;rw[B.cons];rcases B6.1 h with rfl|h
  ·omega
  ·have:=ih d h;omega
theorem ARs{α:Type}{Q:Nat->α->Prop}:∀n:Nat,(∀i,i<n->∃v,Q i v)->∃l:List α,l.length=n/\∀i v,l[i]?=some v->Q i v:=by
 intro n;induction n with
 |zero=>intro _;exact⟨[],rfl,fun i v h=>by simp at h⟩
 |succ n ih=>
  intro h;obtain⟨l,h1,h2⟩:=ih fun i hi=>h i (by omega);obtain⟨v,hv⟩:=h n (by omega);refine⟨l++[v],by simp[h1],fun i x hx=>?_⟩;by_cases hi:i<n
  ·rw[AW (by omega)]at hx;exact h2 i x hx
  ·rw[AY (by omega)]at hx
   have:i-l.length=0:=by
    have:=(AE.1 hx).1;simp at this;omega
   rw[this]at hx;simp at hx;subst hx;have:i=n:=by omega
   subst this;exact hv
theorem vG{w:World}{a:Addr}{k n:Nat}{c:List Value}(hn:0<n)(h:w.cells? 0 (a.add k) n=some c):
 (k=0->a.spot=none)/\Row w (LE w) a.block (a.off+k) n c:=by
 unfold World.cells? at h;rw[if_pos (BI _)]at h;have hl:=mapM_some_length h;rw[CW]at hl;have hg:∀j,j<n->w.cell? ((a.add k).add j)=c[j]?:=fun j hj=>mapM_some_get h j j (by simp[hj]);have hsome:∀j,j<n->∃v,c[j]?=some v:=fun j hj=>⟨_,A1 (by omega)⟩
 have hspot:k=0->a.spot=none:=by
  intro hk;subst hk;obtain⟨v,hv⟩:=hsome 0 hn;have h0:=hg 0 hn;rw[hv]at h0;simp only[Addr.add,if_true]at h0;unfold World.cell? at h0;split at h0
  ·split at h0
   ·cases h0
   ·rename_i hs;simpa using hs
  ·cases h0
 refine⟨hspot,hl,fun j hj=>?_⟩;obtain⟨v,hv⟩:=hsome j hj;have h0:=hg j hj
 have e:(a.add k).add j=⟨a.block,a.off+k+j,none⟩:=by
  unfold Addr.add;by_cases hk:k=0
  ·have:=hspot hk;subst hk;obtain⟨b,o,s⟩:=a;simp only at this;subst this;by_cases hj0:j=0<;>simp[hj0]
  ·rw[if_neg hk];by_cases hj0:j=0<;>simp[hj0]
 rw[e]at h0;have e2:a.off+k+j=a.off+k+j:=rfl;refine⟨?_,h0⟩;rw[hv]at h0;unfold World.cell? at h0;split at h0
 ·rename_i hh;exact(BV.1 hh).1
 ·cases h0
section
variable{H:Type}{enc:TypeId×Value->H}{P:Program}{w:World}
def QL(enc:TypeId×Value->H)(P:Program)(w:World)(B:Bulk H)(K:Nat)(t:Ty):Prop:=
 ∀(id:Nat),Lay P t id->∀(n:Nat) (cs:List Value) (x:DataW H×List MemPlace),DataW.trod enc P w 0 (fun _=>true) true n id cs=some x->B.bk x.1<=K->∃v:t.T,Rel w (LE w) t v cs/\t.bulk v<=B.bk x.1
def A88(enc:TypeId×Value->H)(P:Program)(w:World)(B:Bulk H)(K:Nat)(t:Ty):Prop:=
 ∀(fs:List Field) (off:Nat),(layB P t).2 fs off=true->∀(n:Nat) (cs:List Value) (xs:List (DataW H×List MemPlace)),xs.length=fs.length->(∀(i:Nat) (f:Field),fs[i]?=some f->DataW.trod enc P w 0 (fun _=>true) true n f.type ((cs.drop f.offset).take (P.cellsOf f.type))=xs[i]?)->off+t.sz<=cs.length->
  B.all (xs.map (·.1))<=K->∃v:t.T,Rel w (LE w) t v ((cs.drop off).take t.sz)/\t.bulk v<=B.all (xs.map (·.1))
theorem gV{t:Ty}{id:Nat}(h:Lay P t id):P.cellsOf id=t.sz:=by
 obtain⟨i,v,h1,h2,_⟩:=JB h.inf;simp[Program.cellsOf,h1,h2]
theorem XL{B:Bulk H}{K:Nat}{t:Ty}(h:QL enc P w B K t)(e:∀fs off,(layB P t).2 fs off=(match fs with|[f]=>Nat.beq f.offset off&&(layB P t).1 f.type|_=>false)):A88 enc P w B K t:=by
 intro fs off hl n cs xs hxl hm hsz hK;rw[e]at hl;split at hl
 ·rename_i f;rw[A5]at hl;have ho:f.offset=off:=A3 hl.1;have hL:Lay P t f.type:=hl.2;obtain⟨x,rfl⟩:∃x,xs=[x]:=List.length_eq_one_iff.1 hxl;have hx:=hm 0 f rfl
  have e1:B.all ([x].map (·.1))=B.bk x.1:=by
   show B.all [x.1]=_;rw[B.cons,B.nil];omega
  rw[e1]at hK ⊢;obtain⟨v,hv,hb⟩:=h f.type hL n _ x hx hK;rw[ho,gV hL]at hv;exact⟨v,hv,hb⟩
 ·cases hl
theorem opn(B:Bulk H)(K:Nat)(hK:K<=281474976710656):∀t:Ty,t.plain=true->QL enc P w B K t/\A88 enc P w B K t:=by
 intro t;induction t with
 |unit=>
  intro _;refine⟨fun id hl=>(by cases hl),fun fs off hl n cs xs hxl hm _ _=>?_⟩;exact⟨(),by show _=([]:List Value);simp[Ty.sz],BI _⟩
 |bool=>
  intro _
  have h1:QL enc P w B K .bool:=by
   intro id hl n cs x hx hb;obtain⟨b,rfl,rfl⟩:=DataW.trod_bool hl.bool hx;exact⟨b,rfl,BI _⟩
  exact⟨h1,XL h1 fun _ _=>rfl⟩
 |int k=>
  intro _
  have h1:QL enc P w B K (.int k):=by
   intro id hl n cs x hx hb;obtain⟨m,rfl,rfl,hw⟩:=DataW.trod_int hl.int hx;simp only[Lit.wf,A5,AV]at hw;exact⟨m,⟨rfl,hw⟩,BI _⟩
  exact⟨h1,XL h1 fun _ _=>rfl⟩
 |str=>
  intro _
  have h1:QL enc P w B K .str:=by
   intro id hl n cs x hx hb;obtain⟨s,rfl,rfl,_⟩:=DataW.trod_string hl.str hx;rw[B.str]at hb;exact⟨s.data.toList,⟨by simp,by show s.data.toList.length<=_;omega⟩,by show s.data.toList.length+1<=_;rw[B.str];exact AM _⟩
  exact⟨h1,XL h1 fun _ _=>rfl⟩
 |slice e ih=>
  intro hp;have ihe:=(ih hp).1
  have h1:QL enc P w B K (.slice e):=by
   intro id hl n cs x hx hb;obtain⟨el,hun,hle,hpos⟩:=hl.slice;have hc:=gV hle;rcases DataW.trod_slice hun hx with⟨rfl,rfl⟩|⟨a,len,cap,elems,rest,n',rfl,rfl,rfl,_,hlc,_,hel,he,hr,_⟩
   ·refine⟨([]:List e.T),⟨none,0,rfl,⟨AM _,BI _⟩,fun _=>⟨rfl,rfl⟩,fun ad h=>by cases h⟩,?_⟩;have:=B.pos (DataW.nil (H:=H));show 0+1<=_;exact this
   ·simp only[hc]at he hr;obtain⟨hrl,hr⟩:=hr trivial;rw[B.slice]at hb ⊢
    have hlen:len<=K:=by
     have:=ARq B (elems.map (·.1));rw[AL]at this;omega
    have hget:∀i,i<len->∃c y,elems[i]?=some y/\w.cells? 0 (a.add (i*e.sz)) e.sz=some c/\DataW.trod enc P w 0 (fun _=>true) true n' el c=some y:=by
     intro i hi;have h2:=he i hi;rw[A1 (by omega)]at h2;obtain⟨c,hc1,hc2⟩:=BX.1 h2;exact⟨c,elems[i],A1 (by omega),hc1,hc2⟩
    have hspot:cap≠0->a.spot=none:=by
     intro hcap;by_cases hl0:len=0
     ·have h2:=hr 0 (by omega);rw[A1 (by omega)]at h2;obtain⟨c,hc1,_⟩:=BX.1 h2;rw[hl0]at hc1;exact(vG hpos hc1).1 (by simp)
     ·obtain⟨c,y,_,hc1,_⟩:=hget 0 (by omega);exact(vG hpos hc1).1 (by simp)
    obtain ⟨l,hl1,hl2⟩:=ARs (Q:=fun i (v:e.T)=>∃ (c:List Value) (y:DataW H×List MemPlace),elems[i]? = some y/\Row w (LE w) a.block (a.off+i*e.sz) e.sz c/\Rel w (LE w) e v c/\e.bulk v<=B.bk y.1) len (by
     intro i hi;obtain⟨c,y,hy,hc1,hc2⟩:=hget i hi
     have hby:B.bk y.1<=K:=by
      have:=ARr B (elems.map (·.1)) y.1 (B_.2 ⟨y,AP hy,rfl⟩);omega
     obtain⟨v,hv,hvb⟩:=ihe el hle n' c y hc2 hby;exact⟨v,c,y,hy,(vG hpos hc1).2,hv,hvb⟩)
    refine⟨l,⟨some a,cap,by rw[<-hl1],⟨by show l.length<=_;omega,by show l.length<=_;omega⟩,(fun h=>by cases h),fun ad had=>?_⟩,?_⟩
    ·cases had;refine⟨hspot,fun i v hv=>?_⟩;obtain⟨c,y,_,h3,h4,_⟩:=hl2 i v hv;exact⟨c,h3,h4⟩
    ·show(l.map fun x=>max 1 (e.bulk x)).sum+1<=_
     have hs:(l.map fun x=>max 1 (e.bulk x)).sum<=((elems.map (·.1)).map B.bk).sum:=by
      refine ARo l (elems.map (·.1)) (by rw[AL];omega) fun i v d hv hd=>?_;obtain⟨c,y,hy,_,_,hb2⟩:=hl2 i v hv;rw[AK,hy]at hd;cases hd;have:=B.pos y.1;exact Nat.max_le.2 ⟨this,hb2⟩
     rw[ARp]at hs;omega
  exact⟨h1,XL h1 fun _ _=>rfl⟩
 |agg p ih=>
  intro hp;have ihp:=(ih hp).2
  have h1:QL enc P w B K (.agg p):=by
   intro id hl n cs x hx hb;obtain⟨fs,hun,hlf,hpos⟩:=hl.agg;have hc:=gV hl;obtain⟨xs,n',rfl,rfl,hlen,hxl,hm⟩:=DataW.trod_struct hun hx;rw[B.agg]at hb ⊢;obtain⟨v,hv,hvb⟩:=ihp fs.toList 0 hlf n' cs xs (by rw[hxl];simp) (fun i f hf=>hm i f (by simpa using hf)) (by rw[hlen,hc];show 0+p.sz<=p.sz;omega) (by omega);refine⟨v,?_,by show p.bulk v<=_;omega⟩;show Rel w (LE w) p v cs;rw[DC,BU (by rw[hlen,hc];exact AM _)]at hv;exact hv
  exact⟨h1,XL h1 fun _ _=>rfl⟩
 |prod a b iha ihb=>
  intro hp;have hp':a.plain=true/\b.plain=true:=D8.1 hp;have ia:=(iha hp'.1).1;have ib:=(ihb hp'.2).2;refine⟨fun id hl=>(by cases hl),fun fs off hl n cs xs hxl hm hsz hKx=>?_⟩;cases fs with
  |nil=>cases hl
  |cons f r=>
   have hl':(Nat.beq f.offset off&&((layB P a).1 f.type&&((layB P b).2 r (off+a.sz)&&Nat.blt 0 b.fields)))=true:=hl;simp only[A5]at hl';obtain⟨h1,h2,h3,_⟩:=hl';have ho:f.offset=off:=A3 h1;have hL:Lay P a f.type:=h2;cases xs with
   |nil=>cases hxl
   |cons x ys=>
    have hx:=hm 0 f rfl;have e1:B.all ((x::ys).map (·.1))=B.bk x.1+B.all (ys.map (·.1)):=by rw[CZ,B.cons]
    rw[e1]at hKx ⊢;have hszab:(Ty.prod a b).sz=a.sz+b.sz:=rfl;rw[hszab]at hsz ⊢;obtain⟨v,hv,hvb⟩:=ia f.type hL n _ x hx (by omega);obtain⟨u,hu,hub⟩:=ib r (off+a.sz) h3 n cs ys (by simpa using hxl) (fun i g hg=>hm (i+1) g (by simpa using hg)) (by omega) (by omega);rw[ho,gV hL]at hv;refine⟨(v,u),⟨_,_,?_,hv,hu⟩,by show a.bulk v+b.bulk u<=_;omega⟩;rw[<-C_,List.take_add]
 |arr n e ih=>intro hp;cases hp
 |ptr e ih=>intro hp;cases hp
 |map k v ihk ihv=>intro hp;cases hp
 |inil=>intro hp;cases hp
 |ialt i t r iht ihr=>intro hp;cases hp
 |self=>intro hp;cases hp
 |opq=>intro hp;cases hp
 |fnc a b _ _=>intro hp;cases hp
theorem ARt(B:Bulk H){K:Nat}(hK:K<=281474976710656){t:Ty}(hp:t.plain=true){id:Nat}(hl:Lay P (.agg t) id){r:Reach}{b0:Nat}{v:Value}{d:DataW H}{ps:List MemPlace}
 (hval:Value.okWide P w r b0 id v)(hd:DataW.Trod enc P w 0 (fun _=>true) true id v d ps)(hb:B.bk d<=K):∃x:t.T,VRel w (LE w) (.agg t) x v/\t.bulk x<=B.bk d:=by
 obtain⟨fs,hun,_⟩:=hl.agg;unfold Value.okWide at hval;rw[hun]at hval;obtain⟨cs,rfl,_⟩:=hval;obtain⟨n,hn⟩:=hd;obtain⟨x,hx,hxb⟩:=(opn B K hK (.agg t) hp).1 id hl n _ _ hn hb;exact⟨x,⟨cs.toList,by show _=Value.agg cs.toList.toArray;simp,hx⟩,hxb⟩
end
structure Same(W W':World):Prop where
 os:W'.os=W.os
 tape:W'.tape=W.tape
 output:W'.output=W.output
 size:W.heap.size<=W'.heap.size
 heap:∀b,b<W.heap.size->W'.heap[b]?=W.heap[b]?
theorem Same.kept{W W':World}(h:Same W W')(may:MemPlace->Prop):W.keptBut W' may:=by
 refine⟨h.os,h.output,fun i hi=>?_⟩;rw[h.heap i hi];exact(World.keptBut_refl W may).2.2 i hi
theorem Same.below{W W':World}(h:Same W W'):RowKit.Below W.heap.size W W':=⟨h.os,h.tape,h.output,h.size,h.heap⟩
theorem ARu{P:Program}{W w':World}{I I':Im}{e:Ending}{rv:Value}{vs:List Value}{bs':List Nat}(he:e=.returned rv)(hr:JP vs rv)
 (ha:After (·∈([]:List Nat)) W I w' I')(hs:ShL P w' I' [.val .bool] true (vs++[]) bs'):e=.returned (.bool true)/\Same W w':=by
 rw[BZ]at hs;obtain⟨v,rfl,⟨c,h1,h2⟩,_⟩:=hs;have h1':c=[v]:=h1;have h2':c=[.bool true]:=h2;subst h1';cases h2';have hr':rv=.bool true:=hr;subst hr';exact⟨he,ha.os,ha.tape,ha.output,ha.size,fun b hb=>ha.heap b hb (fun k=>by cases k)⟩
theorem ARv{H:Type}{enc:TypeId×Value->H}{P:Program}{f:Func}{s:ChangeSpec}{apart fresh handsOn:Bool}{W W':World}{args:Array Value}{v:Value}{ds gs:List (DataW H)}{before pa pv:List MemPlace}
 (hW:DataW.Whole enc P f.params.toList s.vars apart W args.toList ds gs before)
 (hres:∀(b:Nat) (sp:Nat->Bool) (hd:Bool),DataW.TrodAll enc P W' b sp hd f.resultTypes.toList (v.resultList f.resultTypes.size) (s.fn H (ds++gs)).results [])
 (hargs:DataW.TrodAll enc P W' 0 (fun b=>decide (b<W.heap.size)) true f.params.toList args.toList (s.fn H (ds++gs)).args pa)
 (hvars:DataW.TrodVars enc P W' (fun b=>decide (b<W.heap.size)) s.vars (s.fn H (ds++gs)).vars pv)
 (hps:before=pa++pv)(hk:W.keptBut W' (·∈before)):
 s.post enc P f apart fresh handsOn false W args v W':=by
 refine⟨ds,gs,before,[],pa,pv,hW,hres _ _ _,hargs,hvars,World.keptBut_mono (fun p hp=>⟨hp,?_⟩) hk,fun h=>by cases h⟩;rw[hps,AR]at hp;exact Or.inr hp
theorem ARw{H:Type}{enc:TypeId×Value->H}{C:Checked}{os:Os}{f:FuncId}{fn:Func}{s:OpenSpec}{conds:List PathCond}{apart:Bool}{laid:List (String×DataW Unit)}(w0:World)(args:Array Value)(hos:w0.os=os)
 (hsh:(w0.forCall (fun _ _=>0) ⟨#[],args,[]⟩).Shaped C.prog)
 (hok:Input.okWideB C.prog (w0.forCall (fun _ _=>0) ⟨#[],args,[]⟩) f ⟨#[],args,[]⟩=true)
 (hrow:s.preRow enc C.prog fn conds apart laid (w0.forCall (fun _ _=>0) ⟨#[],args,[]⟩).memory args):
 ∃(w:World) (tape:Tape) (i:Input),w.os=os/\(w.forCall tape i).Shaped C.prog/\i.vars=[]/\Input.okWide C.prog (w.forCall tape i) .any w.heap.size f i/\
  s.preRow enc C.prog fn conds apart laid (w.forCall tape i).memory i.args/\({}:Assume).holds C.prog (lone (Frame.enter C.prog f i.args .normal) [] (w.forCall tape i)):=
 ⟨w0,fun _ _=>0,⟨#[],args,[]⟩,hos,hsh,(Input.okWide_of_okWideB (base:=0) hok).1,(Input.okWide_of_okWideB hok).2,hrow,by
  simp only[Assume.holds];exact⟨by simp,by simp,fun _=>Modest.zero,by simp,by simp⟩⟩
open Go.ChangeShapes Go.WideShapes
section
variable{H:Type}{enc:TypeId×Value->H}{P:Program}{w:World}
theorem ARx{r:Reach}{b0 id:Nat}{k:IntKind}{v:Value}(hu:P.underlying id=some (.int k))(h:Value.okWide P w r b0 id v):∃k' n,v=.int k' n:=by
 unfold Value.okWide at h;rw[hu]at h;cases v with
 |int k n=>exact⟨k,n,rfl⟩
 |_=>exfalso;simp[Cell.okWide,Cell.ok,hu]at h
theorem ARy(B:Bulk H){K:Nat}(hK:K<=281474976710656){k:IntKind}{id:Nat}(hl:Lay P (.int k) id){r:Reach}{b0:Nat}{v:Value}{d:DataW H}{ps:List MemPlace}
 (hval:Value.okWide P w r b0 id v)(hd:DataW.Trod enc P w 0 (fun _=>true) true id v d ps)(hb:B.bk d<=K):∃x:(Ty.int k).T,VRel w (LE w) (.int k) x v:=by
 obtain⟨k',m,rfl⟩:=ARx hl.int hval;obtain⟨n,hn⟩:=hd;obtain⟨x,hx,hxb⟩:=(opn B K hK (.int k) rfl).1 id hl n _ _ hn hb;exact⟨x,⟨[.int k' m],rfl,hx⟩⟩
end
end Go.Ev
namespace Go.Ev.Pv
abbrev ARz:Ty:=.prod .str (.prod (.int .i64) (.prod (.slice (.agg (.prod (.int .i64) .str))) (.prod (.slice .str) (.slice .str))))
abbrev AS0:Ty:=.prod .str (.prod (.slice .str) (.prod .str (.prod (.int .i64) (.prod .bool (.prod .str (.slice (.agg ARz)))))))
abbrev A89:Ty:=.prod (.int .i64) (.prod (.slice (.agg AS0)) (.slice (.int .i64)))
theorem AS1{α:Type}{f:α->Nat}:∀{l:List α} {x:α},x∈l->f x<=(l.map f).sum:=by
 intro l;induction l with
 |nil=>intro x h;cases h
 |cons a l ih=>
  intro x h;simp only[CZ,List.sum_cons];rcases B6.1 h with rfl|h
  ·omega
  ·have:=ih h;omega
theorem LF{α:Type}{f:α->Nat}:∀l:List α,l.length<=(l.map fun x=>max 1 (f x)).sum:=by
 intro l;induction l with
 |nil=>simp
 |cons a l ih=>
  simp only[CZ,List.sum_cons,AD];have:1<=max 1 (f a):=Nat.le_max_left _ _;omega
theorem LG{α:Type}{f:α->Nat}{l:List α}{x:α}(h:x∈l):f x<=(l.map fun x=>max 1 (f x)).sum:=
 AZ (Nat.le_max_right 1 (f x)) (AS1 (f:=fun x=>max 1 (f x)) h)
def gW(v:Int×E1):Nat:=0+(v.2.length+1)
def bS(s:E1):Nat:=s.length+1
def XM(a:Af):Nat:=(a.1.length+1)+(0+(((a.2.2.1.map fun x=>max 1 (gW x)).sum+1)+(((a.2.2.2.1.map fun x=>max 1 (bS x)).sum+1)+((a.2.2.2.2.map fun x=>max 1 (bS x)).sum+1))))
def T8(a:IT):Nat:=(a.1.length+1)+(((a.2.1.map fun x=>max 1 (bS x)).sum+1)+((a.2.2.1.length+1)+(0+(0+((a.2.2.2.2.2.1.length+1)+((a.2.2.2.2.2.2.map fun x=>max 1 (XM x)).sum+1))))))
def gX(b:Bs):Nat:=0+(((b.2.1.map fun x=>max 1 (T8 x)).sum+1)+((b.2.2.map fun _=>max 1 0).sum+1))
theorem AS2{a:Af}{K:Nat}(hK:K<=1048576)(h:XM a<=K):MS a:=by
 unfold XM at h;have l1:=LF (f:=gW) a.2.2.1;have l2:=LF (f:=bS) a.2.2.2.1;have l3:=LF (f:=bS) a.2.2.2.2;refine⟨by omega,by omega,fun v hv=>?_,by omega,fun s hs=>?_,by omega,fun s hs=>?_⟩
 ·have:=LG (f:=gW) hv;unfold gW at this h;omega
 ·have:=LG (f:=bS) hs;unfold bS at this h;omega
 ·have:=LG (f:=bS) hs;unfold bS at this h;omega
theorem AS3{a:IT}{K:Nat}(hK:K<=1048576)(h:T8 a<=K):LB a:=by
 unfold T8 at h;have l1:=LF (f:=bS) a.2.1;have l2:=LF (f:=XM) a.2.2.2.2.2.2;refine⟨by omega,by omega,fun s hs=>?_,by omega,by omega,by omega,fun x hx=>?_⟩
 ·have:=LG (f:=bS) hs;unfold bS at this h;omega
 ·have:=LG (f:=XM) hx;exact AS2 (K:=K) hK (by omega)
theorem AS4{l:List IT}{K:Nat}(hK:K<=1048576)(h:(l.map fun x=>max 1 (T8 x)).sum<=K):l.length<=1048576/\∀a∈l,LB a:=by
 have l1:=LF (f:=T8) l;refine⟨by omega,fun a ha=>?_⟩;have:=LG (f:=T8) ha;exact AS3 (K:=K) hK (by omega)
theorem AS5{b:Bs}{K:Nat}(hK:K<=1048576)(h:Ty.bulk A89 b<=K):BB b/\b.2.1.length<=1048576:=by
 have h:gX b<=K:=h;unfold gX at h;have:=AS4 (l:=b.2.1) hK (by omega);exact⟨this.2,this.1⟩
abbrev A8A:Ty:=.prod .bool (.prod .bool .str)
abbrev AS6:Ty:=.prod (.agg A8A) (.agg A8A)
abbrev A8B:Ty:=.prod .str (.prod (.agg (.prod (.int .i64) (.slice (.agg AS6)))) (.int .i64))
abbrev AS7:Ty:=.prod .str (.prod .str (.prod (.slice (.agg A8B)) .bool))
abbrev AS8:Ty:=.prod .str .str
abbrev tTask:Ty:=.prod (.agg (.slice (.agg AS7))) (.prod (.slice (.agg A8B)) (.prod (.int .i64) (.prod (.slice (.agg AS8)) (.prod (.slice .str) (.prod .bool (.agg A89))))))
def gY(s:SX):Nat:=(0+(0+(s.1.2.2.length+1)))+(0+(0+(s.2.2.2.length+1)))
def OO(n:GA):Nat:=(n.1.length+1)+((0+((n.2.1.2.map fun x=>max 1 (gY x)).sum+1))+0)
def XN(o:GS):Nat:=(o.1.length+1)+((o.2.1.length+1)+(((o.2.2.1.map fun x=>max 1 (OO x)).sum+1)+0))
def XO(p:FR):Nat:=(p.1.length+1)+(p.2.length+1)
def A8C(t:FI):Nat:=((t.1.map fun x=>max 1 (XN x)).sum+1)+(((t.2.1.map fun x=>max 1 (OO x)).sum+1)+(0+(((t.2.2.2.1.map fun x=>max 1 (XO x)).sum+1)+(((t.2.2.2.2.1.map fun x=>max 1 (bS x)).sum+1)+(0+gX t.2.2.2.2.2.2)))))
theorem A8D{n:GA}{K:Nat}(hK:K<=1048576)(h:OO n<=K):K8 n/\n.2.1.2.length<=1048576:=by
 unfold OO at h;have l1:=LF (f:=gY) n.2.1.2;refine⟨⟨by omega,fun s hs=>?_⟩,by omega⟩;have:=LG (f:=gY) hs;unfold gY at this h;exact⟨by omega,by omega⟩
theorem AS9{o:GS}{K:Nat}(hK:K<=1048576)(h:XN o<=K):XF o:=by
 unfold XN at h;have l1:=LF (f:=OO) o.2.2.1;refine⟨by omega,by omega,by omega,fun n hn=>?_⟩;have:=LG (f:=OO) hn;exact(A8D (K:=K) hK (by omega)).1
theorem ASA{l:List FR}{K:Nat}(hK:K<=1048576)(h:(l.map fun x=>max 1 (XO x)).sum<=K):l.length<=1048576/\∀p∈l,p.1.length<=1048576/\p.2.length<=1048576:=by
 have l1:=LF (f:=XO) l;refine⟨by omega,fun p hp=>?_⟩;have:=LG (f:=XO) hp;unfold XO at this h;exact⟨by omega,by omega⟩
theorem ASB{t:FI}{K:Nat}(hK:K<=1048576)(h:Ty.bulk tTask t<=K):TkB t/\BB t.2.2.2.2.2.2/\∀nd∈t.2.1,nd.2.1.2.length<=1048576:=by
 have h:A8C t<=K:=h;unfold A8C at h;have l1:=LF (f:=XN) t.1;have l2:=LF (f:=OO) t.2.1;have l3:=LF (f:=bS) t.2.2.2.2.1;have p:=ASA (l:=t.2.2.2.1) (K:=K) hK (by omega);have b:=AS5 (b:=t.2.2.2.2.2.2) (K:=K) hK (by show gX _<=K;omega)
 have nd:∀n∈t.2.1,K8 n/\n.2.1.2.length<=1048576:=fun n hn=>by
  have:=LG (f:=OO) hn;exact A8D (K:=K) hK (by omega)
 refine⟨⟨by omega,fun o ho=>?_,by omega,fun n hn=>(nd n hn).1,p.1,p.2,by omega,fun s hs=>?_⟩,b.1,fun n hn=>(nd n hn).2⟩
 ·have:=LG (f:=XN) ho;exact AS9 (K:=K) hK (by omega)
 ·have:=LG (f:=bS) hs;unfold bS at this h;omega
theorem law24u(t:FI)(most:Int)(ht:Ty.bulk tTask t<=1048576):eS (t,most)=some true:=by
 obtain⟨h1,h2,_⟩:=ASB (t:=t) (AM _) ht;exact ARn t most h1 h2
end Go.Ev.Pv
