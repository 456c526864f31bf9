/-
  From the reading of an argument to the evaluator's data, and from its bulk to bounds.
-/
import Derived.Test.YtlljgbmoloklgaaGreatDoorE4
import Derived.Carry
import Derived.OpenShut
import Derived.ChangeSame
import Derived.Lay
import Derived.Deep.DeepHandedRow
import Derived.Test.YtlljgbmoloklgaaGreatDoorA1
import Derived.Test.YtlljgbmoloklgaaGreatDoorA2
import Derived.Test.YtlljgbmoloklgaaGreatDoorA3
set_option linter.unusedVariables false
set_option linter.unusedSimpArgs false
set_option linter.unusedSectionVars false
set_option maxRecDepth 100000
namespace Go.Ev
variable [Pins]
open Go.ChangeShapes Go.WideShapes
def Ty.plain:Ty->Bool
 | .unit=>true
 | .bool=>true
 | .int _=>true
 | .str=>true
 | .slice e=>e.plain
 | .agg t=>t.plain
 | .prod a b=>a.plain&&b.plain
 |_=>false
def L6(w:World):Im:=⟨λb _=>b<w.heap.size,λb=>b<w.heap.size⟩
structure Bulk(H:Type) where
 bk:DataW H->Nat
 all:List (DataW H)->Nat
 str:∀s,bk (.lit (.string s))=s.length+1
 pos:∀d,1<=bk d
 slice:∀a b,bk (.slice a b)=all a+all b+1
 agg:∀l,bk (.agg l)=all l+1
 nil:all []=0
 cons:∀d l,all (d::l)=bk d+all l
def Ty.bulk:(t:Ty)->t.T->Nat
 | .str,s=>(show List UInt8 from s).length+1
 | .slice e,xs=>((show List e.T from xs).map λx=>max 1 (e.bulk x)).sum+1
 | .agg t,x=>t.bulk x
 | .prod a b,x=>a.bulk x.1+b.bulk x.2
 |_,_=>0
theorem ASE{α β:Type}{f:α->Nat}{g:β->Nat}:∀(l:List α) (m:List β),l.length=m.length->(∀(i:Nat) (v:α) (d:β),l[i]?=some v->m[i]?=some d->f v<=g d)->(l.map f).sum<=(m.map g).sum:=by
 intro l;induction l with
 |nil=>intro m _ _;simp
 |cons a l ih=>
  intro m hl h;cases m with
  |nil=>cases hl
  |cons d m=>
   have h1:=h 0 a d rfl rfl;have h2:=ih m (by simpa using hl) λi v d hv hd=>h (i+1) v d oz (by simpa using hd);simp only[D2,List.sum_cons];omega
theorem ASF{H:Type}(B:Bulk H):∀l:List (DataW H),(l.map B.bk).sum=B.all l:=by
 intro l;induction l with
 |nil=>rw[B.nil];rfl
 |cons d l ih=>rw[B.cons,<-ih];simp
theorem ASG{H:Type}(B:Bulk H):∀l:List (DataW H),l.length<=B.all l:=by
 intro l;induction l with
 |nil=>simp
 |cons d l ih=>have:=B.pos d;rw[B.cons,AF];omega
theorem ASH{H:Type}(B:Bulk H):∀(l:List (DataW H)) (d:DataW H),d∈l->B.bk d<=B.all l:=by
 intro l;induction l with
 |nil=>intro d h;cases h
 |cons e l ih=>
  intro d h;rw[B.cons];rcases A_.1 h with rfl|h
  .omega
  .have:=ih d h;omega
theorem ASI{α:Type}{Q:Nat->α->Prop}:∀n:Nat,(∀i,i<n->∃v,Q i v)->∃l:List α,l.length=n/\∀i v,l[i]?=some v->Q i v:=by
 intro n;induction n with
 |zero=>intro _;exact⟨[],rfl,λi v h=>by simp at h⟩
 |succ n ih=>
  intro h;obtain⟨l,h1,h2⟩:=ih λi hi=>h i o5;obtain⟨v,hv⟩:=h n o5;refine⟨l++[v],by simp[h1],λi x hx=>?_⟩;by_cases hi:i<n
  .rw[AQ o5]at hx;exact h2 i x hx
  .rw[AZ o5]at hx
   have:i-l.length=0:=by
    have:=(A8.1 hx).1;simp at this;omega
   rw[this]at hx;simp at hx;subst hx;have:i=n:=o5
   subst this;exact hv
theorem sL{w:World}{a:Addr}{k n:Nat}{c:List Value}(hn:0<n)(h:w.cells? 0 (a.add k) n=some c):
 (k=0->a.spot=none)/\Row w (L6 w) a.block (a.off+k) n c:=by
 unfold World.cells? at h;rw[if_pos (BQ _)]at h;have hl:=mapM_some_length h;rw[DF]at hl;have hg:∀j,j<n->w.cell? ((a.add k).add j)=c[j]?:=λj hj=>mapM_some_get h j j (by simp[hj]);have hsome:∀j,j<n->∃v,c[j]?=some v:=λj hj=>⟨_,A0 o5⟩
 have hspot:k=0->a.spot=none:=by
  intro hk;subst hk;obtain⟨v,hv⟩:=hsome 0 hn;have h0:=hg 0 hn;rw[hv]at h0;simp only[Addr.add,if_true]at h0;unfold World.cell? at h0;split at h0
  .split at h0
   .cases h0
   .rename_i hs;simpa using hs
  .cases h0
 refine⟨hspot,hl,λj hj=>?_⟩;obtain⟨v,hv⟩:=hsome j hj;have h0:=hg j hj
 have e:(a.add k).add j=⟨a.block,a.off+k+j,none⟩:=by
  unfold Addr.add;by_cases hk:k=0
  .have:=hspot hk;subst hk;obtain⟨b,o,s⟩:=a;simp only at this;subst this;by_cases hj0:j=0<;>simp[hj0]
  .rw[if_neg hk];by_cases hj0:j=0<;>simp[hj0]
 rw[e]at h0;have e2:a.off+k+j=a.off+k+j:=rfl;refine⟨?_,h0⟩;rw[hv]at h0;unfold World.cell? at h0;split at h0
 .rename_i hh;exact(BC.1 hh).1
 .cases h0
section
variable{H:Type}{enc:TypeId×Value->H}{P:Program}{w:World}
def PO(enc:TypeId×Value->H)(P:Program)(w:World)(B:Bulk H)(K:Nat)(t:Ty):Prop:=
 ∀(id:Nat),Lay P t id->∀(n:Nat) (cs:List Value) (x:DataW H×List MemPlace),DataW.trod enc P w 0 (λ_=>true) true n id cs=some x->B.bk x.1<=K->∃v:t.T,Rel w (L6 w) t v cs/\t.bulk v<=B.bk x.1
def A7i(enc:TypeId×Value->H)(P:Program)(w:World)(B:Bulk H)(K:Nat)(t:Ty):Prop:=
 ∀(fs:List Field) (off:Nat),(layB P t).2 fs off=true->∀(n:Nat) (cs:List Value) (xs:List (DataW H×List MemPlace)),xs.length=fs.length->(∀(i:Nat) (f:Field),fs[i]?=some f->DataW.trod enc P w 0 (λ_=>true) true n f.type ((cs.drop f.offset).take (P.cellsOf f.type))=xs[i]?)->off+t.sz<=cs.length->
  B.all (xs.map (·.1))<=K->∃v:t.T,Rel w (L6 w) t v ((cs.drop off).take t.sz)/\t.bulk v<=B.all (xs.map (·.1))
theorem fC{t:Ty}{id:Nat}(h:Lay P t id):P.cellsOf id=t.sz:=by
 obtain⟨i,v,h1,h2,_⟩:=IU h.inf;simp[Program.cellsOf,h1,h2]
theorem WC{B:Bulk H}{K:Nat}{t:Ty}(h:PO enc P w B K t)(e:∀fs off,(layB P t).2 fs off=(match fs with|[f]=>Nat.beq f.offset off&&(layB P t).1 f.type|_=>false)):A7i enc P w B K t:=by
 intro fs off hl n cs xs hxl hm hsz hK;rw[e]at hl;split at hl
 .rename_i f;rw[A4]at hl;have ho:f.offset=off:=A2 hl.1;have hL:Lay P t f.type:=hl.2;obtain⟨x,rfl⟩:∃x,xs=[x]:=List.length_eq_one_iff.1 hxl;have hx:=hm 0 f rfl
  have e1:B.all ([x].map (·.1))=B.bk x.1:=by
   show B.all [x.1]=_;rw[B.cons,B.nil];omega
  rw[e1]at hK ⊢;obtain⟨v,hv,hb⟩:=h f.type hL n _ x hx hK;rw[ho,fC hL]at hv;exact⟨v,hv,hb⟩
 .cases hl
theorem opn(B:Bulk H)(K:Nat)(hK:K<=281474976710656):∀t:Ty,t.plain=true->PO enc P w B K t/\A7i enc P w B K t:=by
 intro t;induction t with
 |unit=>
  intro _;refine⟨λid hl=>(by cases hl),λfs off hl n cs xs hxl hm _ _=>?_⟩;exact⟨(),by show _=([]:List Value);simp[Ty.sz],BQ _⟩
 |bool=>
  intro _
  have h1:PO enc P w B K .bool:=by
   intro id hl n cs x hx hb;obtain⟨b,rfl,rfl⟩:=DataW.trod_bool hl.bool hx;exact⟨b,rfl,BQ _⟩
  exact⟨h1,WC h1 λ_ _=>rfl⟩
 |int k=>
  intro _
  have h1:PO enc P w B K (.int k):=by
   intro id hl n cs x hx hb;obtain⟨m,rfl,rfl,hw⟩:=DataW.trod_int hl.int hx;simp only[Lit.wf,A4,AX]at hw;exact⟨m,⟨rfl,hw⟩,BQ _⟩
  exact⟨h1,WC h1 λ_ _=>rfl⟩
 |str=>
  intro _
  have h1:PO enc P w B K .str:=by
   intro id hl n cs x hx hb;obtain⟨s,rfl,rfl,_⟩:=DataW.trod_string hl.str hx;rw[B.str]at hb;exact⟨s.data.toList,⟨oc,by show s.data.toList.length<=_;omega⟩,by show s.data.toList.length+1<=_;rw[B.str];exact AB _⟩
  exact⟨h1,WC h1 λ_ _=>rfl⟩
 |slice e ih=>
  intro hp;have ihe:=(ih hp).1
  have h1:PO enc P w B K (.slice e):=by
   intro id hl n cs x hx hb;obtain⟨el,hun,hle,hpos⟩:=hl.slice;have hc:=fC hle;rcases DataW.trod_slice hun hx with⟨rfl,rfl⟩|⟨a,len,cap,elems,rest,n',rfl,rfl,rfl,_,hlc,_,hel,he,hr,_⟩
   .refine⟨([]:List e.T),⟨none,0,rfl,⟨AB _,BQ _⟩,λ_=>⟨rfl,rfl⟩,λad h=>oe⟩,?_⟩;have:=B.pos (DataW.nil (H:=H));show 0+1<=_;exact this
   .simp only[hc]at he hr;obtain⟨hrl,hr⟩:=hr trivial;rw[B.slice]at hb ⊢
    have hlen:len<=K:=by
     have:=ASG B (elems.map (·.1));rw[B2]at this;omega
    have hget:∀i,i<len->∃c y,elems[i]?=some y/\w.cells? 0 (a.add (i*e.sz)) e.sz=some c/\DataW.trod enc P w 0 (λ_=>true) true n' el c=some y:=by
     intro i hi;have h2:=he i hi;rw[A0 o5]at h2;obtain⟨c,hc1,hc2⟩:=BT.1 h2;exact⟨c,elems[i],A0 o5,hc1,hc2⟩
    have hspot:cap≠0->a.spot=none:=by
     intro hcap;by_cases hl0:len=0
     .have h2:=hr 0 o5;rw[A0 o5]at h2;obtain⟨c,hc1,_⟩:=BT.1 h2;rw[hl0]at hc1;exact(sL hpos hc1).1 oc
     .obtain⟨c,y,_,hc1,_⟩:=hget 0 o5;exact(sL hpos hc1).1 oc
    obtain ⟨l,hl1,hl2⟩:=ASI (Q:=λi (v:e.T)=>∃ (c:List Value) (y:DataW H×List MemPlace),elems[i]? = some y/\Row w (L6 w) a.block (a.off+i*e.sz) e.sz c/\Rel w (L6 w) e v c/\e.bulk v<=B.bk y.1) len (by
     intro i hi;obtain⟨c,y,hy,hc1,hc2⟩:=hget i hi
     have hby:B.bk y.1<=K:=by
      have:=ASH B (elems.map (·.1)) y.1 (C2.2 ⟨y,B5 hy,rfl⟩);omega
     obtain⟨v,hv,hvb⟩:=ihe el hle n' c y hc2 hby;exact⟨v,c,y,hy,(sL hpos hc1).2,hv,hvb⟩)
    refine⟨l,⟨some a,cap,by rw[<-hl1],⟨by show l.length<=_;omega,by show l.length<=_;omega⟩,(λh=>oe),λad had=>?_⟩,?_⟩
    .cases had;refine⟨hspot,λi v hv=>?_⟩;obtain⟨c,y,_,h3,h4,_⟩:=hl2 i v hv;exact⟨c,h3,h4⟩
    .show(l.map λx=>max 1 (e.bulk x)).sum+1<=_
     have hs:(l.map λx=>max 1 (e.bulk x)).sum<=((elems.map (·.1)).map B.bk).sum:=by
      refine ASE l (elems.map (·.1)) (by rw[B2];omega) λi v d hv hd=>?_;obtain⟨c,y,hy,_,_,hb2⟩:=hl2 i v hv;rw[AV,hy]at hd;cases hd;have:=B.pos y.1;exact Nat.max_le.2 ⟨this,hb2⟩
     rw[ASF]at hs;omega
  exact⟨h1,WC h1 λ_ _=>rfl⟩
 |agg p ih=>
  intro hp;have ihp:=(ih hp).2
  have h1:PO enc P w B K (.agg p):=by
   intro id hl n cs x hx hb;obtain⟨fs,hun,hlf,hpos⟩:=hl.agg;have hc:=fC hl;obtain⟨xs,n',rfl,rfl,hlen,hxl,hm⟩:=DataW.trod_struct hun hx;rw[B.agg]at hb ⊢;obtain⟨v,hv,hvb⟩:=ihp fs.toList 0 hlf n' cs xs (by rw[hxl];simp) (λi f hf=>hm i f (by simpa using hf)) (by rw[hlen,hc];show 0+p.sz<=p.sz;omega) o5;refine⟨v,?_,by show p.bulk v<=_;omega⟩;show Rel w (L6 w) p v cs;rw[DG,CZ (by rw[hlen,hc];exact AB _)]at hv;exact hv
  exact⟨h1,WC h1 λ_ _=>rfl⟩
 |prod a b iha ihb=>
  intro hp;have hp':a.plain=true/\b.plain=true:=D1.1 hp;have ia:=(iha hp'.1).1;have ib:=(ihb hp'.2).2;refine⟨λid hl=>(by cases hl),λfs off hl n cs xs hxl hm hsz hKx=>?_⟩;cases fs with
  |nil=>cases hl
  |cons f r=>
   have hl':(Nat.beq f.offset off&&((layB P a).1 f.type&&((layB P b).2 r (off+a.sz)&&Nat.blt 0 b.fields)))=true:=hl;simp only[A4]at hl';obtain⟨h1,h2,h3,_⟩:=hl';have ho:f.offset=off:=A2 h1;have hL:Lay P a f.type:=h2;cases xs with
   |nil=>cases hxl
   |cons x ys=>
    have hx:=hm 0 f rfl;have e1:B.all ((x::ys).map (·.1))=B.bk x.1+B.all (ys.map (·.1)):=by rw[D2,B.cons]
    rw[e1]at hKx ⊢;have hszab:(Ty.prod a b).sz=a.sz+b.sz:=rfl;rw[hszab]at hsz ⊢;obtain⟨v,hv,hvb⟩:=ia f.type hL n _ x hx o5;obtain⟨u,hu,hub⟩:=ib r (off+a.sz) h3 n cs ys (by simpa using hxl) (λi g hg=>hm (i+1) g (by simpa using hg)) o5 o5;rw[ho,fC hL]at hv;refine⟨(v,u),⟨_,_,?_,hv,hu⟩,by show a.bulk v+b.bulk u<=_;omega⟩;rw[<-CM,List.take_add]
 |arr n e ih=>intro hp;cases hp
 |ptr e ih=>intro hp;cases hp
 |map k v ihk ihv=>intro hp;cases hp
 |inil=>intro hp;cases hp
 |ialt i t r iht ihr=>intro hp;cases hp
 |self=>intro hp;cases hp
 |opq=>intro hp;cases hp
 |fnc a b _ _=>intro hp;cases hp
theorem ASJ(B:Bulk H){K:Nat}(hK:K<=281474976710656){t:Ty}(hp:t.plain=true){id:Nat}(hl:Lay P (.agg t) id){r:Reach}{b0:Nat}{v:Value}{d:DataW H}{ps:List MemPlace}
 (hval:Value.okWide P w r b0 id v)(hd:DataW.Trod enc P w 0 (λ_=>true) true id v d ps)(hb:B.bk d<=K):∃x:t.T,VRel w (L6 w) (.agg t) x v/\t.bulk x<=B.bk d:=by
 obtain⟨fs,hun,_⟩:=hl.agg;unfold Value.okWide at hval;rw[hun]at hval;obtain⟨cs,rfl,_⟩:=hval;obtain⟨n,hn⟩:=hd;obtain⟨x,hx,hxb⟩:=(opn B K hK (.agg t) hp).1 id hl n _ _ hn hb;exact⟨x,⟨cs.toList,by show _=Value.agg cs.toList.toArray;simp,hx⟩,hxb⟩
end
structure Same(W W':World):Prop where
 os:W'.os=W.os
 tape:W'.tape=W.tape
 output:W'.output=W.output
 size:W.heap.size<=W'.heap.size
 heap:∀b,b<W.heap.size->W'.heap[b]?=W.heap[b]?
theorem Same.kept{W W':World}(h:Same W W')(may:MemPlace->Prop):W.keptBut W' may:=by
 refine⟨h.os,h.output,λi hi=>?_⟩;rw[h.heap i hi];exact(World.keptBut_refl W may).2.2 i hi
theorem Same.below{W W':World}(h:Same W W'):RowKit.Below W.heap.size W W':=⟨h.os,h.tape,h.output,h.size,h.heap⟩
theorem ASK{P:Program}{W w':World}{I I':Im}{e:Ending}{rv:Value}{vs:List Value}{bs':List Nat}(he:e=.returned rv)(hr:IV vs rv)
 (ha:After (·∈([]:List Nat)) W I w' I')(hs:ShL P w' I' [.val .bool] true (vs++[]) bs'):e=.returned (.bool true)/\Same W w':=by
 rw[C3]at hs;obtain⟨v,rfl,⟨c,h1,h2⟩,_⟩:=hs;have h1':c=[v]:=h1;have h2':c=[.bool true]:=h2;subst h1';cases h2';have hr':rv=.bool true:=hr;subst hr';exact⟨he,ha.os,ha.tape,ha.output,ha.size,λb hb=>ha.heap b hb (λk=>by cases k)⟩
theorem ASL{H:Type}{enc:TypeId×Value->H}{P:Program}{f:Func}{s:ChangeSpec}{apart fresh handsOn:Bool}{W W':World}{args:Array Value}{v:Value}{ds gs:List (DataW H)}{before pa pv:List MemPlace}
 (hW:DataW.Whole enc P f.params.toList s.vars apart W args.toList ds gs before)
 (hres:∀(b:Nat) (sp:Nat->Bool) (hd:Bool),DataW.TrodAll enc P W' b sp hd f.resultTypes.toList (v.resultList f.resultTypes.size) (s.fn H (ds++gs)).results [])
 (hargs:DataW.TrodAll enc P W' 0 (λb=>decide (b<W.heap.size)) true f.params.toList args.toList (s.fn H (ds++gs)).args pa)
 (hvars:DataW.TrodVars enc P W' (λb=>decide (b<W.heap.size)) s.vars (s.fn H (ds++gs)).vars pv)
 (hps:before=pa++pv)(hk:W.keptBut W' (·∈before)):
 s.post enc P f apart fresh handsOn false W args v W':=by
 refine⟨ds,gs,before,[],pa,pv,hW,hres _ _ _,hargs,hvars,World.keptBut_mono (λp hp=>⟨hp,?_⟩) hk,λh=>oe⟩;rw[hps,AL]at hp;exact Or.inr hp
theorem ASM{H:Type}{enc:TypeId×Value->H}{C:Checked}{os:Os}{f:FuncId}{fn:Func}{s:OpenSpec}{conds:List PathCond}{apart:Bool}{laid:List (String×DataW Unit)}(w0:World)(args:Array Value)(hos:w0.os=os)
 (hsh:(w0.forCall (λ_ _=>0) ⟨#[],args,[]⟩).Shaped C.prog)
 (hok:Input.okWideB C.prog (w0.forCall (λ_ _=>0) ⟨#[],args,[]⟩) f ⟨#[],args,[]⟩=true)
 (hrow:s.preRow enc C.prog fn conds apart laid (w0.forCall (λ_ _=>0) ⟨#[],args,[]⟩).memory args):
 ∃(w:World) (tape:Tape) (i:Input),w.os=os/\(w.forCall tape i).Shaped C.prog/\i.vars=[]/\Input.okWide C.prog (w.forCall tape i) .any w.heap.size f i/\
  s.preRow enc C.prog fn conds apart laid (w.forCall tape i).memory i.args/\({}:Assume).holds C.prog (lone (Frame.enter C.prog f i.args .normal) [] (w.forCall tape i)):=
 ⟨w0,λ_ _=>0,⟨#[],args,[]⟩,hos,hsh,(Input.okWide_of_okWideB (base:=0) hok).1,(Input.okWide_of_okWideB hok).2,hrow,by
  simp only[Assume.holds];exact⟨oc,oc,λ_=>Modest.zero,oc,oc⟩⟩
open Go.ChangeShapes Go.WideShapes
section
variable{H:Type}{enc:TypeId×Value->H}{P:Program}{w:World}
theorem ASN{r:Reach}{b0 id el:Nat}{v:Value}(hu:P.underlying id=some (.slice el))(h:Value.okWide P w r b0 id v):∃a l c,v=.slice a l c:=by
 unfold Value.okWide at h;rw[hu]at h;cases v with
 |slice a l c=>exact⟨a,l,c,rfl⟩
 |_=>exfalso;simp[Cell.okWide,Cell.ok,hu]at h
theorem ASO(B:Bulk H){K:Nat}(hK:K<=281474976710656){e:Ty}(hp:e.plain=true){id:Nat}(hl:Lay P (.slice e) id){r:Reach}{b0:Nat}{v:Value}{d:DataW H}{ps:List MemPlace}
 (hval:Value.okWide P w r b0 id v)(hd:DataW.Trod enc P w 0 (λ_=>true) true id v d ps)(hb:B.bk d<=K):∃x:(Ty.slice e).T,VRel w (L6 w) (.slice e) x v/\Ty.bulk (.slice e) x<=B.bk d:=by
 obtain⟨el,hun,_⟩:=hl.slice;obtain⟨a,l,c,rfl⟩:=ASN hun hval;obtain⟨n,hn⟩:=hd;obtain⟨x,hx,hxb⟩:=(opn B K hK (.slice e) hp).1 id hl n _ _ hn hb;exact⟨x,⟨[.slice a l c],rfl,hx⟩,hxb⟩
end
end Go.Ev
namespace Go.Ev.Pv
abbrev ASP:Ty:=.prod .str (.prod (.int .i64) (.prod (.slice (.agg (.prod (.int .i64) .str))) (.prod (.slice .str) (.slice .str))))
abbrev ASQ:Ty:=.prod .str (.prod (.slice .str) (.prod .str (.prod (.int .i64) (.prod .bool (.prod .str (.slice (.agg ASP)))))))
abbrev A7j:Ty:=.prod (.int .i64) (.prod (.slice (.agg ASQ)) (.slice (.int .i64)))
theorem ASR{α:Type}{f:α->Nat}:∀{l:List α} {x:α},x∈l->f x<=(l.map f).sum:=by
 intro l;induction l with
 |nil=>intro x h;cases h
 |cons a l ih=>
  intro x h;simp only[D2,List.sum_cons];rcases A_.1 h with rfl|h
  .omega
  .have:=ih h;omega
theorem L7{α:Type}{f:α->Nat}:∀l:List α,l.length<=(l.map λx=>max 1 (f x)).sum:=by
 intro l;induction l with
 |nil=>simp
 |cons a l ih=>
  simp only[D2,List.sum_cons,AF];have:1<=max 1 (f a):=Nat.le_max_left _ _;omega
theorem L8{α:Type}{f:α->Nat}{l:List α}{x:α}(h:x∈l):f x<=(l.map λx=>max 1 (f x)).sum:=
 AU (Nat.le_max_right 1 (f x)) (ASR (f:=λx=>max 1 (f x)) h)
def fD(v:Int×DW):Nat:=0+(v.2.length+1)
def bS(s:DW):Nat:=s.length+1
def WD(a:Af):Nat:=(a.1.length+1)+(0+(((a.2.2.1.map λx=>max 1 (fD x)).sum+1)+(((a.2.2.2.1.map λx=>max 1 (bS x)).sum+1)+((a.2.2.2.2.map λx=>max 1 (bS x)).sum+1))))
def SC(a:L5):Nat:=(a.1.length+1)+(((a.2.1.map λx=>max 1 (bS x)).sum+1)+((a.2.2.1.length+1)+(0+(0+((a.2.2.2.2.2.1.length+1)+((a.2.2.2.2.2.2.map λx=>max 1 (WD x)).sum+1))))))
def fE(b:Bs):Nat:=0+(((b.2.1.map λx=>max 1 (SC x)).sum+1)+((b.2.2.map λ_=>max 1 0).sum+1))
theorem ASS{a:Af}{K:Nat}(hK:K<=1048576)(h:WD a<=K):N5 a:=by
 unfold WD at h;have l1:=L7 (f:=fD) a.2.2.1;have l2:=L7 (f:=bS) a.2.2.2.1;have l3:=L7 (f:=bS) a.2.2.2.2;refine⟨o5,o5,λv hv=>?_,o5,λs hs=>?_,o5,λs hs=>?_⟩
 .have:=L8 (f:=fD) hv;unfold fD at this h;omega
 .have:=L8 (f:=bS) hs;unfold bS at this h;omega
 .have:=L8 (f:=bS) hs;unfold bS at this h;omega
theorem AST{a:L5}{K:Nat}(hK:K<=1048576)(h:SC a<=K):N6 a:=by
 unfold SC at h;have l1:=L7 (f:=bS) a.2.1;have l2:=L7 (f:=WD) a.2.2.2.2.2.2;refine⟨o5,o5,λs hs=>?_,o5,o5,o5,λx hx=>?_⟩
 .have:=L8 (f:=bS) hs;unfold bS at this h;omega
 .have:=L8 (f:=WD) hx;exact ASS (K:=K) hK o5
theorem ASU{l:List L5}{K:Nat}(hK:K<=1048576)(h:(l.map λx=>max 1 (SC x)).sum<=K):l.length<=1048576/\∀a∈l,N6 a:=by
 have l1:=L7 (f:=SC) l;refine⟨o5,λa ha=>?_⟩;have:=L8 (f:=SC) ha;exact AST (K:=K) hK o5
theorem ASV{b:Bs}{K:Nat}(hK:K<=1048576)(h:Ty.bulk A7j b<=K):BB b/\b.2.1.length<=1048576:=by
 have h:fE b<=K:=h;unfold fE at h;have:=ASU (l:=b.2.1) hK o5;exact⟨this.2,this.1⟩
abbrev A7k:Ty:=.prod .bool (.prod .bool .str)
abbrev ASW:Ty:=.prod (.agg A7k) (.agg A7k)
abbrev A7l:Ty:=.prod .str (.prod (.agg (.prod (.int .i64) (.slice (.agg ASW)))) (.int .i64))
abbrev ASX:Ty:=.prod .str (.prod .str (.prod (.slice (.agg A7l)) .bool))
abbrev tPin:Ty:=.prod .str .str
abbrev tTask:Ty:=.prod (.agg (.slice (.agg ASX))) (.prod (.slice (.agg A7l)) (.prod (.int .i64) (.prod (.slice (.agg tPin)) (.prod (.slice .str) (.prod .bool (.agg A7j))))))
def fF(s:S5):Nat:=(0+(0+(s.1.2.2.length+1)))+(0+(0+(s.2.2.2.length+1)))
def O1(n:GE):Nat:=(n.1.length+1)+((0+((n.2.1.2.map λx=>max 1 (fF x)).sum+1))+0)
def WE(o:GV):Nat:=(o.1.length+1)+((o.2.1.length+1)+(((o.2.2.1.map λx=>max 1 (O1 x)).sum+1)+0))
def PP(p:EX):Nat:=(p.1.length+1)+(p.2.length+1)
def A7m(t:FA):Nat:=((t.1.map λx=>max 1 (WE x)).sum+1)+(((t.2.1.map λx=>max 1 (O1 x)).sum+1)+(0+(((t.2.2.2.1.map λx=>max 1 (PP x)).sum+1)+(((t.2.2.2.2.1.map λx=>max 1 (bS x)).sum+1)+(0+fE t.2.2.2.2.2.2)))))
theorem A7n{n:GE}{K:Nat}(hK:K<=1048576)(h:O1 n<=K):N9 n/\n.2.1.2.length<=1048576:=by
 unfold O1 at h;have l1:=L7 (f:=fF) n.2.1.2;refine⟨⟨o5,λs hs=>?_⟩,o5⟩;have:=L8 (f:=fF) hs;unfold fF at this h;exact⟨o5,o5⟩
theorem ASY{o:GV}{K:Nat}(hK:K<=1048576)(h:WE o<=K):VW o:=by
 unfold WE at h;have l1:=L7 (f:=O1) o.2.2.1;refine⟨o5,o5,o5,λn hn=>?_⟩;have:=L8 (f:=O1) hn;exact(A7n (K:=K) hK o5).1
theorem A7o{l:List EX}{K:Nat}(hK:K<=1048576)(h:(l.map λx=>max 1 (PP x)).sum<=K):l.length<=1048576/\∀p∈l,p.1.length<=1048576/\p.2.length<=1048576:=by
 have l1:=L7 (f:=PP) l;refine⟨o5,λp hp=>?_⟩;have:=L8 (f:=PP) hp;unfold PP at this h;exact⟨o5,o5⟩
theorem ASZ{t:FA}{K:Nat}(hK:K<=1048576)(h:Ty.bulk tTask t<=K):TkB t/\BB t.2.2.2.2.2.2/\∀nd∈t.2.1,nd.2.1.2.length<=1048576:=by
 have h:A7m t<=K:=h;unfold A7m at h;have l1:=L7 (f:=WE) t.1;have l2:=L7 (f:=O1) t.2.1;have l3:=L7 (f:=bS) t.2.2.2.2.1;have p:=A7o (l:=t.2.2.2.1) (K:=K) hK o5;have b:=ASV (b:=t.2.2.2.2.2.2) (K:=K) hK (by show fE _<=K;omega)
 have nd:∀n∈t.2.1,N9 n/\n.2.1.2.length<=1048576:=λn hn=>by
  have:=L8 (f:=O1) hn;exact A7n (K:=K) hK o5
 refine⟨⟨o5,λo ho=>?_,o5,λn hn=>(nd n hn).1,p.1,p.2,o5,λs hs=>?_⟩,b.1,λn hn=>(nd n hn).2⟩
 .have:=L8 (f:=WE) ho;exact ASY (K:=K) hK o5
 .have:=L8 (f:=bS) hs;unfold bS at this h;omega
theorem AS_{l:(Ty.slice (.agg tPin)).T}{K:Nat}(hK:K<=1048576)(h:Ty.bulk (.slice (.agg tPin)) l<=K):(show List EX from l).length<=1048576/\∀p∈(show List EX from l),p.1.length<=1048576/\p.2.length<=1048576:=by
 have h:(List.map (λx:EX=>max 1 (PP x)) l).sum+1<=K:=h;have h2:(List.map (λx:EX=>max 1 (PP x)) l).sum<=K:=o5
 exact A7o (l:=l) (K:=K) hK h2
theorem law25u(t:FA)(l:List EX)(ht:Ty.bulk tTask t<=1048576)(hl:Ty.bulk (.slice (.agg tPin)) l<=1048576):dE (t,l)=some true:=by
 obtain⟨h1,h2,_⟩:=ASZ (t:=t) (AB _) ht;obtain⟨h3,h4⟩:=AS_ (l:=l) (AB _) hl;exact ASD t l h1 h2 h3 h4
end Go.Ev.Pv
