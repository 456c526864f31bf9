/-
  From the reading of an argument to the evaluator's data, and from its bulk to bounds.
-/
import Derived.OpenShut
import Derived.Lay
import Derived.Deep.DeepHandedRow
import Derived.Test.YtngpbgokgpnamaaGreatDoorA4
set_option linter.all false
set_option maxRecDepth 100000
namespace Go.Ev
variable [Pins]
open Go.ChangeShapes Go.WideShapes
def Ty.plain:Ty->Bool
 | .unit=>true
 | .bool=>true
 | .int _=>true
 | .str=>true
 | .slice e=>e.plain
 | .agg t=>t.plain
 | .prod a b=>a.plain&&b.plain
 |_=>false
def PL(w:World):Im:=⟨λb _=>b<w.heap.size,λb=>b<w.heap.size⟩
structure Bulk(H:Type) where
 bk:DataW H->Nat
 all:List (DataW H)->Nat
 str:∀s,bk (.lit (.string s))=s.length+1
 pos:∀d,1<=bk d
 slice:∀a b,bk (.slice a b)=all a+all b+1
 agg:∀l,bk (.agg l)=all l+1
 nil:all []=0
 cons:∀d l,all (d::l)=bk d+all l
def Ty.bulk:(t:Ty)->t.T->Nat
 | .str,s=>(show List UInt8 from s).length+1
 | .slice e,xs=>((show List e.T from xs).map λx=>max 1 (e.bulk x)).sum+1
 | .agg t,x=>t.bulk x
 | .prod a b,x=>a.bulk x.1+b.bulk x.2
 |_,_=>0
theorem AcA{α b:Type}{f:α->Nat}{g:b->Nat}:∀(l:List α) (m:List b),l.length=m.length->(∀(i:Nat) (v:α) (d:b),l[i]?=some v->m[i]?=some d->f v<=g d)->(l.map f).sum<=(m.map g).sum:=by
 intro l;induction l with
 |nil=>simp
 |cons a l s=>
  intro m e h;cases m with
  |nil=>cases e
  |cons d m=>have h1:=h 0 a d rfl rfl;have w:=s m (by simpa using e) λi v d p j=>h (i+1) v d (by simpa using p) (by simpa using j);grind
theorem AcB{H:Type}(B:Bulk H):∀l:List (DataW H),(l.map B.bk).sum=B.all l:=by
 intro l;induction l with
 |nil=>rw[B.nil];rfl
 |cons d l a=>rw[B.cons,<-a];simp
theorem bk_len{H:Type}(B:Bulk H):∀l:List (DataW H),l.length<=B.all l:=by
 intro l;induction l with
 |nil=>simp
 |cons d l a=>have:=B.pos d;rw[B.cons,BL];omega
theorem AcC{H:Type}(B:Bulk H):∀(l:List (DataW H)) (d:DataW H),d∈l->B.bk d<=B.all l:=by
 intro l;induction l with
 |nil=>simp
 |cons e l a=>intro d h;rw[B.cons];grind
theorem AcD{α:Type}{Q:Nat->α->Prop}:∀n:Nat,(∀i,i<n->∃v,Q i v)->∃l:List α,l.length=n/\∀i v,l[i]?=some v->Q i v:=by
 intro n;induction n with
 |zero=>simp
 |succ n a=>intro h;have⟨l,h1,b⟩:=a λi hi=>h i oa;have⟨v,d⟩:=h n oa;refine⟨l++[v],by simp[h1],λi x e=>?_⟩;grind
theorem A1R{w:World}{a:Addr}{k n:Nat}{c:List Value}(z:0<n)(h:w.cells? 0 (a.add k) n=some c):
 (k=0->a.spot=none)/\Row w (PL w) a.block (a.off+k) n c:=by
 unfold World.cells? at h;rw[if_pos (AS _)]at h;have y:=mapM_some_length h;rw[List.length_range]at y;have x:∀j,j<n->w.cell? ((a.add k).add j)=c[j]?:=λj m=>mapM_some_get h j j (by simp[m]);have d:∀j,j<n->∃v,c[j]?=some v:=λj m=>⟨_,A1 oa⟩;have l:k=0->a.spot=none:=by
  intro hk;subst hk;have⟨v,p⟩:=d 0 z;have h0:=x 0 z;rw[p]at h0;simp only[Addr.add,if_true]at h0;unfold World.cell? at h0;split at h0
  .simp_all
  .cases h0
 refine⟨l,y,λj m=>?_⟩;have⟨v,p⟩:=d j m;have h0:=x j m;have e:(a.add k).add j=⟨a.block,a.off+k+j,none⟩:=by
  unfold Addr.add;by_cases hk:k=0
  .have:=l hk;subst hk;obtain⟨b,o,s⟩:=a;grind
  .grind
 rw[e]at h0;have B:a.off+k+j=a.off+k+j:=rfl;refine⟨?_,h0⟩;rw[p]at h0;unfold World.cell? at h0;split at h0
 .rename_i A;exact(B1.1 A).1
 .cases h0
section
variable{H:Type}{enc:TypeId×Value->H}{P:Program}{w:World}
def UO(enc:TypeId×Value->H)(P:Program)(w:World)(B:Bulk H)(K:Nat)(t:Ty):Prop:=
 ∀(id:Nat),Lay P t id->∀(n:Nat) (cs:List Value) (x:DataW H×List MemPlace),DataW.trod enc P w 0 (λ_=>true) true n id cs=some x->B.bk x.1<=K->∃v:t.T,Rel w (PL w) t v cs/\t.bulk v<=B.bk x.1
def AEl(enc:TypeId×Value->H)(P:Program)(w:World)(B:Bulk H)(K:Nat)(t:Ty):Prop:=
 ∀(fs:List Field) (off:Nat),(layB P t).2 fs off=true->∀(n:Nat) (cs:List Value) (xs:List (DataW H×List MemPlace)),xs.length=fs.length->(∀(i:Nat) (f:Field),fs[i]?=some f->DataW.trod enc P w 0 (λ_=>true) true n f.type ((cs.drop f.offset).take (P.cellsOf f.type))=xs[i]?)->off+t.sz<=cs.length->
  B.all (xs.map (·.1))<=K->∃v:t.T,Rel w (PL w) t v ((cs.drop off).take t.sz)/\t.bulk v<=B.all (xs.map (·.1))
theorem qW{t:Ty}{id:Nat}(h:Lay P t id):P.cellsOf id=t.sz:=by have⟨i,v,h1,a,_⟩:=K4 h.inf;simp[Program.cellsOf,h1,a]
theorem cR{B:Bulk H}{K:Nat}{t:Ty}(h:UO enc P w B K t)(e:∀fs a,(layB P t).2 fs a=(match fs with|[f]=>Nat.beq f.offset a&&(layB P t).1 f.type|_=>false)):AEl enc P w B K t:=by
 intro fs a b n A z d p s j;rw[e]at b;split at b
 .rename_i f;rw[A5]at b;have D:f.offset=a:=A4 b.1;have m:Lay P t f.type:=b.2;obtain⟨x,rfl⟩:∃x,z=[x]:=List.length_eq_one_iff.1 d;have y:=p 0 f rfl;have l:B.all ([x].map (·.1))=B.bk x.1:=by show B.all [x.1]=_;rw[B.cons,B.nil];omega
  rw[l]at j ⊢;have⟨v,E,C⟩:=h f.type m n _ x y j;grind[qW]
 .cases b
theorem opn(B:Bulk H)(K:Nat)(hK:K<=281474976710656):∀t:Ty,t.plain=true->UO enc P w B K t/\AEl enc P w B K t:=by
 intro t;induction t with
 |unit=>intro _;refine⟨λid A=>(by cases A),λfs J A n L xs I Z _ _=>?_⟩;exact⟨(),by rfl,AS _⟩
 |bool=>
  intro _;have h1:UO enc P w B K .bool:=by intro id A n L x G Q;obtain⟨b,rfl,rfl⟩:=DataW.trod_bool A.bool G;exact⟨b,rfl,AS _⟩
  exact⟨h1,cR h1 λ_ _=>rfl⟩
 |int k=>
  intro _;have h1:UO enc P w B K (.int k):=by intro id A n L x G Q;obtain⟨m,rfl,rfl,hw⟩:=DataW.trod_int A.int G;simp only[Lit.wf,A5,BA]at hw;exact⟨m,⟨rfl,hw⟩,AS _⟩
  exact⟨h1,cR h1 λ_ _=>rfl⟩
 |str=>
  intro _;have h1:UO enc P w B K .str:=by intro id A n L x G Q;obtain⟨s,rfl,rfl,_⟩:=DataW.trod_string A.str G;rw[B.str]at Q;exact⟨s.data.toList,⟨oh,oc⟩,by show s.data.toList.length+1<=_;rw[B.str];omega⟩
  exact⟨h1,cR h1 λ_ _=>rfl⟩
 |slice e ih=>
  intro z;have y0:=(ih z).1;have h1:UO enc P w B K (.slice e):=by
   intro id A n L x G Q;obtain⟨el,U,Y,D⟩:=A.slice;have hc:=qW Y;rcases DataW.trod_slice U G with⟨rfl,rfl⟩|⟨a,len,W,j,y3,n',rfl,rfl,rfl,_,y6,_,y5,he,hr,_⟩
   .refine⟨([]:List e.T),⟨none,0,rfl,⟨AD _,AS _⟩,λ_=>⟨rfl,rfl⟩,λad h=>oq⟩,?_⟩;have:=B.pos (DataW.nil (H:=H));assumption
   .simp only[hc]at he hr;have⟨y7,hr⟩:=hr trivial;rw[B.slice]at Q ⊢;have E:len<=K:=by have:=bk_len B (j.map (·.1));rw[B2]at this;omega
    have N:∀i,i<len->∃c y,j[i]?=some y/\w.cells? 0 (a.add (i*e.sz)) e.sz=some c/\DataW.trod enc P w 0 (λ_=>true) true n' el c=some y:=by intro i hi;have O:=he i hi;rw[A1 oa]at O;have⟨c,C,R⟩:=B6.1 O;exact⟨c,j[i],A1 oa,C,R⟩
    have x2:W≠0->a.spot=none:=by
     intro y2;by_cases h8:len=0
     .have O:=hr 0 oa;rw[A1 oa]at O;have⟨c,C,_⟩:=B6.1 O;rw[h8]at C;exact(A1R D C).1 oh
     .obtain⟨c,y,_,C,_⟩:=N 0 oa;exact(A1R D C).1 oh
    obtain ⟨l,h9,x0⟩:=AcD (Q:=λi (v:e.T)=>∃ (c:List Value) (y:DataW H×List MemPlace),j[i]? = some y/\Row w (PL w) a.block (a.off+i*e.sz) e.sz c/\Rel w (PL w) e v c/\e.bulk v<=B.bk y.1) len (by
     intro i hi;have⟨c,y,hy,C,R⟩:=N i hi;have h7:B.bk y.1<=K:=by have:=AcC B (j.map (·.1)) y.1 (B_.2 ⟨y,AH hy,rfl⟩);omega
     have⟨v,M,V⟩:=y0 el Y n' c y R h7;exact⟨v,c,y,hy,(A1R D C).2,M,V⟩)
    refine⟨l,⟨some a,W,by rw[<-h9],⟨oc,oc⟩,(λh=>oq),λad y4=>?_⟩,?_⟩
    .grind
    .show(l.map λx=>max 1 (e.bulk x)).sum+1<=_;have hs:(l.map λx=>max 1 (e.bulk x)).sum<=((j.map (·.1)).map B.bk).sum:=by refine AcA l (j.map (·.1)) oc λi v d M hd=>?_;have⟨c,y,hy,_,_,h6⟩:=x0 i v M;rw[AX,hy]at hd;cases hd;have:=B.pos y.1;exact Nat.max_le.2 ⟨this,h6⟩
     grind[AcB]
  exact⟨h1,cR h1 λ_ _=>rfl⟩
 |agg p ih=>
  intro z;have y1:=(ih z).2;have h1:UO enc P w B K (.agg p):=by intro id A n L x G Q;obtain⟨fs,U,x1,D⟩:=A.agg;have hc:=qW A;obtain⟨xs,n',rfl,rfl,E,I,Z⟩:=DataW.trod_struct U G;rw[B.agg]at Q ⊢;have⟨v,M,V⟩:=y1 fs.toList 0 x1 n' L xs (by rw[I];simp) (λi f hf=>Z i f (by simpa using hf)) (by rw[E,hc];show 0+p.sz<=p.sz;omega) oa;refine⟨v,?_,by show p.bulk v<=_;omega⟩;show Rel w (PL w) p v L;rw[DG,CF (by rw[E,hc];exact AD _)]at M;exact M
  exact⟨h1,cR h1 λ_ _=>rfl⟩
 |prod a b x4 x5=>
  intro z;have h4:a.plain=true/\b.plain=true:=CW.1 z;have ia:=(x4 h4.1).1;have ib:=(x5 h4.2).2;refine⟨λid A=>(by cases A),λfs J A n L xs I Z x3 h5=>?_⟩;cases fs with
  |nil=>cases A
  |cons f r=>
   have X:(Nat.beq f.offset J&&((layB P a).1 f.type&&((layB P b).2 r (J+a.sz)&&Nat.blt 0 b.fields)))=true:=A;simp only[A5]at X;obtain⟨h1,O,h3,_⟩:=X;have ho:f.offset=J:=A4 h1;have hL:Lay P a f.type:=O;cases xs with
   |nil=>cases I
   |cons x ys=>
    have G:=Z 0 f rfl;have e1:B.all ((x::ys).map (·.1))=B.bk x.1+B.all (ys.map (·.1)):=by rw[CQ,B.cons]
    rw[e1]at h5 ⊢;have T:(Ty.prod a b).sz=a.sz+b.sz:=rfl;rw[T]at x3 ⊢;have⟨v,M,V⟩:=ia f.type hL n _ x G oa;have⟨u,hu,y8⟩:=ib r (J+a.sz) h3 n L ys (by simpa using I) (λi g hg=>Z (i+1) g (by simpa using hg)) oa oa;rw[ho,qW hL]at M;refine⟨(v,u),⟨_,_,?_,M,hu⟩,by show a.bulk v+b.bulk u<=_;omega⟩;rw[<-C_,List.take_add]
 |arr n e ih=>intro z;cases z
 |ptr e ih=>intro z;cases z
 |map k v y9 z3=>intro z;cases z
 |inil=>intro z;cases z
 |ialt i t r z2 z1=>intro z;cases z
 |self=>intro z;cases z
 |opq=>intro z;cases z
 |fnc a b _ _=>intro z;cases z
theorem AcE(B:Bulk H){K:Nat}(m:K<=281474976710656){t:Ty}(z:t.plain=true){id:Nat}(e:Lay P (.agg t) id){r:Reach}{j:Nat}{v:Value}{d:DataW H}{ps:List MemPlace}
 (h:Value.okWide P w r j id v)(s:DataW.Trod enc P w 0 (λ_=>true) true id v d ps)(p:B.bk d<=K):∃x:t.T,VRel w (PL w) (.agg t) x v/\t.bulk x<=B.bk d:=by
 obtain⟨fs,a,_⟩:=e.agg;unfold Value.okWide at h;rw[a]at h;obtain⟨l,rfl,_⟩:=h;obtain⟨n,y⟩:=s;have⟨x,A,b⟩:=(opn B K m (.agg t) z).1 id e n _ _ y p;exact⟨x,⟨l.toList,by rfl,A⟩,b⟩
end
structure Same(W W':World):Prop where
 os:W'.os=W.os
 tape:W'.tape=W.tape
 output:W'.output=W.output
 size:W.heap.size<=W'.heap.size
 heap:∀b,b<W.heap.size->W'.heap[b]?=W.heap[b]?
theorem Same.kept{W W':World}(h:Same W W')(may:MemPlace->Prop):W.keptBut W' may:=by refine⟨h.os,h.output,λi hi=>?_⟩;rw[h.heap i hi];grind
theorem Same.below{W W':World}(h:Same W W'):RowKit.Below W.heap.size W W':=⟨h.os,h.tape,h.output,h.size,h.heap⟩
theorem AcF{P:Program}{W w':World}{I I':Im}{e:Ending}{l:Value}{vs:List Value}{bs':List Nat}(x:e=.returned l)(y:MD vs l)
 (h:After (·∈([]:List Nat)) W I w' I')(m:ShL P w' I' [.val .bool] true (vs++[]) bs'):e=.returned (.bool true)/\Same W w':=by
 rw[CU]at m;obtain⟨v,rfl,⟨c,h1,p⟩,_⟩:=m;have a:c=[v]:=h1;have d:c=[.bool true]:=p;subst a;cases d;have j:l=.bool true:=y;subst j;exact⟨x,h.os,h.tape,h.output,h.size,λb s=>h.heap b s (λk=>by cases k)⟩
theorem AcG{H:Type}{enc:TypeId×Value->H}{P:Program}{f:Func}{s:ChangeSpec}{d fresh e:Bool}{W W':World}{args:Array Value}{v:Value}{ds m:List (DataW H)}{a pa pv:List MemPlace}
 (x:DataW.Whole enc P f.params.toList s.vars d W args.toList ds m a)
 (w:∀(b:Nat) (B:Nat->Bool) (y:Bool),DataW.TrodAll enc P W' b B y f.resultTypes.toList (v.resultList f.resultTypes.size) (s.fn H (ds++m)).results [])
 (j:DataW.TrodAll enc P W' 0 (λb=>decide (b<W.heap.size)) true f.params.toList args.toList (s.fn H (ds++m)).args pa)
 (l:DataW.TrodVars enc P W' (λb=>decide (b<W.heap.size)) s.vars (s.fn H (ds++m)).vars pv)
 (A:a=pa++pv)(hk:W.keptBut W' (·∈a)):
 s.post enc P f d fresh e false W args v W':=by
 refine⟨ds,m,a,[],pa,pv,x,w _ _ _,j,l,World.keptBut_mono (λp z=>⟨z,?_⟩) hk,λh=>oq⟩;grind
theorem AcH{H:Type}{enc:TypeId×Value->H}{C:Checked}{os:Os}{f:FuncId}{fn:Func}{s:OpenSpec}{b:List PathCond}{a:Bool}{l:List (String×DataW Unit)}(w0:World)(args:Array Value)(e:w0.os=os)
 (j:(w0.forCall (λ_ _=>0) ⟨#[],args,[]⟩).Shaped C.prog)
 (h:Input.okWideB C.prog (w0.forCall (λ_ _=>0) ⟨#[],args,[]⟩) f ⟨#[],args,[]⟩=true)
 (d:s.preRow enc C.prog fn b a l (w0.forCall (λ_ _=>0) ⟨#[],args,[]⟩).memory args):
 ∃(w:World) (tape:Tape) (i:Input),w.os=os/\(w.forCall tape i).Shaped C.prog/\i.vars=[]/\Input.okWide C.prog (w.forCall tape i) .any w.heap.size f i/\
  s.preRow enc C.prog fn b a l (w.forCall tape i).memory i.args/\({}:Assume).holds C.prog (lone (Frame.enter C.prog f i.args .normal) [] (w.forCall tape i)):=
 ⟨w0,λ_ _=>0,⟨#[],args,[]⟩,e,j,(Input.okWide_of_okWideB (base:=0) h).1,(Input.okWide_of_okWideB h).2,d,by grind[Assume.holds,Modest.zero]⟩
end Go.Ev
namespace Go.Ev.Pv
abbrev AcI:Ty:=.prod .str (.prod (.int .i64) (.prod (.slice (.agg (.prod (.int .i64) .str))) (.prod (.slice .str) (.slice .str))))
abbrev AcJ:Ty:=.prod .str (.prod (.slice .str) (.prod .str (.prod (.int .i64) (.prod .bool (.prod .str (.slice (.agg AcI)))))))
abbrev AEm:Ty:=.prod (.int .i64) (.prod (.slice (.agg AcJ)) (.slice (.int .i64)))
theorem AcK{α:Type}{f:α->Nat}:∀{l:List α} {x:α},x∈l->f x<=(l.map f).sum:=by
 intro l;induction l with
 |nil=>intro x h;cases h
 |cons a l b=>
  intro x h;simp only[CQ,List.sum_cons];rcases A_.1 h with rfl|h
  .omega
  .have:=b h;omega
theorem UP{α:Type}{f:α->Nat}:∀l:List α,l.length<=(l.map λx=>max 1 (f x)).sum:=by
 intro l;induction l with
 |nil=>simp
 |cons a l b=>simp only[CQ,List.sum_cons,BL];have:1<=max 1 (f a):=Nat.le_max_left _ _;omega
theorem UQ{α:Type}{f:α->Nat}{l:List α}{x:α}(h:x∈l):f x<=(l.map λx=>max 1 (f x)).sum:=
 AM (Nat.le_max_right 1 (f x)) (AcK (f:=λx=>max 1 (f x)) h)
def qX(v:Int×DL):Nat:=0+(v.2.length+1)
def bS(s:DL):Nat:=s.length+1
def cT(a:Af):Nat:=(a.1.length+1)+(0+(((a.2.2.1.map λx=>max 1 (qX x)).sum+1)+(((a.2.2.2.1.map λx=>max 1 (bS x)).sum+1)+((a.2.2.2.2.map λx=>max 1 (bS x)).sum+1))))
def XR(a:FG):Nat:=(a.1.length+1)+(((a.2.1.map λx=>max 1 (bS x)).sum+1)+((a.2.2.1.length+1)+(0+(0+((a.2.2.2.2.2.1.length+1)+((a.2.2.2.2.2.2.map λx=>max 1 (cT x)).sum+1))))))
def qY(b:Bs):Nat:=0+(((b.2.1.map λx=>max 1 (XR x)).sum+1)+((b.2.2.map λ_=>max 1 0).sum+1))
theorem AcL{a:Af}{K:Nat}(e:K<=1048576)(h:cT a<=K):O8 a:=by
 unfold cT at h;have l:=UP (f:=qX) a.2.2.1;have j:=UP (f:=bS) a.2.2.2.1;have m:=UP (f:=bS) a.2.2.2.2;refine⟨oa,oa,λv d=>?_,oa,λs b=>?_,oa,λs b=>?_⟩
 .have:=UQ (f:=qX) d;unfold qX at this h;omega
 .have:=UQ (f:=bS) b;unfold bS at this h;omega
 .have:=UQ (f:=bS) b;unfold bS at this h;omega
theorem AcM{a:FG}{K:Nat}(b:K<=1048576)(h:XR a<=K):L8 a:=by
 unfold XR at h;have l:=UP (f:=bS) a.2.1;have j:=UP (f:=cT) a.2.2.2.2.2.2;refine⟨oa,oa,λs d=>?_,oa,oa,oa,λx e=>?_⟩
 .have:=UQ (f:=bS) d;unfold bS at this h;omega
 .have:=UQ (f:=cT) e;exact AcL (K:=K) b oa
theorem AcN{l:List FG}{K:Nat}(b:K<=1048576)(h:(l.map λx=>max 1 (XR x)).sum<=K):l.length<=1048576/\∀a∈l,L8 a:=by have e:=UP (f:=XR) l;refine⟨oa,λa d=>?_⟩;have:=UQ (f:=XR) d;exact AcM (K:=K) b oa
theorem AcO{b:Bs}{K:Nat}(a:K<=1048576)(h:Ty.bulk AEm b<=K):BB b/\b.2.1.length<=1048576:=by have h:qY b<=K:=h;unfold qY at h;have:=AcN (l:=b.2.1) a oa;exact⟨this.2,this.1⟩
abbrev A1S:Ty:=.prod .str .str
abbrev AcP:Ty:=.prod .str (.prod .str (.prod .str (.prod .str (.prod (.slice (.agg A1S)) .str))))
abbrev AcQ:Ty:=.prod .str (.prod (.agg AcP) (.prod (.slice (.agg A1S)) (.prod .str (.slice .str))))
abbrev AcR:Ty:=.prod .str (.prod .str (.int .i64))
abbrev AcS:Ty:=.prod .str (.prod .str (.prod .str (.prod (.slice (.agg AcQ)) (.slice (.agg AcR)))))
abbrev AcT:Ty:=.prod .str (.slice .str)
abbrev AcU:Ty:=.prod .str (.slice (.agg A1S))
abbrev AcV:Ty:=.prod (.int .i64) (.prod .str (.prod .str .str))
abbrev AcW:Ty:=.prod .str (.prod .str (.prod (.slice (.agg AcV)) (.slice .str)))
abbrev AcX:Ty:=.prod (.slice (.agg AcT)) (.prod (.slice (.agg AcU)) (.prod (.slice (.agg AcW)) (.slice .str)))
abbrev AcY:Ty:=.prod .str (.prod .str (.prod .str (.prod (.int .i64) (.prod (.int .i64) (.prod (.int .i64) (.int .i64))))))
abbrev tProd:Ty:=.prod (.agg AcS) (.prod (.int .i64) (.prod (.agg AEm) (.prod (.slice (.agg AcX)) (.prod (.int .i64) (.prod (.slice .str) (.slice (.agg AcY)))))))
theorem LF{α:Type}{f:α->Nat}{l:List α}{K:Nat}(h:(l.map λx=>max 1 (f x)).sum<=K):l.length<=K/\∀x∈l,f x<=K:=
 ⟨AM (UP l) h,λ_ a=>AM (UQ a) h⟩
def SY(x:DL×DL):Nat:=(x.1.length+1)+(x.2.length+1)
def qZ(c:F3):Nat:=(c.1.length+1)+(((c.2.1.1.length+1)+((c.2.1.2.1.length+1)+((c.2.1.2.2.1.length+1)+((c.2.1.2.2.2.1.length+1)+(((c.2.1.2.2.2.2.1.map λx=>max 1 (SY x)).sum+1)+(c.2.1.2.2.2.2.2.length+1))))))+
 (((c.2.2.1.map λx=>max 1 (SY x)).sum+1)+((c.2.2.2.1.length+1)+((c.2.2.2.2.map λx=>max 1 (bS x)).sum+1))))
def bEd(e:SJ):Nat:=(e.1.length+1)+((e.2.1.length+1)+0)
def bBl(b:IW):Nat:=(b.1.length+1)+((b.2.1.length+1)+((b.2.2.1.length+1)+(((b.2.2.2.1.map λx=>max 1 (qZ x)).sum+1)+((b.2.2.2.2.map λx=>max 1 (bEd x)).sum+1))))
def bIf(x:XD):Nat:=(x.1.length+1)+((x.2.map λx=>max 1 (bS x)).sum+1)
def bTy(x:UD):Nat:=(x.1.length+1)+((x.2.map λx=>max 1 (SY x)).sum+1)
def bCl(c:M2):Nat:=0+((c.2.1.length+1)+((c.2.2.1.length+1)+(c.2.2.2.length+1)))
def bFn(x:LA):Nat:=(x.1.length+1)+((x.2.1.length+1)+(((x.2.2.1.map λx=>max 1 (bCl x)).sum+1)+((x.2.2.2.map λx=>max 1 (bS x)).sum+1)))
def q_(g:JG):Nat:=((g.1.map λx=>max 1 (bIf x)).sum+1)+(((g.2.1.map λx=>max 1 (bTy x)).sum+1)+(((g.2.2.1.map λx=>max 1 (bFn x)).sum+1)+((g.2.2.2.map λx=>max 1 (bS x)).sum+1)))
def bSt(x:GT):Nat:=(x.1.length+1)+((x.2.1.length+1)+((x.2.2.1.length+1)+(0+(0+(0+0)))))
def AEn(p:GZ):Nat:=bBl p.1+(0+(qY p.2.2.1+(((p.2.2.2.1.map λx=>max 1 (q_ x)).sum+1)+(0+(((p.2.2.2.2.2.1.map λx=>max 1 (bS x)).sum+1)+((p.2.2.2.2.2.2.map λx=>max 1 (bSt x)).sum+1))))))
theorem AcZ{g:JG}(h:q_ g<=1048576):GB g:=by
 unfold q_ at h;have h1:=LF (f:=bIf) (l:=g.1) (K:=1048576) oa;have d:=LF (f:=bTy) (l:=g.2.1) (K:=1048576) oa;have e:=LF (f:=bFn) (l:=g.2.2.1) (K:=1048576) oa;have j:=LF (f:=bS) (l:=g.2.2.2) (K:=1048576) oa;refine⟨h1.1,λx b=>?_,d.1,λx b=>?_,e.1,λx b=>?_,j.1⟩
 .have k:=h1.2 x b;unfold bIf at k;have k1:=LF (f:=bS) (l:=x.2) (K:=1048576) oa;exact⟨oa,k1.1,λs a=>by have:=k1.2 s a;unfold bS at this;omega⟩
 .have k:=d.2 x b;unfold bTy at k;have k1:=LF (f:=SY) (l:=x.2) (K:=1048576) oa;exact⟨oa,k1.1,λs a=>by have:=k1.2 s a;unfold SY at this;omega⟩
 .have k:=e.2 x b;unfold bFn at k;have k1:=LF (f:=bCl) (l:=x.2.2.1) (K:=1048576) oa;have l:=LF (f:=bS) (l:=x.2.2.2) (K:=1048576) oa;exact⟨oa,oa,k1.1,l.1,λs a=>by have:=k1.2 s a;unfold bCl at this;omega⟩
theorem Ac_{p:GZ}(h:AEn p<=1048576):PrB p:=by
 unfold AEn at h;have y:bBl p.1<=1048576:=oa;unfold bBl at y;have l:=LF (f:=qZ) (l:=p.1.2.2.2.1) (K:=1048576) oa;have z:=LF (f:=q_) (l:=p.2.2.2.1) (K:=1048576) oa;have m:=LF (f:=bS) (l:=p.2.2.2.2.2.1) (K:=1048576) oa;have w:=LF (f:=bSt) (l:=p.2.2.2.2.2.2) (K:=1048576) oa;have d:BB p.2.2.1:=(AcO (b:=p.2.2.1) (K:=1048576) (AD _) (by show qY p.2.2.1<=_;omega)).1;refine⟨⟨oa,oa,λc a=>?_⟩,λc a=>?_,d,λg e=>AcZ (z.2 g e),m.1,λs b=>?_,w.1,λs b=>?_⟩
 .have k:=l.2 c a;unfold qZ at k;have k1:=LF (f:=SY) (l:=c.2.1.2.2.2.2.1) (K:=1048576) oa;have A:=LF (f:=SY) (l:=c.2.2.1) (K:=1048576) oa;have B:=LF (f:=bS) (l:=c.2.2.2.2) (K:=1048576) oa;exact⟨oa,k1.1,λx j=>(by have:=A.2 x j;unfold SY at this;omega),oa,λx j=>by have:=B.2 x j;unfold bS at this;omega⟩
 .have k:=l.2 c a;unfold qZ at k;omega
 .have:=m.2 s b;unfold bS at this;omega
 .have:=w.2 s b;unfold bSt at this;omega
theorem law20u(p:GZ)(h:Ty.bulk tProd p<=1048576):nT p=some true:=APg p (Ac_ h)
end Go.Ev.Pv
