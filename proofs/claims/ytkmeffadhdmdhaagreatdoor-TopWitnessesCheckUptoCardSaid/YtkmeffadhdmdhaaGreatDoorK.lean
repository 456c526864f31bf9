/-
  From the reading of an argument to the evaluator's data, and from its bulk to bounds.
-/
import Derived.OpenShut
import Derived.Lay
import Derived.Deep.DeepHandedRow
import Derived.Test.YtkmeffadhdmdhaaGreatDoorA4
set_option linter.all false
set_option maxRecDepth 100000
namespace Go.Ev
variable{H:Type}{W W':World}{laid:List (String×DataW Unit)}
variable [CB]
open Go.ChangeShapes Go.WideShapes
def Ty.plain:Ty->Bool
 | .unit=>true
 | .bool=>true
 | .int _=>true
 | .str=>true
 | .slice e=>e.plain
 | .agg t=>t.plain
 | .prod a b=>a.plain&&b.plain
 |_=>false
def PS(w:World):Im:=⟨λb _=>b<w.heap.size,λb=>b<w.heap.size⟩
structure Bulk(H:Type) where
 bk:DataW H->Nat
 all:List (DataW H)->Nat
 str:∀s,bk (.lit (.string s))=s.length+1
 pos:∀d,1<=bk d
 slice:∀a b,bk (.slice a b)=all a+all b+1
 agg:∀l,bk (.agg l)=all l+1
 nil:all []=0
 cons:∀d l,all (d::l)=bk d+all l
def Ty.bulk:(t:Ty)->t.T->Nat
 | .str,s=>(show List UInt8 from s).length+1
 | .slice e,xs=>((show List e.T from xs).map λx=>max 1 (e.bulk x)).sum+1
 | .agg t,x=>t.bulk x
 | .prod a b,x=>a.bulk x.1+b.bulk x.2
 |_,_=>0
theorem AfF{α b:Type}{f:α->Nat}{g:b->Nat}:∀(l:List α) (m:List b),l.length=m.length->(∀(i:Nat) (v:α) (d:b),l[i]?=some v->m[i]?=some d->f v<=g d)->(l.map f).sum<=(m.map g).sum:=by
 intro l;induction l with
 |nil=>simp
 |cons a l p=>
  intro m e h;cases m with
  |nil=>cases e
  |cons d m=>have s:=h 0 a d rfl rfl;have w:=p m (by simpa using e) λi v d j hd=>h (i+1) v d (by simpa using j) (by simpa using hd);grind
theorem AfG(B:Bulk H):∀l:List (DataW H),(l.map B.bk).sum=B.all l:=by
 intro l;induction l with
 |nil=>rw[B.nil];rfl
 |cons d l a=>rw[B.cons,<-a];simp
theorem bk_len(B:Bulk H):∀l:List (DataW H),l.length<=B.all l:=by
 intro l;induction l with
 |nil=>simp
 |cons d l a=>have:=B.pos d;rw[B.cons,BO];omega
theorem AfH(B:Bulk H):∀(l:List (DataW H)) (d:DataW H),d∈l->B.bk d<=B.all l:=by
 intro l;induction l with
 |nil=>simp
 |cons e l a=>intro d h;rw[B.cons];grind
theorem AfI{α:Type}{Q:Nat->α->Prop}:∀n:Nat,(∀i,i<n->∃v,Q i v)->∃l:List α,l.length=n/\∀i v,l[i]?=some v->Q i v:=by
 intro n;induction n with
 |zero=>simp
 |succ n b=>intro h;have⟨l,a,d⟩:=b λi hi=>h i oa;have⟨v,e⟩:=h n oa;refine⟨l++[v],by simp[a],λi x j=>?_⟩;grind
theorem A28{w:World}{a:Addr}{k n:Nat}{c:List Value}(z:0<n)(h:w.cells? 0 (a.add k) n=some c):
 (k=0->a.spot=none)/\Row w (PS w) a.block (a.off+k) n c:=by
 unfold World.cells? at h;rw[if_pos (AT _)]at h;have y:=mapM_some_length h;rw[List.length_range]at y;have x:∀j,j<n->w.cell? ((a.add k).add j)=c[j]?:=λj m=>mapM_some_get h j j (by simp[m]);have d:∀j,j<n->∃v,c[j]?=some v:=λj m=>⟨_,A1 oa⟩;have l:k=0->a.spot=none:=by
  intro hk;subst hk;have⟨v,p⟩:=d 0 z;have h0:=x 0 z;rw[p]at h0;simp only[Addr.add,if_true]at h0;unfold World.cell? at h0;split at h0
  .simp_all
  .cases h0
 refine⟨l,y,λj m=>?_⟩;have⟨v,p⟩:=d j m;have h0:=x j m;have e:(a.add k).add j=⟨a.block,a.off+k+j,none⟩:=by
  unfold Addr.add;by_cases hk:k=0
  .have:=l hk;subst hk;obtain⟨b,o,s⟩:=a;grind
  .grind
 rw[e]at h0;have B:a.off+k+j=a.off+k+j:=rfl;refine⟨?_,h0⟩;rw[p]at h0;unfold World.cell? at h0;split at h0
 .rename_i A;exact(B6.1 A).1
 .cases h0
section
variable{H:Type}{enc:TypeId×Value->H}{P:Program}{w:World}
def V5(enc:TypeId×Value->H)(P:Program)(w:World)(B:Bulk H)(K:Nat)(t:Ty):Prop:=
 ∀(id:Nat),Lay P t id->∀(n:Nat) (cs:List Value) (x:DataW H×List MemPlace),DataW.trod enc P w 0 (λ_=>true) true n id cs=some x->B.bk x.1<=K->∃v:t.T,Rel w (PS w) t v cs/\t.bulk v<=B.bk x.1
def AFf(enc:TypeId×Value->H)(P:Program)(w:World)(B:Bulk H)(K:Nat)(t:Ty):Prop:=
 ∀(fs:List Field) (off:Nat),(W5 P t).2 fs off=true->∀(n:Nat) (cs:List Value) (xs:List (DataW H×List MemPlace)),xs.length=fs.length->(∀(i:Nat) (f:Field),fs[i]?=some f->DataW.trod enc P w 0 (λ_=>true) true n f.type ((cs.drop f.offset).take (P.cellsOf f.type))=xs[i]?)->off+t.sz<=cs.length->
  B.all (xs.map (·.1))<=K->∃v:t.T,Rel w (PS w) t v ((cs.drop off).take t.sz)/\t.bulk v<=B.all (xs.map (·.1))
theorem rM{t:Ty}{id:Nat}(h:Lay P t id):P.cellsOf id=t.sz:=by have⟨i,v,a,b,_⟩:=KE h.inf;simp[Program.cellsOf,a,b]
theorem dF{B:Bulk H}{K:Nat}{t:Ty}(h:V5 enc P w B K t)(e:∀fs a,(W5 P t).2 fs a=(match fs with|[f]=>Nat.beq f.offset a&&(W5 P t).1 f.type|_=>false)):AFf enc P w B K t:=by
 intro fs a b n A z d p s j;rw[e]at b;split at b
 .rename_i f;rw[A7]at b;have D:f.offset=a:=A5 b.1;have m:Lay P t f.type:=b.2;obtain⟨x,rfl⟩:∃x,z=[x]:=List.length_eq_one_iff.1 d;have y:=p 0 f rfl;have l:B.all ([x].map (·.1))=B.bk x.1:=by show B.all [x.1]=_;rw[B.cons,B.nil];omega
  rw[l]at j ⊢;have⟨v,E,C⟩:=h f.type m n _ x y j;grind[rM]
 .cases b
theorem opn(B:Bulk H)(K:Nat)(hK:K<=281474976710656):∀t:Ty,t.plain=true->V5 enc P w B K t/\AFf enc P w B K t:=by
 intro t;induction t with
 |unit=>intro _;refine⟨λid A=>(by cases A),λfs L A n M xs J hm _ _=>?_⟩;exact⟨(),by rfl,AT _⟩
 |bool=>
  intro _;have D:V5 enc P w B K .bool:=by intro id A n M x I R;obtain⟨b,rfl,rfl⟩:=DataW.trod_bool A.bool I;exact⟨b,rfl,AT _⟩
  exact⟨D,dF D λ_ _=>rfl⟩
 |int k=>
  intro _;have D:V5 enc P w B K (.int k):=by intro id A n M x I R;obtain⟨m,rfl,rfl,hw⟩:=DataW.trod_int A.int I;simp only[Lit.wf,A7,B3]at hw;exact⟨m,⟨rfl,hw⟩,AT _⟩
  exact⟨D,dF D λ_ _=>rfl⟩
 |str=>
  intro _;have D:V5 enc P w B K .str:=by intro id A n M x I R;obtain⟨s,rfl,rfl,_⟩:=DataW.trod_string A.str I;rw[B.str]at R;exact⟨s.data.toList,⟨oh,oc⟩,by show s.data.toList.length+1<=_;rw[B.str];omega⟩
  exact⟨D,dF D λ_ _=>rfl⟩
 |slice e ih=>
  intro z;have y0:=(ih z).1;have D:V5 enc P w B K (.slice e):=by
   intro id A n M x I R;obtain⟨el,V,Z,E⟩:=A.slice;have hc:=rM Z;rcases DataW.trod_slice V I with⟨rfl,rfl⟩|⟨a,len,X,j,y3,n',rfl,rfl,rfl,_,y6,_,y5,he,hr,_⟩
   .refine⟨([]:List e.T),⟨none,0,rfl,⟨AD _,AT _⟩,λ_=>⟨rfl,rfl⟩,λad h=>om⟩,?_⟩;have:=B.pos (DataW.nil (H:=H));assumption
   .simp only[hc]at he hr;have⟨y7,hr⟩:=hr trivial;rw[B.slice]at R ⊢;have G:len<=K:=by have:=bk_len B (j.map (·.1));rw[AZ]at this;omega
    have O:∀i,i<len->∃c y,j[i]?=some y/\w.cells? 0 (a.add (i*e.sz)) e.sz=some c/\DataW.trod enc P w 0 (λ_=>true) true n' el c=some y:=by intro i hi;have Q:=he i hi;rw[A1 oa]at Q;have⟨c,C,T⟩:=B8.1 Q;exact⟨c,j[i],A1 oa,C,T⟩
    have x2:X≠0->a.spot=none:=by
     intro y2;by_cases h8:len=0
     .have Q:=hr 0 oa;rw[A1 oa]at Q;have⟨c,C,_⟩:=B8.1 Q;rw[h8]at C;exact(A28 E C).1 oh
     .obtain⟨c,y,_,C,_⟩:=O 0 oa;exact(A28 E C).1 oh
    obtain ⟨l,h9,x0⟩:=AfI (Q:=λi (v:e.T)=>∃ (c:List Value) (y:DataW H×List MemPlace),j[i]? = some y/\Row w (PS w) a.block (a.off+i*e.sz) e.sz c/\Rel w (PS w) e v c/\e.bulk v<=B.bk y.1) len (by
     intro i hi;have⟨c,y,hy,C,T⟩:=O i hi;have h7:B.bk y.1<=K:=by have:=AfH B (j.map (·.1)) y.1 (BP.2 ⟨y,AE hy,rfl⟩);omega
     have⟨v,N,W⟩:=y0 el Z n' c y T h7;exact⟨v,c,y,hy,(A28 E C).2,N,W⟩)
    refine⟨l,⟨some a,X,by rw[<-h9],⟨oc,oc⟩,(λh=>om),λad y4=>?_⟩,?_⟩
    .grind
    .show(l.map λx=>max 1 (e.bulk x)).sum+1<=_;have hs:(l.map λx=>max 1 (e.bulk x)).sum<=((j.map (·.1)).map B.bk).sum:=by refine AfF l (j.map (·.1)) oc λi v d N hd=>?_;have⟨c,y,hy,_,_,h6⟩:=x0 i v N;rw[AS,hy]at hd;cases hd;have:=B.pos y.1;exact Nat.max_le.2 ⟨this,h6⟩
     grind[AfG]
  exact⟨D,dF D λ_ _=>rfl⟩
 |agg p ih=>
  intro z;have y1:=(ih z).2;have D:V5 enc P w B K (.agg p):=by intro id A n M x I R;obtain⟨fs,V,x1,E⟩:=A.agg;have hc:=rM A;obtain⟨xs,n',rfl,rfl,G,J,hm⟩:=DataW.trod_struct V I;rw[B.agg]at R ⊢;have⟨v,N,W⟩:=y1 fs.toList 0 x1 n' M xs (by rw[J];simp) (λi f hf=>hm i f (by simpa using hf)) (by rw[G,hc];show 0+p.sz<=p.sz;omega) oa;refine⟨v,?_,by show p.bulk v<=_;omega⟩;show Rel w (PS w) p v M;rw[DA,CV (by rw[G,hc];exact AD _)]at N;exact N
  exact⟨D,dF D λ_ _=>rfl⟩
 |prod a b x4 x5=>
  intro z;have h4:a.plain=true/\b.plain=true:=CY.1 z;have ia:=(x4 h4.1).1;have ib:=(x5 h4.2).2;refine⟨λid A=>(by cases A),λfs L A n M xs J hm x3 h5=>?_⟩;cases fs with
  |nil=>cases A
  |cons f r=>
   have Y:(Nat.beq f.offset L&&((W5 P a).1 f.type&&((W5 P b).2 r (L+a.sz)&&Nat.blt 0 b.fields)))=true:=A;simp only[A7]at Y;obtain⟨D,Q,h3,_⟩:=Y;have ho:f.offset=L:=A5 D;have hL:Lay P a f.type:=Q;cases xs with
   |nil=>cases J
   |cons x ys=>
    have I:=hm 0 f rfl;have e1:B.all ((x::ys).map (·.1))=B.bk x.1+B.all (ys.map (·.1)):=by rw[CT,B.cons]
    rw[e1]at h5 ⊢;have U:(Ty.prod a b).sz=a.sz+b.sz:=rfl;rw[U]at x3 ⊢;have⟨v,N,W⟩:=ia f.type hL n _ x I oa;have⟨u,hu,y8⟩:=ib r (L+a.sz) h3 n M ys (by simpa using J) (λi g hg=>hm (i+1) g (by simpa using hg)) oa oa;rw[ho,rM hL]at N;refine⟨(v,u),⟨_,_,?_,N,hu⟩,by show a.bulk v+b.bulk u<=_;omega⟩;rw[<-D5,List.take_add]
 |arr n e ih=>intro z;cases z
 |ptr e ih=>intro z;cases z
 |map k v y9 z3=>intro z;cases z
 |inil=>intro z;cases z
 |ialt i t r z2 z1=>intro z;cases z
 |self=>intro z;cases z
 |opq=>intro z;cases z
 |hV a b _ _=>intro z;cases z
theorem AfJ(B:Bulk H){K:Nat}(m:K<=281474976710656){t:Ty}(y:t.plain=true){id:Nat}(e:Lay P (.agg t) id){r:Reach}{j:Nat}{v:Value}{d:DataW H}{ps:List MemPlace}
 (h:Value.okWide P w r j id v)(hd:DataW.Trod enc P w 0 (λ_=>true) true id v d ps)(p:B.bk d<=K):∃x:t.T,Z4 w (PS w) (.agg t) x v/\t.bulk x<=B.bk d:=by
 obtain⟨fs,a,_⟩:=e.agg;unfold Value.okWide at h;rw[a]at h;obtain⟨l,rfl,_⟩:=h;obtain⟨n,s⟩:=hd;have⟨x,z,b⟩:=(opn B K m (.agg t) y).1 id e n _ _ s p;exact⟨x,⟨l.toList,by rfl,z⟩,b⟩
end
structure Same(W W':World):Prop where
 os:W'.os=W.os
 tape:W'.tape=W.tape
 output:W'.output=W.output
 size:W.heap.size<=W'.heap.size
 heap:∀b,b<W.heap.size->W'.heap[b]?=W.heap[b]?
theorem Same.kept(h:Same W W')(may:MemPlace->Prop):W.keptBut W' may:=by refine⟨h.os,h.output,λi hi=>?_⟩;rw[h.heap i hi];grind
theorem Same.below(h:Same W W'):RowKit.Below W.heap.size W W':=⟨h.os,h.tape,h.output,h.size,h.heap⟩
theorem AfL{P:Program}{w':World}{I I':Im}{e:Ending}{l:Value}{vs:List Value}{bs':List Nat}(y:e=.returned l)(z:MK vs l)
 (h:Q5 (·∈([]:List Nat)) W I w' I')(m:R2 P w' I' [.val .bool] true (vs++[]) bs'):e=.returned (.bool true)/\Same W w':=by
 rw[CX]at m;obtain⟨v,rfl,⟨c,p,s⟩,_⟩:=m;have a:c=[v]:=p;have d:c=[.bool true]:=s;subst a;cases d;have j:l=.bool true:=z;subst j;exact⟨y,h.os,h.tape,h.output,h.size,λb x=>h.heap b x (λk=>by cases k)⟩
theorem AfM{enc:TypeId×Value->H}{P:Program}{f:Func}{s:ChangeSpec}{d fresh e:Bool}{args:Array Value}{v:Value}{ds m:List (DataW H)}{a pa pv:List MemPlace}
 (x:DataW.Whole enc P f.params.toList s.vars d W args.toList ds m a)
 (w:∀(b:Nat) (A:Nat->Bool) (hd:Bool),DataW.TrodAll enc P W' b A hd f.resultTypes.toList (v.resultList f.resultTypes.size) (s.fn H (ds++m)).results [])
 (j:DataW.TrodAll enc P W' 0 (λb=>decide (b<W.heap.size)) true f.params.toList args.toList (s.fn H (ds++m)).args pa)
 (l:DataW.TrodVars enc P W' (λb=>decide (b<W.heap.size)) s.vars (s.fn H (ds++m)).vars pv)
 (z:a=pa++pv)(hk:W.keptBut W' (·∈a)):
 s.post enc P f d fresh e false W args v W':=by
 refine⟨ds,m,a,[],pa,pv,x,w _ _ _,j,l,World.keptBut_mono (λp y=>⟨y,?_⟩) hk,λh=>om⟩;grind
theorem AfN{enc:TypeId×Value->H}{C:Checked}{os:Os}{f:FuncId}{fn:Func}{s:OpenSpec}{b:List PathCond}{a:Bool}(w0:World)(args:Array Value)(e:w0.os=os)
 (j:(w0.forCall (λ_ _=>0) ⟨#[],args,[]⟩).Shaped C.prog)
 (h:Input.okWideB C.prog (w0.forCall (λ_ _=>0) ⟨#[],args,[]⟩) f ⟨#[],args,[]⟩=true)
 (d:s.preRow enc C.prog fn b a laid (w0.forCall (λ_ _=>0) ⟨#[],args,[]⟩).memory args):
 ∃(w:World) (tape:Tape) (i:Input),w.os=os/\(w.forCall tape i).Shaped C.prog/\i.vars=[]/\Input.okWide C.prog (w.forCall tape i) .any w.heap.size f i/\
  s.preRow enc C.prog fn b a laid (w.forCall tape i).memory i.args/\({}:Assume).holds C.prog (lone (Frame.enter C.prog f i.args .normal) [] (w.forCall tape i)):=
 ⟨w0,λ_ _=>0,⟨#[],args,[]⟩,e,j,(Input.okWide_of_okWideB (base:=0) h).1,(Input.okWide_of_okWideB h).2,d,by grind[Assume.holds,Modest.zero]⟩
end Go.Ev
namespace Go.Ev.Pv
variable{α:Type}{K:Nat}
abbrev AfO:Ty:=.prod .str (.prod (.int .i64) (.prod (.slice (.agg (.prod (.int .i64) .str))) (.prod (.slice .str) (.slice .str))))
abbrev AfP:Ty:=.prod .str (.prod (.slice .str) (.prod .str (.prod (.int .i64) (.prod .bool (.prod .str (.slice (.agg AfO)))))))
abbrev AFg:Ty:=.prod (.int .i64) (.prod (.slice (.agg AfP)) (.slice (.int .i64)))
theorem AfQ{f:α->Nat}:∀{l:List α} {x:α},x∈l->f x<=(l.map f).sum:=by
 intro l;induction l with
 |nil=>intro x h;cases h
 |cons a l b=>
  intro x h;simp only[CT,List.sum_cons];rcases B1.1 h with rfl|h
  .omega
  .have:=b h;omega
theorem V6{f:α->Nat}:∀l:List α,l.length<=(l.map λx=>max 1 (f x)).sum:=by
 intro l;induction l with
 |nil=>simp
 |cons a l b=>simp only[CT,List.sum_cons,BO];have:1<=max 1 (f a):=Nat.le_max_left _ _;omega
theorem V7{f:α->Nat}{l:List α}{x:α}(h:x∈l):f x<=(l.map λx=>max 1 (f x)).sum:=
 AM (Nat.le_max_right 1 (f x)) (AfQ (f:=λx=>max 1 (f x)) h)
def rN(v:Int×DO):Nat:=0+(v.2.length+1)
def bS(s:DO):Nat:=s.length+1
def dG(a:Af):Nat:=(a.1.length+1)+(0+(((a.2.2.1.map λx=>max 1 (rN x)).sum+1)+(((a.2.2.2.1.map λx=>max 1 (bS x)).sum+1)+((a.2.2.2.2.map λx=>max 1 (bS x)).sum+1))))
def XZ(a:FG):Nat:=(a.1.length+1)+(((a.2.1.map λx=>max 1 (bS x)).sum+1)+((a.2.2.1.length+1)+(0+(0+((a.2.2.2.2.2.1.length+1)+((a.2.2.2.2.2.2.map λx=>max 1 (dG x)).sum+1))))))
def rP(b:Bs):Nat:=0+(((b.2.1.map λx=>max 1 (XZ x)).sum+1)+((b.2.2.map λ_=>max 1 0).sum+1))
theorem AfR{a:Af}(e:K<=1048576)(h:dG a<=K):P9 a:=by
 unfold dG at h;have l:=V6 (f:=rN) a.2.2.1;have j:=V6 (f:=bS) a.2.2.2.1;have m:=V6 (f:=bS) a.2.2.2.2;refine⟨oa,oa,λv d=>?_,oa,λs b=>?_,oa,λs b=>?_⟩
 .have:=V7 (f:=rN) d;unfold rN at this h;omega
 .have:=V7 (f:=bS) b;unfold bS at this h;omega
 .have:=V7 (f:=bS) b;unfold bS at this h;omega
theorem AfS{a:FG}(b:K<=1048576)(h:XZ a<=K):LI a:=by
 unfold XZ at h;have l:=V6 (f:=bS) a.2.1;have j:=V6 (f:=dG) a.2.2.2.2.2.2;refine⟨oa,oa,λs d=>?_,oa,oa,oa,λx e=>?_⟩
 .have:=V7 (f:=bS) d;unfold bS at this h;omega
 .have:=V7 (f:=dG) e;exact AfR (K:=K) b oa
theorem AfT{l:List FG}(b:K<=1048576)(h:(l.map λx=>max 1 (XZ x)).sum<=K):l.length<=1048576/\∀a∈l,LI a:=by have e:=V6 (f:=XZ) l;refine⟨oa,λa d=>?_⟩;have:=V7 (f:=XZ) d;exact AfS (K:=K) b oa
theorem AfU{b:Bs}(a:K<=1048576)(h:Ty.bulk AFg b<=K):BB b/\b.2.1.length<=1048576:=by have h:rP b<=K:=h;unfold rP at h;have:=AfT (l:=b.2.1) a oa;exact⟨this.2,this.1⟩
abbrev A29:Ty:=.prod .str .str
abbrev AfV:Ty:=.prod .str (.prod .str (.prod .str (.prod .str (.prod (.slice (.agg A29)) .str))))
abbrev AfW:Ty:=.prod .str (.prod (.agg AfV) (.prod (.slice (.agg A29)) (.prod .str (.slice .str))))
abbrev AfX:Ty:=.prod .str (.prod .str (.int .i64))
abbrev AfY:Ty:=.prod .str (.prod .str (.prod .str (.prod (.slice (.agg AfW)) (.slice (.agg AfX)))))
abbrev AfZ:Ty:=.prod .str (.slice .str)
abbrev Af_:Ty:=.prod .str (.slice (.agg A29))
abbrev Ag0:Ty:=.prod (.int .i64) (.prod .str (.prod .str .str))
abbrev Ag1:Ty:=.prod .str (.prod .str (.prod (.slice (.agg Ag0)) (.slice .str)))
abbrev Ag2:Ty:=.prod (.slice (.agg AfZ)) (.prod (.slice (.agg Af_)) (.prod (.slice (.agg Ag1)) (.slice .str)))
abbrev Ag3:Ty:=.prod .str (.prod .str (.prod .str (.prod (.int .i64) (.prod (.int .i64) (.prod (.int .i64) (.int .i64))))))
abbrev tProd:Ty:=.prod (.agg AfY) (.prod (.int .i64) (.prod (.agg AFg) (.prod (.slice (.agg Ag2)) (.prod (.int .i64) (.prod (.slice .str) (.slice (.agg Ag3)))))))
theorem LQ{f:α->Nat}{l:List α}(h:(l.map λx=>max 1 (f x)).sum<=K):l.length<=K/\∀x∈l,f x<=K:=
 ⟨AM (V6 l) h,λ_ a=>AM (V7 a) h⟩
def TC(x:DO×DO):Nat:=(x.1.length+1)+(x.2.length+1)
def rQ(c:F9):Nat:=(c.1.length+1)+(((c.2.1.1.length+1)+((c.2.1.2.1.length+1)+((c.2.1.2.2.1.length+1)+((c.2.1.2.2.2.1.length+1)+(((c.2.1.2.2.2.2.1.map λx=>max 1 (TC x)).sum+1)+(c.2.1.2.2.2.2.2.length+1))))))+
 (((c.2.2.1.map λx=>max 1 (TC x)).sum+1)+((c.2.2.2.1.length+1)+((c.2.2.2.2.map λx=>max 1 (bS x)).sum+1))))
def bEd(e:NQ):Nat:=(e.1.length+1)+((e.2.1.length+1)+0)
def bBl(b:IW):Nat:=(b.1.length+1)+((b.2.1.length+1)+((b.2.2.1.length+1)+(((b.2.2.2.1.map λx=>max 1 (rQ x)).sum+1)+((b.2.2.2.2.map λx=>max 1 (bEd x)).sum+1))))
def bIf(x:XO):Nat:=(x.1.length+1)+((x.2.map λx=>max 1 (bS x)).sum+1)
def bTy(x:SZ):Nat:=(x.1.length+1)+((x.2.map λx=>max 1 (TC x)).sum+1)
def bCl(c:IQ):Nat:=0+((c.2.1.length+1)+((c.2.2.1.length+1)+(c.2.2.2.length+1)))
def bFn(x:J4):Nat:=(x.1.length+1)+((x.2.1.length+1)+(((x.2.2.1.map λx=>max 1 (bCl x)).sum+1)+((x.2.2.2.map λx=>max 1 (bS x)).sum+1)))
def rR(g:I7):Nat:=((g.1.map λx=>max 1 (bIf x)).sum+1)+(((g.2.1.map λx=>max 1 (bTy x)).sum+1)+(((g.2.2.1.map λx=>max 1 (bFn x)).sum+1)+((g.2.2.2.map λx=>max 1 (bS x)).sum+1)))
def bSt(x:GU):Nat:=(x.1.length+1)+((x.2.1.length+1)+((x.2.2.1.length+1)+(0+(0+(0+0)))))
def AFh(p:GG):Nat:=bBl p.1+(0+(rP p.2.2.1+(((p.2.2.2.1.map λx=>max 1 (rR x)).sum+1)+(0+(((p.2.2.2.2.2.1.map λx=>max 1 (bS x)).sum+1)+((p.2.2.2.2.2.2.map λx=>max 1 (bSt x)).sum+1))))))
theorem Ag4{g:I7}(h:rR g<=1048576):GB g:=by
 unfold rR at h;have d:=LQ (f:=bIf) (l:=g.1) (K:=1048576) oa;have e:=LQ (f:=bTy) (l:=g.2.1) (K:=1048576) oa;have j:=LQ (f:=bFn) (l:=g.2.2.1) (K:=1048576) oa;have l:=LQ (f:=bS) (l:=g.2.2.2) (K:=1048576) oa;refine⟨d.1,λx b=>?_,e.1,λx b=>?_,j.1,λx b=>?_,l.1⟩
 .have k:=d.2 x b;unfold bIf at k;have k1:=LQ (f:=bS) (l:=x.2) (K:=1048576) oa;exact⟨oa,k1.1,λs a=>by have:=k1.2 s a;unfold bS at this;omega⟩
 .have k:=e.2 x b;unfold bTy at k;have k1:=LQ (f:=TC) (l:=x.2) (K:=1048576) oa;exact⟨oa,k1.1,λs a=>by have:=k1.2 s a;unfold TC at this;omega⟩
 .have k:=j.2 x b;unfold bFn at k;have k1:=LQ (f:=bCl) (l:=x.2.2.1) (K:=1048576) oa;have m:=LQ (f:=bS) (l:=x.2.2.2) (K:=1048576) oa;exact⟨oa,oa,k1.1,m.1,λs a=>by have:=k1.2 s a;unfold bCl at this;omega⟩
theorem Ag5{p:GG}(h:AFh p<=1048576):PrB p:=by
 unfold AFh at h;have y:bBl p.1<=1048576:=oa;unfold bBl at y;have l:=LQ (f:=rQ) (l:=p.1.2.2.2.1) (K:=1048576) oa;have z:=LQ (f:=rR) (l:=p.2.2.2.1) (K:=1048576) oa;have m:=LQ (f:=bS) (l:=p.2.2.2.2.2.1) (K:=1048576) oa;have w:=LQ (f:=bSt) (l:=p.2.2.2.2.2.2) (K:=1048576) oa;have d:BB p.2.2.1:=(AfU (b:=p.2.2.1) (K:=1048576) (AD _) (by show rP p.2.2.1<=_;omega)).1;refine⟨⟨oa,oa,λc a=>?_⟩,λc a=>?_,d,λg e=>Ag4 (z.2 g e),m.1,λs b=>?_,w.1,λs b=>?_⟩
 .have k:=l.2 c a;unfold rQ at k;have k1:=LQ (f:=TC) (l:=c.2.1.2.2.2.2.1) (K:=1048576) oa;have A:=LQ (f:=TC) (l:=c.2.2.1) (K:=1048576) oa;have B:=LQ (f:=bS) (l:=c.2.2.2.2) (K:=1048576) oa;exact⟨oa,k1.1,λx j=>(by have:=A.2 x j;unfold TC at this;omega),oa,λx j=>by have:=B.2 x j;unfold bS at this;omega⟩
 .have k:=l.2 c a;unfold rQ at k;omega
 .have:=m.2 s b;unfold bS at this;omega
 .have:=w.2 s b;unfold bSt at this;omega
theorem law27u(p:GG)(h:Ty.bulk tProd p<=1048576):oL p=some true:=AQp p (Ag5 h)
end Go.Ev.Pv
