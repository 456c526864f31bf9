/-
  From the reading of an argument to the evaluator's data, and from its bulk to bounds.
-/
import Derived.Test.YtloinlpkjpmnbaaGreatDoorE4
import Derived.Carry
import Derived.OpenShut
import Derived.ChangeSame
import Derived.Lay
import Derived.Deep.DeepHandedRow
import Derived.Test.YtloinlpkjpmnbaaGreatDoorA1
import Derived.Test.YtloinlpkjpmnbaaGreatDoorA2
import Derived.Test.YtloinlpkjpmnbaaGreatDoorA3
set_option linter.unusedVariables false
set_option linter.unusedSimpArgs false
set_option linter.unusedSectionVars false
set_option maxRecDepth 100000
namespace Go.Ev
variable [Pins]
open Go.ChangeShapes Go.WideShapes
def Ty.plain:Ty->Bool
 | .unit=>true
 | .bool=>true
 | .int _=>true
 | .str=>true
 | .slice e=>e.plain
 | .agg t=>t.plain
 | .prod a b=>a.plain&&b.plain
 |_=>false
def OR(w:World):Im:=⟨λb _=>b<w.heap.size,λb=>b<w.heap.size⟩
structure Bulk(H:Type) where
 bk:DataW H->Nat
 all:List (DataW H)->Nat
 str:∀s,bk (.lit (.string s))=s.length+1
 pos:∀d,1<=bk d
 slice:∀a b,bk (.slice a b)=all a+all b+1
 agg:∀l,bk (.agg l)=all l+1
 nil:all []=0
 cons:∀d l,all (d::l)=bk d+all l
def Ty.bulk:(t:Ty)->t.T->Nat
 | .str,s=>(show List UInt8 from s).length+1
 | .slice e,xs=>((show List e.T from xs).map λx=>max 1 (e.bulk x)).sum+1
 | .agg t,x=>t.bulk x
 | .prod a b,x=>a.bulk x.1+b.bulk x.2
 |_,_=>0
theorem A_P{α b:Type}{f:α->Nat}{g:b->Nat}:∀(l:List α) (m:List b),l.length=m.length->(∀(i:Nat) (v:α) (d:b),l[i]?=some v->m[i]?=some d->f v<=g d)->(l.map f).sum<=(m.map g).sum:=by
 intro l;induction l with
 |nil=>simp
 |cons a l o=>
  intro m e h;cases m with
  |nil=>cases e
  |cons d m=>
   have q:=h 0 a d rfl rfl;have r:=o m (by simpa using e) λi v d k j=>h (i+1) v d (by simpa using k) (by simpa using j);grind
theorem A_Q{H:Type}(B:Bulk H):∀l:List (DataW H),(l.map B.bk).sum=B.all l:=by
 intro l;induction l with
 |nil=>rw[B.nil];rfl
 |cons d l i=>rw[B.cons,<-i];simp
theorem bk_len{H:Type}(B:Bulk H):∀l:List (DataW H),l.length<=B.all l:=by
 intro l;induction l with
 |nil=>simp
 |cons d l i=>have:=B.pos d;rw[B.cons,AX];omega
theorem A_R{H:Type}(B:Bulk H):∀(l:List (DataW H)) (d:DataW H),d∈l->B.bk d<=B.all l:=by
 intro l;induction l with
 |nil=>simp
 |cons e l i=>
  intro d h;rw[B.cons];grind
theorem A_S{α:Type}{Q:Nat->α->Prop}:∀n:Nat,(∀i,i<n->∃v,Q i v)->∃l:List α,l.length=n/\∀i v,l[i]?=some v->Q i v:=by
 intro n;induction n with
 |zero=>simp
 |succ n b=>
  intro h;obtain⟨l,a,d⟩:=b λi e=>h i oa;obtain⟨v,j⟩:=h n oa;refine⟨l++[v],by simp[a],λi x k=>?_⟩;grind
theorem A19{w:World}{a:Addr}{k n:Nat}{c:List Value}(y:0<n)(h:w.cells? 0 (a.add k) n=some c):
 (k=0->a.spot=none)/\Row w (OR w) a.block (a.off+k) n c:=by
 unfold World.cells? at h;rw[if_pos (BJ _)]at h;have x:=mapM_some_length h;rw[D7]at x;have t:∀j,j<n->w.cell? ((a.add k).add j)=c[j]?:=λj q=>mapM_some_get h j j (by simp[q]);have i:∀j,j<n->∃v,c[j]?=some v:=λj q=>⟨_,A1 oa⟩
 have l:k=0->a.spot=none:=by
  intro hk;subst hk;obtain⟨v,r⟩:=i 0 y;have d:=t 0 y;rw[r]at d;simp only[Addr.add,if_true]at d;unfold World.cell? at d;split at d
  .simp_all
  .cases d
 refine⟨l,x,λj q=>?_⟩;obtain⟨v,r⟩:=i j q;have d:=t j q
 have e:(a.add k).add j=⟨a.block,a.off+k+j,none⟩:=by
  unfold Addr.add;by_cases hk:k=0
  .have:=l hk;subst hk;obtain⟨b,o,s⟩:=a;grind
  .grind
 rw[e]at d;have A:a.off+k+j=a.off+k+j:=rfl;refine⟨?_,d⟩;rw[r]at d;unfold World.cell? at d;split at d
 .rename_i z;exact(BO.1 z).1
 .cases d
section
variable{H:Type}{enc:TypeId×Value->H}{P:Program}{w:World}
def TG(enc:TypeId×Value->H)(P:Program)(w:World)(B:Bulk H)(K:Nat)(t:Ty):Prop:=
 ∀(id:Nat),Lay P t id->∀(n:Nat) (cs:List Value) (x:DataW H×List MemPlace),DataW.trod enc P w 0 (λ_=>true) true n id cs=some x->B.bk x.1<=K->∃v:t.T,Rel w (OR w) t v cs/\t.bulk v<=B.bk x.1
def AD6(enc:TypeId×Value->H)(P:Program)(w:World)(B:Bulk H)(K:Nat)(t:Ty):Prop:=
 ∀(fs:List Field) (off:Nat),(layB P t).2 fs off=true->∀(n:Nat) (cs:List Value) (xs:List (DataW H×List MemPlace)),xs.length=fs.length->(∀(i:Nat) (f:Field),fs[i]?=some f->DataW.trod enc P w 0 (λ_=>true) true n f.type ((cs.drop f.offset).take (P.cellsOf f.type))=xs[i]?)->off+t.sz<=cs.length->
  B.all (xs.map (·.1))<=K->∃v:t.T,Rel w (OR w) t v ((cs.drop off).take t.sz)/\t.bulk v<=B.all (xs.map (·.1))
theorem nH{t:Ty}{id:Nat}(h:Lay P t id):P.cellsOf id=t.sz:=by
 obtain⟨i,v,a,b,_⟩:=JP h.inf;simp[Program.cellsOf,a,b]
theorem bZ{B:Bulk H}{K:Nat}{t:Ty}(h:TG enc P w B K t)(e:∀fs o,(layB P t).2 fs o=(match fs with|[f]=>Nat.beq f.offset o&&(layB P t).1 f.type|_=>false)):AD6 enc P w B K t:=by
 intro fs o a n s r b k l d;rw[e]at a;split at a
 .rename_i f;rw[A6]at a;have z:f.offset=o:=A3 a.1;have j:Lay P t f.type:=a.2;obtain⟨x,rfl⟩:∃x,r=[x]:=List.length_eq_one_iff.1 b;have q:=k 0 f rfl
  have i:B.all ([x].map (·.1))=B.bk x.1:=by
   show B.all [x.1]=_;rw[B.cons,B.nil];omega
  rw[i]at d ⊢;obtain⟨v,A,y⟩:=h f.type j n _ x q d;grind[nH]
 .cases a
theorem opn(B:Bulk H)(K:Nat)(hK:K<=281474976710656):∀t:Ty,t.plain=true->TG enc P w B K t/\AD6 enc P w B K t:=by
 intro t;induction t with
 |unit=>
  intro _;refine⟨λid q=>(by cases q),λfs I q n J xs G Y _ _=>?_⟩;exact⟨(),by rfl,BJ _⟩
 |bool=>
  intro _
  have A:TG enc P w B K .bool:=by
   intro id q n J x E O;obtain⟨b,rfl,rfl⟩:=DataW.trod_bool q.bool E;exact⟨b,rfl,BJ _⟩
  exact⟨A,bZ A λ_ _=>rfl⟩
 |int k=>
  intro _
  have A:TG enc P w B K (.int k):=by
   intro id q n J x E O;obtain⟨m,rfl,rfl,hw⟩:=DataW.trod_int q.int E;simp only[Lit.wf,A6,AW]at hw;exact⟨m,⟨rfl,hw⟩,BJ _⟩
  exact⟨A,bZ A λ_ _=>rfl⟩
 |str=>
  intro _
  have A:TG enc P w B K .str:=by
   intro id q n J x E O;obtain⟨s,rfl,rfl,_⟩:=DataW.trod_string q.str E;rw[B.str]at O;exact⟨s.data.toList,⟨oe,oc⟩,by show s.data.toList.length+1<=_;rw[B.str];omega⟩
  exact⟨A,bZ A λ_ _=>rfl⟩
 |slice e ih=>
  intro o;have y1:=(ih o).1
  have A:TG enc P w B K (.slice e):=by
   intro id q n J x E O;obtain⟨el,T,X,C⟩:=q.slice;have hc:=nH X;rcases DataW.trod_slice T E with⟨rfl,rfl⟩|⟨a,len,V,j,y4,n',rfl,rfl,rfl,_,y7,_,y6,he,hr,_⟩
   .refine⟨([]:List e.T),⟨none,0,rfl,⟨AH _,BJ _⟩,λ_=>⟨rfl,rfl⟩,λad h=>ol⟩,?_⟩;have:=B.pos (DataW.nil (H:=H));assumption
   .simp only[hc]at he hr;obtain⟨y8,hr⟩:=hr trivial;rw[B.slice]at O ⊢
    have D:len<=K:=by
     have:=bk_len B (j.map (·.1));rw[AN]at this;omega
    have M:∀i,i<len->∃c y,j[i]?=some y/\w.cells? 0 (a.add (i*e.sz)) e.sz=some c/\DataW.trod enc P w 0 (λ_=>true) true n' el c=some y:=by
     intro i hi;have N:=he i hi;rw[A1 oa]at N;obtain⟨c,z,Q⟩:=A_.1 N;exact⟨c,j[i],A1 oa,z,Q⟩
    have x0:V≠0->a.spot=none:=by
     intro y3;by_cases h6:len=0
     .have N:=hr 0 oa;rw[A1 oa]at N;obtain⟨c,z,_⟩:=A_.1 N;rw[h6]at z;exact(A19 C z).1 oe
     .obtain⟨c,y,_,z,_⟩:=M 0 oa;exact(A19 C z).1 oe
    obtain ⟨l,h7,h8⟩:=A_S (Q:=λi (v:e.T)=>∃ (c:List Value) (y:DataW H×List MemPlace),j[i]? = some y/\Row w (OR w) a.block (a.off+i*e.sz) e.sz c/\Rel w (OR w) e v c/\e.bulk v<=B.bk y.1) len (by
     intro i hi;obtain⟨c,y,hy,z,Q⟩:=M i hi
     have h5:B.bk y.1<=K:=by
      have:=A_R B (j.map (·.1)) y.1 (B1.2 ⟨y,AI hy,rfl⟩);omega
     obtain⟨v,L,U⟩:=y1 el X n' c y Q h5;exact⟨v,c,y,hy,(A19 C z).2,L,U⟩)
    refine⟨l,⟨some a,V,by rw[<-h7],⟨oc,oc⟩,(λh=>ol),λad y5=>?_⟩,?_⟩
    .grind
    .show(l.map λx=>max 1 (e.bulk x)).sum+1<=_
     have hs:(l.map λx=>max 1 (e.bulk x)).sum<=((j.map (·.1)).map B.bk).sum:=by
      refine A_P l (j.map (·.1)) oc λi v d L hd=>?_;obtain⟨c,y,hy,_,_,h4⟩:=h8 i v L;rw[AV,hy]at hd;cases hd;have:=B.pos y.1;exact Nat.max_le.2 ⟨this,h4⟩
     grind[A_Q]
  exact⟨A,bZ A λ_ _=>rfl⟩
 |agg p ih=>
  intro o;have y2:=(ih o).2
  have A:TG enc P w B K (.agg p):=by
   intro id q n J x E O;obtain⟨fs,T,h9,C⟩:=q.agg;have hc:=nH q;obtain⟨xs,n',rfl,rfl,D,G,Y⟩:=DataW.trod_struct T E;rw[B.agg]at O ⊢;obtain⟨v,L,U⟩:=y2 fs.toList 0 h9 n' J xs (by rw[G];simp) (λi f hf=>Y i f (by simpa using hf)) (by rw[D,hc];show 0+p.sz<=p.sz;omega) oa;refine⟨v,?_,by show p.bulk v<=_;omega⟩;show Rel w (OR w) p v J;rw[DA,CI (by rw[D,hc];exact AH _)]at L;exact L
  exact⟨A,bZ A λ_ _=>rfl⟩
 |prod a b x2 y0=>
  intro o;have Z:a.plain=true/\b.plain=true:=BA.1 o;have ia:=(x2 Z.1).1;have ib:=(y0 Z.2).2;refine⟨λid q=>(by cases q),λfs I q n J xs G Y x1 h0=>?_⟩;cases fs with
  |nil=>cases q
  |cons f r=>
   have W:(Nat.beq f.offset I&&((layB P a).1 f.type&&((layB P b).2 r (I+a.sz)&&Nat.blt 0 b.fields)))=true:=q;simp only[A6]at W;obtain⟨A,N,h3,_⟩:=W;have ho:f.offset=I:=A3 A;have hL:Lay P a f.type:=N;cases xs with
   |nil=>cases G
   |cons x ys=>
    have E:=Y 0 f rfl;have e1:B.all ((x::ys).map (·.1))=B.bk x.1+B.all (ys.map (·.1)):=by rw[DG,B.cons]
    rw[e1]at h0 ⊢;have R:(Ty.prod a b).sz=a.sz+b.sz:=rfl;rw[R]at x1 ⊢;obtain⟨v,L,U⟩:=ia f.type hL n _ x E oa;obtain⟨u,hu,y9⟩:=ib r (I+a.sz) h3 n J ys (by simpa using G) (λi g hg=>Y (i+1) g (by simpa using hg)) oa oa;rw[ho,nH hL]at L;refine⟨(v,u),⟨_,_,?_,L,hu⟩,by show a.bulk v+b.bulk u<=_;omega⟩;rw[<-DK,List.take_add]
 |arr n e ih=>intro o;cases o
 |ptr e ih=>intro o;cases o
 |map k v z0 z3=>intro o;cases o
 |inil=>intro o;cases o
 |ialt i t r z2 z1=>intro o;cases o
 |self=>intro o;cases o
 |opq=>intro o;cases o
 |fnc a b _ _=>intro o;cases o
theorem A_T(B:Bulk H){K:Nat}(k:K<=281474976710656){t:Ty}(s:t.plain=true){id:Nat}(e:Lay P (.agg t) id){r:Reach}{i:Nat}{v:Value}{d:DataW H}{ps:List MemPlace}
 (h:Value.okWide P w r i id v)(o:DataW.Trod enc P w 0 (λ_=>true) true id v d ps)(l:B.bk d<=K):∃x:t.T,VRel w (OR w) (.agg t) x v/\t.bulk x<=B.bk d:=by
 obtain⟨fs,a,_⟩:=e.agg;unfold Value.okWide at h;rw[a]at h;obtain⟨j,rfl,_⟩:=h;obtain⟨n,q⟩:=o;obtain⟨x,y,b⟩:=(opn B K k (.agg t) s).1 id e n _ _ q l;exact⟨x,⟨j.toList,by rfl,y⟩,b⟩
end
structure Same(W W':World):Prop where
 os:W'.os=W.os
 tape:W'.tape=W.tape
 output:W'.output=W.output
 size:W.heap.size<=W'.heap.size
 heap:∀b,b<W.heap.size->W'.heap[b]?=W.heap[b]?
theorem Same.kept{W W':World}(h:Same W W')(may:MemPlace->Prop):W.keptBut W' may:=by
 refine⟨h.os,h.output,λi a=>?_⟩;rw[h.heap i a];grind
theorem Same.below{W W':World}(h:Same W W'):RowKit.Below W.heap.size W W':=⟨h.os,h.tape,h.output,h.size,h.heap⟩
theorem A_U{P:Program}{W w':World}{I I':Im}{e:Ending}{r:Value}{vs:List Value}{bs':List Nat}(s:e=.returned r)(t:KN vs r)
 (h:After (·∈([]:List Nat)) W I w' I')(j:ShL P w' I' [.val .bool] true (vs++[]) bs'):e=.returned (.bool true)/\Same W w':=by
 rw[CG]at j;obtain⟨v,rfl,⟨c,l,o⟩,_⟩:=j;have a:c=[v]:=l;have d:c=[.bool true]:=o;subst a;cases d;have i:r=.bool true:=t;subst i;exact⟨s,h.os,h.tape,h.output,h.size,λb q=>h.heap b q (λk=>by cases k)⟩
theorem A_V{H:Type}{enc:TypeId×Value->H}{P:Program}{f:Func}{s:ChangeSpec}{d fresh i:Bool}{W W':World}{e:Array Value}{v:Value}{ds l:List (DataW H)}{a pa pv:List MemPlace}
 (q:DataW.Whole enc P f.params.toList s.vars d W e.toList ds l a)
 (o:∀(b:Nat) (sp:Nat->Bool) (r:Bool),DataW.TrodAll enc P W' b sp r f.resultTypes.toList (v.resultList f.resultTypes.size) (s.fn H (ds++l)).results [])
 (j:DataW.TrodAll enc P W' 0 (λb=>decide (b<W.heap.size)) true f.params.toList e.toList (s.fn H (ds++l)).args pa)
 (k:DataW.TrodVars enc P W' (λb=>decide (b<W.heap.size)) s.vars (s.fn H (ds++l)).vars pv)
 (w:a=pa++pv)(hk:W.keptBut W' (·∈a)):
 s.post enc P f d fresh i false W e v W':=by
 refine⟨ds,l,a,[],pa,pv,q,o _ _ _,j,k,World.keptBut_mono (λp t=>⟨t,?_⟩) hk,λh=>ol⟩;grind
theorem A_W{H:Type}{enc:TypeId×Value->H}{C:Checked}{os:Os}{f:FuncId}{fn:Func}{s:OpenSpec}{d:List PathCond}{b:Bool}{l:List (String×DataW Unit)}(w0:World)(a:Array Value)(j:w0.os=os)
 (k:(w0.forCall (λ_ _=>0) ⟨#[],a,[]⟩).Shaped C.prog)
 (h:Input.okWideB C.prog (w0.forCall (λ_ _=>0) ⟨#[],a,[]⟩) f ⟨#[],a,[]⟩=true)
 (e:s.preRow enc C.prog fn d b l (w0.forCall (λ_ _=>0) ⟨#[],a,[]⟩).memory a):
 ∃(w:World) (tape:Tape) (i:Input),w.os=os/\(w.forCall tape i).Shaped C.prog/\i.vars=[]/\Input.okWide C.prog (w.forCall tape i) .any w.heap.size f i/\
  s.preRow enc C.prog fn d b l (w.forCall tape i).memory i.args/\({}:Assume).holds C.prog (lone (Frame.enter C.prog f i.args .normal) [] (w.forCall tape i)):=
 ⟨w0,λ_ _=>0,⟨#[],a,[]⟩,j,k,(Input.okWide_of_okWideB (base:=0) h).1,(Input.okWide_of_okWideB h).2,e,by
  grind[Assume.holds,Modest.zero]⟩
open Go.ChangeShapes Go.WideShapes
section
variable{H:Type}{enc:TypeId×Value->H}{P:Program}{w:World}
end
end Go.Ev
namespace Go.Ev.Pv
abbrev A_X:Ty:=.prod .str (.prod (.int .i64) (.prod (.slice (.agg (.prod (.int .i64) .str))) (.prod (.slice .str) (.slice .str))))
abbrev A_Y:Ty:=.prod .str (.prod (.slice .str) (.prod .str (.prod (.int .i64) (.prod .bool (.prod .str (.slice (.agg A_X)))))))
abbrev AD7:Ty:=.prod (.int .i64) (.prod (.slice (.agg A_Y)) (.slice (.int .i64)))
theorem A_Z{α:Type}{f:α->Nat}:∀{l:List α} {x:α},x∈l->f x<=(l.map f).sum:=by
 intro l;induction l with
 |nil=>intro x h;cases h
 |cons a l i=>
  intro x h;simp only[DG,List.sum_cons];rcases B2.1 h with rfl|h
  .omega
  .have:=i h;omega
theorem MU{α:Type}{f:α->Nat}:∀l:List α,l.length<=(l.map λx=>max 1 (f x)).sum:=by
 intro l;induction l with
 |nil=>simp
 |cons a l i=>
  simp only[DG,List.sum_cons,AX];have:1<=max 1 (f a):=Nat.le_max_left _ _;omega
theorem MV{α:Type}{f:α->Nat}{l:List α}{x:α}(h:x∈l):f x<=(l.map λx=>max 1 (f x)).sum:=
 AT (Nat.le_max_right 1 (f x)) (A_Z (f:=λx=>max 1 (f x)) h)
def nI(v:Int×DX):Nat:=0+(v.2.length+1)
def bS(s:DX):Nat:=s.length+1
def b_(a:Af):Nat:=(a.1.length+1)+(0+(((a.2.2.1.map λx=>max 1 (nI x)).sum+1)+(((a.2.2.2.1.map λx=>max 1 (bS x)).sum+1)+((a.2.2.2.2.map λx=>max 1 (bS x)).sum+1))))
def WM(a:G5):Nat:=(a.1.length+1)+(((a.2.1.map λx=>max 1 (bS x)).sum+1)+((a.2.2.1.length+1)+(0+(0+((a.2.2.2.2.2.1.length+1)+((a.2.2.2.2.2.2.map λx=>max 1 (b_ x)).sum+1))))))
def nJ(b:Bs):Nat:=0+(((b.2.1.map λx=>max 1 (WM x)).sum+1)+((b.2.2.map λ_=>max 1 0).sum+1))
theorem A__{a:Af}{K:Nat}(e:K<=1048576)(h:b_ a<=K):OK a:=by
 unfold b_ at h;have l:=MU (f:=nI) a.2.2.1;have i:=MU (f:=bS) a.2.2.2.1;have j:=MU (f:=bS) a.2.2.2.2;refine⟨oa,oa,λv d=>?_,oa,λs b=>?_,oa,λs b=>?_⟩
 .have:=MV (f:=nI) d;unfold nI at this h;omega
 .have:=MV (f:=bS) b;unfold bS at this h;omega
 .have:=MV (f:=bS) b;unfold bS at this h;omega
theorem A_a{a:G5}{K:Nat}(b:K<=1048576)(h:WM a<=K):JM a:=by
 unfold WM at h;have l:=MU (f:=bS) a.2.1;have i:=MU (f:=b_) a.2.2.2.2.2.2;refine⟨oa,oa,λs d=>?_,oa,oa,oa,λx e=>?_⟩
 .have:=MV (f:=bS) d;unfold bS at this h;omega
 .have:=MV (f:=b_) e;exact A__ (K:=K) b oa
theorem A_b{l:List G5}{K:Nat}(b:K<=1048576)(h:(l.map λx=>max 1 (WM x)).sum<=K):l.length<=1048576/\∀a∈l,JM a:=by
 have e:=MU (f:=WM) l;refine⟨oa,λa d=>?_⟩;have:=MV (f:=WM) d;exact A_a (K:=K) b oa
theorem A_c{b:Bs}{K:Nat}(a:K<=1048576)(h:Ty.bulk AD7 b<=K):BB b/\b.2.1.length<=1048576:=by
 have h:nJ b<=K:=h;unfold nJ at h;have:=A_b (l:=b.2.1) a oa;exact⟨this.2,this.1⟩
abbrev AD8:Ty:=.prod .bool (.prod .bool .str)
abbrev A_d:Ty:=.prod (.agg AD8) (.agg AD8)
abbrev AD9:Ty:=.prod .str (.prod (.agg (.prod (.int .i64) (.slice (.agg A_d)))) (.int .i64))
abbrev A_e:Ty:=.prod .str (.prod .str (.prod (.slice (.agg AD9)) .bool))
abbrev A_f:Ty:=.prod .str .str
abbrev tTask:Ty:=.prod (.agg (.slice (.agg A_e))) (.prod (.slice (.agg AD9)) (.prod (.int .i64) (.prod (.slice (.agg A_f)) (.prod (.slice .str) (.prod .bool (.agg AD7))))))
def nK(s:V_):Nat:=(0+(0+(s.1.2.2.length+1)))+(0+(0+(s.2.2.2.length+1)))
def RF(n:FZ):Nat:=(n.1.length+1)+((0+((n.2.1.2.map λx=>max 1 (nK x)).sum+1))+0)
def cA(o:GZ):Nat:=(o.1.length+1)+((o.2.1.length+1)+(((o.2.2.1.map λx=>max 1 (RF x)).sum+1)+0))
def cB(p:E_):Nat:=(p.1.length+1)+(p.2.length+1)
def ADA(t:F7):Nat:=((t.1.map λx=>max 1 (cA x)).sum+1)+(((t.2.1.map λx=>max 1 (RF x)).sum+1)+(0+(((t.2.2.2.1.map λx=>max 1 (cB x)).sum+1)+(((t.2.2.2.2.1.map λx=>max 1 (bS x)).sum+1)+(0+nJ t.2.2.2.2.2.2)))))
theorem ADB{n:FZ}{K:Nat}(b:K<=1048576)(h:RF n<=K):L9 n/\n.2.1.2.length<=1048576:=by
 unfold RF at h;have l:=MU (f:=nK) n.2.1.2;refine⟨⟨oa,λs a=>?_⟩,oa⟩;have:=MV (f:=nK) a;unfold nK at this h;exact⟨oa,oa⟩
theorem A_g{o:GZ}{K:Nat}(a:K<=1048576)(h:cA o<=K):bL o:=by
 unfold cA at h;have l:=MU (f:=RF) o.2.2.1;refine⟨oa,oa,oa,λn b=>?_⟩;have:=MV (f:=RF) b;exact(ADB (K:=K) a oa).1
theorem A_h{l:List E_}{K:Nat}(b:K<=1048576)(h:(l.map λx=>max 1 (cB x)).sum<=K):l.length<=1048576/\∀p∈l,p.1.length<=1048576/\p.2.length<=1048576:=by
 have d:=MU (f:=cB) l;refine⟨oa,λp a=>?_⟩;have:=MV (f:=cB) a;unfold cB at this h;exact⟨oa,oa⟩
theorem A_i{t:F7}{K:Nat}(d:K<=1048576)(h:Ty.bulk tTask t<=K):TkB t/\BB t.2.2.2.2.2.2/\∀nd∈t.2.1,nd.2.1.2.length<=1048576:=by
 have h:ADA t<=K:=h;unfold ADA at h;have l:=MU (f:=cA) t.1;have j:=MU (f:=RF) t.2.1;have k:=MU (f:=bS) t.2.2.2.2.1;have p:=A_h (l:=t.2.2.2.1) (K:=K) d oa;have b:=A_c (b:=t.2.2.2.2.2.2) (K:=K) d (by show nJ _<=K;omega)
 have nd:∀n∈t.2.1,L9 n/\n.2.1.2.length<=1048576:=λn a=>by
  have:=MV (f:=RF) a;exact ADB (K:=K) d oa
 refine⟨⟨oa,λo e=>?_,oa,λn a=>(nd n a).1,p.1,p.2,oa,λs i=>?_⟩,b.1,λn a=>(nd n a).2⟩
 .have:=MV (f:=cA) e;exact A_g (K:=K) d oa
 .have:=MV (f:=bS) i;unfold bS at this h;omega
theorem law14u(t:F7)(b:Ty.bulk tTask t<=1048576):kU t=some true:=by
 obtain⟨h,a,_⟩:=A_i (t:=t) (AH _) b;exact A_O t h a
end Go.Ev.Pv
