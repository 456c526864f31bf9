/-
  The law as plain Lean, third part: the bill of a lock, its risk, and the law.
-/
import Derived.Test.YtloinlpkjpmnbaaGreatDoorA2
import Derived.Lib.IndexMore
import Derived.Lib.Split
import Derived.Lib.MapU
import Derived.Lib.FieldsP
import Derived.Lib.TrimUEq
import Derived.Test.YtloinlpkjpmnbaaGreatDoorD
import Derived.Lib.SlicesCompact
set_option linter.unusedVariables false
set_option linter.unusedSimpArgs false
set_option linter.unusedSectionVars false
set_option maxRecDepth 100000
namespace Go.Ev.Pv
section
variable{t:F7}(ht:TkB t)(hB:BB t.2.2.2.2.2.2)(hk:TaskOk t)(hc:JG t=some 0)
include ht hk hB hc
theorem ACQ:(NJ t=some ([],(0,0,0),false,0)/\∀l,LkOk l->¬Right t l)\/
 ∃l c,NJ t=some (l,c,true,0)/\LkOk l/\Right t l/\LP (t,l)=some c/\∀y,LkOk y->Right t y->∃d,LP (t,y)=some d/\¬ID d c:=by
 have i:=hk.reg;have z:=hk.base.2.1;have I:=mV ht i;obtain⟨q,hq,L⟩:=AXQ t ht I (ACL ht i)
 have h:NJ t=bif (!q.2)then some (([]),((0),((0),(0))),false,(0))else(ZQ q.1).bind λr3=>
  (ZV (q.1,(),(),(none),bF r3,((0),((0),(0))))).bind λQ=>
  bif Q.1.isNone then some (([]),((0),((0),(0))),false,(0))else(ZW (q.1,(Q.1.getD []))).bind λR=>(LP (t,R)).bind λr7=>some (R,r7,true,(0)):=by
  unfold NJ;rw[hc,A0,show(!(E1 _ 0))=false from rfl,AA,hq,A0]
 rcases L with⟨N,O⟩|⟨N,O,W,A,st,rt,h3,r⟩
 .grind[AY9]
 .have a:=ACK i.asc;have h4:∀x,x∈KH _ _ W A st rt (ES t.1).length []->Val _ _ W A st rt x:=λx C=>((mT r x _ [] oe).1 C).1
  have K:∀x,Val _ _ W A st rt x->LkOk _/\Right t _:=λx k=>by
   have B:=ACM a λj w=>bJ r k w;have H:=mW (os:=F_ t) a x;have v:=AY6 ht i r O B H k;refine⟨⟨?_,λy M=>?_,H⟩,v⟩
   .exact AT (List.length_filterMap_le _ _) (by rw[D7];exact i.few)
   .obtain⟨o,B,T,_,U⟩:=PK.1 (v.pins y M).1;rw[<-T,<-U];exact(i.ok o B).pin
  have E:∀l,LkOk l->Right t l->∃x,x∈KH _ _ W A st rt (ES t.1).length []/\MN _ _ x=l:=λl z v=>by
   obtain⟨x,C,B⟩:=AY8 ht i z.asc λx C=>(v.pins x C).1;exact⟨x,(mT r x _ [] oe).2 ⟨AY7 ht i r B z.asc C v,List.nil_prefix⟩,AY5 a z.asc B⟩
  obtain⟨cs,J,D⟩:=AYA ht hB z i W A st rt;have e:=λx k=>AYE ht i D hk.old (p:=x) (λj w=>bJ r k w) hB z;obtain⟨⟨b,c⟩,hb,s⟩:=AXl I r D.cst;rw[h3]at h;rw[N,BS,J,A0,hb,A0]at h;rcases s with⟨h0,hS⟩|⟨p,left,G,k,V,X,Y,Z⟩
  .grind
  .dsimp only at G Y Z;rw[G]at h;simp only[DD]at h;rw[AXX I p left V λj w=>⟨X j w,bJ r k w⟩,A0,e p k]at h;obtain⟨k1,k2⟩:=K p k;refine .inr ⟨_,_,h,k1,k2,e p k,λy M v=>?_⟩;obtain⟨x,C,rfl⟩:=E y M v;grind[AYH]
end
def wO(t:F7)(l:List E_):F7:=(t.1,t.2.1,t.2.2.1,l,t.2.2.2.2)
theorem ACR{t:F7}(h:TkB t){l:List E_}(b:l.length<=1048576)(a:∀p∈l,p.1.length<=1048576/\p.2.length<=1048576):TkB (wO t l):=
 ⟨h.offers,h.offer,h.needs,h.need,b,a,h.frozen,h.name⟩
theorem AYJ{t:F7}(hk:TaskOk t){l:List E_}(h:LkOk l)(a:Right t l):TaskOk (wO t l):=
 ⟨hk.reg,hk.needs,hk.scope,h,λs b=>(a.frozen s b).1,hk.asc,hk.base⟩
theorem AYK{t:F7}(i:TkB t)(d:BB t.2.2.2.2.2.2)(hc:JG t=some 0){l:List E_}(q:LkOk l)(r:Right t l)(h:l.length<=1048576/\∀p∈l,p.1.length<=1048576/\p.2.length<=1048576):JG (wO t l)=some 0/\TaskOk (wO t l):=by
 obtain⟨e,b,j⟩:=A0l t i d;rw[hc]at b;cases b;obtain⟨k,hk⟩:=j.1 rfl;have a:=AYJ hk q r;obtain⟨e,s,o⟩:=A0l _ (ACR i h.1 h.2) d;have:=o.2 ⟨k,a⟩;grind
theorem ACS{t:F7}{l m:List E_}{s:DX}:CR (wO t l) m s<->CR t m s:=by
 constructor
 .intro h;induction h with
  |root b a=>exact .root b a
  |step _ a d i=>exact .step i a d
 .intro h;induction h with
  |root b a=>exact .root b a
  |step _ a d i=>exact .step i a d
theorem AYL{t:F7}{l:List E_}(i:LkOk l)(a:Right t l):Right (wO t l) l:=by
 refine⟨a.needs,λp h=>⟨?_,(a.pins p h).2⟩,λp h=>ACS.2 (a.more p h),λs k=>⟨(a.frozen s k).1,rfl⟩⟩;obtain⟨o,j,e,_,d⟩:=PK.1 (a.pins p h).1;refine PK.2 ⟨o,j,e,?_,d⟩;have b:=(ON i.asc p.1 p.2).2 h;show((F5 l p.1).2&&decide (o.2.1=(F5 l p.1).1)||_)=true;grind
theorem AYM{t:F7}{l m:List E_}(z:LkOk l)(k:Right t l)(a:Right (wO t l) m):Right t m:=by
 refine⟨a.needs,λp d=>⟨?_,(a.pins p d).2⟩,λp d=>ACS.1 (a.more p d),λs q=>?_⟩
 .obtain⟨o,x,r,h,i⟩:=PK.1 (a.pins p d).1;unfold PF at h;rw[BK]at h;rcases h with h|h
  .obtain⟨j,b⟩:=BA.1 h;have j:(F5 l p.1).2=true:=j;have b:o.2.1=(F5 l p.1).1:=A5 b;rcases L8 l p.1 with⟨e,_⟩|⟨v,e,y⟩
   .grind
   .rw[e]at b;have:v=p.2:=by rw[<-i,b]
    rw[<-this];exact(k.pins _ y).1
  .refine PK.2 ⟨o,x,r,?_,i⟩;unfold PF;rw[BK];exact .inr h
 .obtain⟨w,h⟩:=a.frozen s q;exact⟨w,h.trans (k.frozen s q).2⟩
theorem AYN(k:Int)(v:DX)(b:v.length<=1048576):∃r,QJ (k,v,v)=some r/\(r.2.2=0->r.1=r.2.1):=by
 obtain⟨⟨x,e⟩,a,_⟩:=NO (k,v) b;unfold QJ;dsimp only;rw[a,A0];cases h:!(E1 e 0)<;>simp_all
theorem AYO(k:Int)(v:DX)(j:v.length<=1048576):Tot (VJ (k,v,v)) (λr=>r.1=0):=by
 obtain⟨w,h,_⟩:=A0d k v v j j;refine⟨w,h,?_⟩;obtain⟨⟨a,b,e⟩,q,s⟩:=AYN k v j;unfold VJ at h;dsimp only at h;rw[q,A0]at h;cases l:!(E1 e 0)with
 |true=>grind
 |false=>
  have o:e=0:=by simpa[E0]using l
  have i:a=b:=s o;subst i;rw[l]at h;obtain⟨x,t,h⟩:=A_.1 h;obtain⟨y,d,h⟩:=A_.1 h;rw[t]at d;have d:=A2 d;subst d;rw[E4,A4 rfl]at h;grind
noncomputable def MQ(t:F7)(x:E_):Int:=(VH (t,x)).getD 0
section
variable{t:F7}(ht:TkB t)(hB:BB t.2.2.2.2.2.2)(hl:t.2.2.2.2.2.2.2.1.length<=2000)
include ht hB hl
theorem A0r{x:E_}(i:x.1.length<=1048576)(j:x.2.length<=1048576)(q:x.2≠[])(hk:(H6 x.1).2=true):
 (GP t x).1=MQ t x/\(GP t x).2.1=(if(F5 t.2.2.2.1 x.1).1=x.2 then 0 else 1)/\((F5 t.2.2.2.1 x.1).1=x.2->(GP t x).2.2=0):=by
 obtain⟨h,_⟩:=TA ht hB hl i j hk;obtain⟨y,d,_⟩:=ABv t hB hl x i hk;have z:MQ t x=y:=by unfold MQ;rw[d];rfl
 have l:=ht.old;unfold OF ZP at h;dsimp only at h;rw[OL _ _ oa,A0,d,E4,E4,A7 q]at h
 have b:(F5 t.2.2.2.1 x.1).1.length<=1048576:=by
  rcases L8 t.2.2.2.1 x.1 with⟨e,_⟩|⟨v,e,o⟩
  .rw[e];decide
  .rw[e];exact(ht.pin _ o).2
 by_cases a:(F5 t.2.2.2.1 x.1).1=x.2
 .rw[A4 a,BS,AA,A0,AA,A0]at h;rw[if_pos a];cases k:(F5 t.2.2.2.1 x.1).2 with
  |false=>
   grind
  |true=>
   rw[k,A8,QZ _ i,A0,a]at h;obtain⟨s,r,w⟩:=AYO (H6 x.1).1 x.2 j;grind
 .rw[A7 a,BW,A8,A0,AA,A0]at h;rw[if_neg a];cases k:(F5 t.2.2.2.1 x.1).2 with
  |false=>
   grind
  |true=>
   rw[k,A8,QZ _ i,A0]at h;obtain⟨s,r,_⟩:=A0d (H6 x.1).1 (F5 t.2.2.2.1 x.1).1 x.2 b j;grind
end
def sI(l:List Int):Int:=l.foldr (λa b=>a+b) 0
theorem AYP(l:List C3):sl l=(sI (l.map λc=>c.1),sI (l.map λc=>c.2.1),sI (l.map λc=>c.2.2)):=by
 induction l with
 |nil=>rfl
 |cons a l i=>
  show GC a _=_;rw[i];rfl
theorem AYQ{l:List Int}(b:∀x∈l,0<=x):0<=sI l/\(sI l=0->∀x∈l,x=0):=by
 induction l with
 |nil=>exact⟨AR _,λ_ x h=>ol⟩
 |cons a l i=>
  obtain⟨d,j⟩:=i λx h=>b x (AP _ h);have k:=b a AL;have e:sI (a::l)=a+sI l:=rfl;grind
theorem bP{l:List Int}(h:∀x∈l,x=0):sI l=0:=by
 induction l with
 |nil=>rfl
 |cons a l i=>
  have e:sI (a::l)=a+sI l:=rfl;simp_all
section
variable{t:F7}(ht:TkB t)(hB:BB t.2.2.2.2.2.2)(hc:JG t=some 0)
include ht hB hc
theorem A0s{l:List E_}(hk:LkOk l)(e:Right t l):∀x∈l,x.1.length<=1048576/\x.2.length<=1048576/\(H6 x.1).2=true/\x.2≠[]:=λx h=>by
 obtain⟨_,a⟩:=TB ht hk e;obtain⟨b,d⟩:=a x h;obtain⟨i,_,j⟩:=RB b d (hk.ok x h);grind[A0o]
theorem mY(b:t.2.2.2.2.2.2.2.1.length<=2000){l:List E_}(hk:LkOk l)(i:Right t l):LP (t,l)=some (sI (l.map (MQ t)),sI (l.map λx=>if(F5 t.2.2.2.1 x.1).1=x.2 then 0 else 1)+(KV t.2.2.2.1 l:Int),sI (l.map λx=>(GP t x).2.2)):=by
 have h:=A0s ht hB hc hk i;rw[ACP ht hB b l (λx a=>⟨(h x a).1,(h x a).2.1,(h x a).2.2.1⟩) hk.few,AYP];unfold GC;rw[List.map_map,List.map_map,List.map_map,Int.add_zero,Int.add_zero];have e:l.map ((λc:C3=>c.1) ∘ GP t)=l.map _:=List.map_congr_left λx a=>(A0r ht hB b (h x a).1 (h x a).2.1 (h x a).2.2.2 (h x a).2.2.1).1;have d:l.map ((λc:C3=>c.2.1) ∘ GP t)=l.map _:=List.map_congr_left λx a=>(A0r ht hB b (h x a).1 (h x a).2.1 (h x a).2.2.2 (h x a).2.2.1).2.1;rw[e,d];rfl
theorem AYR{l:List E_}{c:C3}(hk:LkOk l)(s:Right t l)(q:LP (t,l)=some c)(E:∀y,LkOk y->Right t y->∃d,LP (t,y)=some d/\¬ID d c):
 c.1=sI (l.map (MQ t))/\NJ (wO t l)=some (l,(c.1,0,0),true,0):=by
 obtain⟨j,R⟩:=TB ht hk s;obtain⟨o,C⟩:=AYK ht hB hc hk s ⟨j,R⟩;have i:=ACR ht j R;have D:t.2.2.2.2.2.2.2.1.length<=2000:=C.base.2.1;have G:=AYL hk s;have z:=mY ht hB hc D hk s;rw[q]at z;have w:c.1=sI (l.map (MQ t)):=by rw[A2 z]
 refine⟨w,?_⟩;have a:=mY i hB o D hk G;have b:∀x∈l,(F5 l x.1).1=x.2:=λx h=>by rw[(ON hk.asc x.1 x.2).2 h]
 have N:=A0s ht hB hc hk s
 have z1:sI (l.map λx=>if(F5 (wO t l).2.2.2.1 x.1).1=x.2 then 0 else 1)=0:=bP λn r=>by
  obtain⟨x,h,rfl⟩:=B1.1 r;exact if_pos (b x h)
 have z2:(KV (wO t l).2.2.2.1 l:Int)=0:=by
  unfold KV
  have:(l.filter λx=>!(F5 l x.1).2)=[]:=by
   rw[List.filter_eq_nil_iff];intro x h;rw[(ON hk.asc x.1 x.2).2 h];simp
  show(((l.filter λx=>!(F5 l x.1).2).length:Nat):Int)=0;rw[this];rfl
 have z3:=bP λn r=>by
  obtain⟨x,h,rfl⟩:=B1.1 r;obtain⟨W,X,Y,Z⟩:=N x h;exact(A0r i hB D W X Z Y).2.2 (b x h)
 have V:l.map (MQ (wO t l))=l.map (MQ t):=rfl;rw[z1,z2,z3,V,<-w]at a;rcases ACQ i hB C o with⟨_,h1⟩|⟨m,d,K,J,T,md,H⟩
 .grind
 .obtain⟨d1,A,B⟩:=H l hk G;rw[a]at A;cases A;have I:=AYM hk s T;obtain⟨U,L,M⟩:=E m J I;have O:=mY ht hB hc D J I;rw[L]at O;have k:=mY i hB o D J T;rw[md]at k;have e5:d.1=U.1:=by rw[A2 O,A2 k];rfl
  obtain ⟨p1,p2⟩:=AYQ (l:=m.map λx:E_=>if (F5 (wO t l).2.2.2.1 x.1).1=x.2 then 0 else 1) (λn r=>by
   grind)
  have e6:d.2.1=sI (m.map λx:E_=>if(F5 (wO t l).2.2.2.1 x.1).1=x.2 then 0 else 1)+(KV (wO t l).2.2.2.1 m:Int):=by rw[A2 k]
  unfold ID at B M;dsimp only at B;have e7:d.1=c.1:=oa
  have Q:sI (m.map λx:E_=>if(F5 (wO t l).2.2.2.1 x.1).1=x.2 then 0 else 1)=0/\KV (wO t l).2.2.2.1 m=0:=oa
  have q1:∀x∈m,x∈l:=λx h=>by
   have:=p2 Q.1 _ (B1.2 ⟨x,h,rfl⟩)
   have hv:(F5 l x.1).1=x.2:=by
    refine C0 λr=>?_;rw[if_neg (show ¬(F5 (wO t l).2.2.2.1 x.1).1=x.2 from r)]at this;exact absurd this oi
   grind[A0s,L8,absurd]
  have q2:∀x∈l,x∈m:=λx h=>by
   have h0:=CX.1 Q.2;have:=List.filter_eq_nil_iff.1 h0 x h;have hp:(F5 m x.1).2=true:=by simpa using this
   rcases L8 m x.1 with⟨e,_⟩|⟨v,e,hm⟩<;>grind
  have:m=l:=ACJ J.asc hk.asc λx=>⟨q1 x,q2 x⟩;grind
end
section
variable{α β:Type}
theorem A0t(l m:List Int):sI (l++m)=sI l+sI m:=by
 induction l with
 |nil=>exact(Int.zero_add _).symm
 |cons a l i=>
  grind[sI]
theorem AYS{l m:List Int}(h:l.Perm m):sI l=sI m:=by
 induction h<;>grind[sI,trans]
theorem AYT(l:List α)(f:α->List β)(w:β->Int):sI ((l.flatMap f).map w)=sI (l.map λa=>sI ((f a).map w)):=by
 induction l with
 |nil=>rfl
 |cons a l i=>
  rw[List.flatMap_cons,BL,A0t,i];rfl
theorem AYU(l:List α)(f g:α->Int):sI (l.map λa=>f a+g a)=sI (l.map f)+sI (l.map g):=by
 induction l<;>grind[sI]
theorem AYV(l:List α)(m:List β)(g:α->β->Int):sI (l.map λa=>sI (m.map λb=>g a b))=sI (m.map λb=>sI (l.map λa=>g a b)):=by
 induction l with
 |nil=>exact(bP λx h=>by obtain⟨_,_,rfl⟩:=B1.1 h;rfl).symm
 |cons a l i=>
  show sI _+sI _=sI (m.map λb=>g a b+sI _);rw[i,AYU]
theorem AYW(l:List α)(p:α->Bool)(w:α->Int):sI ((l.filter p).map w)=sI (l.map λa=>if p a=true then w a else 0):=by
 induction l with
 |nil=>rfl
 |cons a l i=>
  rw[List.filter_cons];cases h:p a with
  |true=>
   simp_all[sI,if_pos]
  |false=>
   simp_all[if_neg,sI,Int.zero_add]
variable [DecidableEq α]
def NT(w:α->Int)(GG:List α):List α->Int
 |[]=>0
 |k::r=>(if k∈GG then 0 else w k)+NT w (k::GG) r
theorem AYX(w:α->Int):∀(l GG D:List α),D.Nodup->(∀k,k∈D<->k∈l/\k ∉ GG)->NT w GG l=sI (D.map w):=by
 intro l;induction l with
 |nil=>
  intro GG D _ h;have:D=[]:=D3.2 λk hk=>oc
  rw[this];rfl
 |cons k r i=>
  intro GG D d h;show(if k∈GG then 0 else w k)+NT w (k::GG) r=_;by_cases a:k∈GG
  .grind
  .rw[if_neg a];have hk:k∈D:=(h k).2 ⟨AL,a⟩;have b:=List.perm_cons_erase hk;rw[AYS (b.map w)];show _=w k+sI _;grind
theorem AYY(w:α->Int)(k:α):∀(l GG:List α),NT w GG (l++[k])=NT w GG l+(if k∈GG\/k∈l then 0 else w k):=by
 intro l;induction l with
 |nil=>
  intro GG;show(if k∈GG then 0 else w k)+0=0+_;simp
 |cons a l i=>
  intro GG;show(if a∈GG then 0 else w a)+NT w _ (l++[k])=(if a∈GG then 0 else w a)+NT w _ l+_;grind
end
def GN(c:UInt8):Prop:=32<=c.toNat/\c.toNat≠127
def F4(s:DX):Prop:=∀c∈s,GN c
theorem OO:F4 []:=λ_ h=>ol
theorem mZ{a b:DX}(h:F4 a)(d:F4 b):F4 (a++b):=λc e=>(AS.1 e).elim (h c) (d c)
theorem WI{s:DX}(n:Nat)(h:F4 (s.take n))(a:F4 (s.drop n)):F4 s:=by
 grind[List.take_append_drop,mZ]
def Gd(f:Int->Option Bool):Prop:=∀c:UInt8,f (c.toNat:Int)=some true->GN c
theorem TC:Gd λx=>(H5 x).bind λr=>some r:=λc h=>by
 have:=ABM c h;grind[T0,GN]
theorem A0u{c:UInt8}(h:L3 (c.toNat:Int)=some true):GN c:=by
 grind[L3,GN]
theorem ACT{c:UInt8}(h:H5 (c.toNat:Int)=some true):GN c:=TC c (by assumption)
theorem AYZ:Gd λx=>(L3 x).bind λr=>some r:=λc h=>by
 grind[Option.bind_eq_some_iff,A0u]
theorem cls{c:UInt8}{g:Bool->Option Bool}{p:Bool->Bool->Bool}(h:((H5 (c.toNat:Int)).bind λr1=>(bif (!r1)then L3 (c.toNat:Int)else some false).bind λr2=>g (p r1 r2))=some true)
 (hg:g (p false false)=some true->GN c):GN c:=by
 obtain⟨r1,h1,h⟩:=A_.1 h;cases r1 with
 |true=>exact ACT h1
 |false=>
  grind[Option.bind_eq_some_iff,A0u]
theorem AY_:Gd λx=>(UU x).bind λr=>some r:=λc h=>by
 obtain⟨r,h1,h2⟩:=A_.1 h;cases h2;refine cls (g:=λb=>some (b||E1 _ 45)) h1 λh=>?_;have h:=by simpa using h
 rw[E0,AW]at h;unfold GN;omega
theorem AYa:Gd λx=>(V0 x).bind λr=>some r:=λc h=>by
 obtain⟨r,h1,h2⟩:=A_.1 h;cases h2;exact cls h1 λh=>ol
theorem AYb(c:Int):Tot ((UU c).bind λr=>some r) λ_=>True:=GV (A0K c trivial)
theorem AYc(c:Int):Tot ((V0 c).bind λr=>some r) λ_=>True:=GV (A0N c trivial)
theorem bQ{s:DX}{at_:Int}{f:Int->Option Bool}(v:∀c,Tot (f c) λ_=>True)(w:Gd f)(o:0<=at_)(q:at_<=s.length)(t:s.length<=1048576):
 Tot (IA (s,at_,f)) (λr=>0<=r/\at_+r<=s.length/\(F4 (s.take at_.toNat)->F4 (s.take (at_+r).toNat))/\(r=s.length->F4 s)):=by
 refine(bB _ ⟨o,q,t,v⟩).mono λr z=>?_;obtain⟨A,k,l,_⟩:=z;dsimp only at k l;have key:=λj a b c d=>w c (l j a b c d);refine⟨A,k,λy c d=>?_,λe c d=>?_⟩
 .obtain⟨j,i,h⟩:=List.mem_iff_getElem.1 d;rw[AY]at i;rw[List.getElem_take]at h;by_cases x:(j)<at_
  .exact y c (by rw[<-h];exact C2.2 ⟨j,oa,rfl⟩)
  .exact key j oa oa c oc
 .obtain⟨j,i,h⟩:=List.mem_iff_getElem.1 d;exact key j oa oa c oc
theorem AYd(s:DX)(h:s.length<=1048576):Tot (J6 s) (λr=>r.2=true->F4 s):=by
 unfold J6;cases b:(E5 s []||decide ((18)<(s.length:Int)))with
 |true=>simp_all[BS,AA,Bool.true_or,A8,DY,DZ]
 |false=>
  simp only[BW,A8,CD];refine DY.2 ((bQ QT TC (AR _) oa h).mono λr a=>?_);refine D_.2 ⟨λ_=>DZ.2 λh=>(ol),λe=>?_⟩;refine DY.2 ((ABI s h).mono λd _=>DZ.2 λ_=>?_);grind[E0]
theorem ACU(s:DX)(h:s.length<=1048576):Tot (QG s) (λr=>r.2=true->F4 s):=by
 refine DY.2 (Tot.mono (D_.2 ⟨λh=>F0.2 ⟨⟨AR _,oc⟩,λ_ _=>trivial⟩,λ_=>DZ.2 trivial⟩) λb _=>?_);simp_all[D_,DZ,DY,AYd]
theorem ACV{s:DX}{i:Nat}{c:UInt8}(h:Lib.occAt s [c] i=true):s[i]?=some c:=by
 unfold Lib.occAt at h
 have:(s.drop i)[0]?=some c:=by
  cases b:s.drop i with
  |nil=>grind
  |cons a l=>grind
 grind
theorem bR{s:DX}{i:Nat}{c:UInt8}(hi:s[i]?=some c)(hc:GN c)(b:F4 (s.take i))(d:F4 (s.drop (i+1))):F4 s:=by
 obtain⟨a,e⟩:=A9.1 hi;refine WI i b λx h=>?_;rw[C5 a]at h;rcases B2.1 h with rfl|h
 .grind
 .exact d x h
theorem AYe{c:UInt8}(hc:GN c):∀(k:Nat) (s:DX),(∀p∈Lib.splitK [c] 0 k s,F4 p)->F4 s:=by
 intro k;induction k with
 |zero=>intro s h;exact h s (by unfold Lib.splitK;simp)
 |succ k d=>
  intro s h;unfold Lib.splitK at h;rcases Lib.index_spec s [c]with⟨e,_⟩|⟨i,e,hi,ho,_⟩
  .grind
  .rw[e]at h;have a:¬(((i:Nat):Int)== -1)=true:=by rw[DT];omega
   rw[if_neg a]at h;simp only[AK,CT,List.length_singleton]at h;exact bR (ACV ho) hc (h _ AL) (d _ λp b=>h p (AP _ b))
theorem AYf(s:DX)(c:UInt8)(hc:GN c)(h:s.length<=1048576):Tot (strings_Split (s,[c])) (λr=>(∀p∈r,F4 p)->F4 s):=by
 unfold strings_Split HI;rw[A4 oc];refine DZ.2 λa=>?_;have e:=Lib.splitB_data ⟨[c].toArray⟩ 0 (Lib.countB ⟨s.toArray⟩ ⟨[c].toArray⟩) ⟨s.toArray⟩;rw[e]at a;exact AYe hc _ _ a
theorem ACW(s:DX)(c:UInt8)(hc:GN c)(h:s.length<=1048576):Tot (strings_Cut (s,[c])) (λr=>r.1.length<=s.length/\r.2.1.length<=s.length/\(r.2.2=true->F4 r.1->F4 r.2.1->F4 s)/\(r.2.2=false->r.1=s)):=by
 obtain⟨r,d,j⟩:=A0F (s,[c]) h;refine⟨r,d,j.1,j.2,?_⟩;unfold strings_Cut HI at d;rw[A4 oc]at d;have d:some (Lib.cut s [c])=some r:=d;rw[<-A2 d];unfold Lib.cut;rcases Lib.index_spec s [c]with⟨e,_⟩|⟨i,e,hi,ho,_⟩
 .grind
 .rw[e,if_pos oa];simp only[AK,List.length_singleton];exact⟨λ_ a b=>bR (ACV ho) hc a b,λh=>ol⟩
theorem AYg(l:List DX)(q:l.length<=1048576)(k:∀p∈l,p.length<=1048576):Tot (gB (l,(l.length:Int),0)) (λr=>match r with| .inl _=>∀p∈l,F4 p| .inr y=>y.2=false):=by
 refine FH l.length (λ_ i=>(l,(l.length:Int),i)) (λi _=>∀p∈l.take i,F4 p) oa (λnext _ i a e o=>?_) (λnext _ e=>?_) () oe
 .unfold gA;dsimp only;rw[EK,A4 a,F8 (A1 a),A0,FD oa];have h:=k l[i] (AU a);refine DY.2 (Tot.mono (P:=λr:Int=>r=(l[i].length)->F4 l[i]) (D_.2 ⟨λ_=>?_,λd=>DZ.2 λ_=>?_⟩) λr j=>?_)
  .exact(bQ AYb AY_ (AR _) oa h).mono λr j=>j.2.2.2
  .grind[E4,OO]
  .refine D_.2 ⟨λ_=>DZ.2 rfl,λd=>o () λp b=>?_⟩;have d:=(B0.1 d).2;rw[FN (A1 a),AS,AJ]at b;rcases b with b|rfl
   .exact e p b
   grind[E0]
 simp_all[gA,EK,A7,AC,AA,AG,DZ]
theorem ACX(s:DX)(h:s.length<=1000):Tot (S6 s) (λr=>r.2=true->F4 s):=by
 unfold S6;obtain⟨r,b,d⟩:=A09 (s,[46]) oc;obtain⟨k,a,e⟩:=AYf s 46 (by unfold GN;decide) oa;rw[b]at a;cases a;dsimp only at d;rw[b,A0];refine DY.2 ((AYg r oa λp i=>oc).mono λq j=>?_);grind[DZ]
theorem AYh(s:DX)(h:s.length<=1000):Tot (UV s) (λr=>r.2=true->F4 s):=by
 obtain⟨q,b,_⟩:=ABT s h;refine⟨q,b,?_⟩;obtain⟨r,d,i⟩:=ACX s h;unfold UV at b;rw[d,A0]at b;obtain⟨z,o,b⟩:=A_.1 b;obtain⟨t,a,j⟩:=A0L s h;rw[d]at a;cases a;obtain⟨v,e,k⟩:=ABS (r.1,(r.1.length),0) ⟨AR _,B6 _,rfl,oc,λp l=>oc⟩;grind
theorem AYi(s:DX)(h:s.length<=1000):Tot (UW s) (λr=>r.2=true->F4 s):=by
 unfold UW;refine DY.2 ((ACW s 43 (by unfold GN;decide) oa).mono λd q=>?_);obtain⟨z,A,t,v⟩:=q;refine DY.2 ((ACX d.2.1 oa).mono λB w=>?_);refine D_.2 ⟨λ_=>DZ.2 λh=>(ol),λy=>?_⟩
 have a:F4 d.1->F4 s:=λx=>by
  cases j:d.2.2<;>grind
 refine D_.2 ⟨λi=>DZ.2 λ_=>a ?_,λi=>?_⟩
 .grind[E4,OO]
 .have e:d.1≠[]:=by simpa[E4]using i
  have k:0<d.1.length:=List.length_pos_iff.2 e;refine DY.2 (F0.2 ⟨⟨AR _,oa⟩,λb j=>?_⟩);refine D_.2 ⟨λ_=>DZ.2 λh=>(ol),λl=>?_⟩;refine DY.2 (HL.2 ⟨⟨oi,oa,AR _⟩,?_⟩);rw[AK,AG];refine DY.2 ((AYh (d.1.drop 1) oc).mono λC o=>DZ.2 λh=>a ?_);refine bR (i:=0) j ?_ (by rw[CE];exact OO) (o h);grind[E0,GN]
section
variable{α β X R:Type}
theorem LC{m:Option α}{P:α->Prop}(h:Tot m P){x:α}(e:m=some x):P x:=by
 obtain⟨y,a,b⟩:=h;grind
theorem FF{b:Bool}{m n:Option α}{x:α}(h:(bif b then m else n)=some x):(b=true/\m=some x)\/(b=false/\n=some x):=by
 grind
theorem EM{m:Option α}{f:α->Option β}{y:β}(h:m.bind f=some y):∃x,m=some x/\f x=some y:=A_.1 h
theorem at_some{l:List α}{i:Int}{x:α}(e:at? l i=some x):0<=i/\i<l.length/\l[i.toNat]?=some x:=by
 obtain⟨⟨h,a⟩,b⟩:=F0.1 (⟨x,e,rfl⟩);grind
theorem TD{l:List α}{a hi:Int}{x:List α}(e:cut? l a hi=some x):0<=a/\a<=hi/\hi<=l.length/\x=(l.take hi.toNat).drop a.toNat:=by
 obtain⟨⟨h,b,d⟩,i⟩:=HL.1 (show Tot _ (λy=>y=x)from⟨x,e,rfl⟩);grind
theorem TE{r:(X->Option R)->X->Option R}(I:X->Prop){Q:R->Prop}(h:∀next x y,(∀a b,I a->next a=some b->Q b)->I x->r next x=some y->Q y):∀(k:Nat) (x:X) (y:R),I x->E8 r k x=some y->Q y:=by
 intro k;induction k with
 |zero=>intro x y _ e;cases e
 |succ k l=>intro x y j e;exact h _ x y (λa b d i=>l a b d i) j e
end
theorem WJ{s:DX}{at_ r:Int}{f:Int->Option Bool}(d:∀c,Tot (f c) λ_=>True)(i:Gd f)(h:0<=at_)(a:at_<=s.length)(b:s.length<=1000)(j:F4 (s.take at_.toNat))(e:IA (s,at_,f)=some r):
 0<=r/\at_+r<=s.length/\F4 (s.take (at_+r).toNat):=by
 grind[LC,bQ]
theorem ACY{s:DX}{i:Int}{c:UInt8}(a:0<=i)(hi:s[i.toNat]?=some c)(hc:GN c)(h:F4 (s.take i.toNat)):F4 (s.take (i+1).toNat):=by
 have e:(i+1).toNat=i.toNat+1:=oa
 rw[e,FN hi];exact mZ h λx b=>oc
theorem RC{n:Int}(h:0<=n)(a:n<=100000):IntKind.i64.wrap n=n:=EQ oa oa
theorem AYj{s:DX}{v:Vr}(d:s.length<=1000)(h:YP s=some (v,true)):F4 s:=by
 obtain⟨r,b,a⟩:=EM h;have:=congrArg Prod.snd (A2 a);grind[LC,ACU]
theorem AYk{s:DX}{at_ y:Int}{b:Bool}(o:s.length<=1000)(k:0<=at_)(l:at_<=s.length)(q:F4 (s.take at_.toNat))(h:UX (s,at_,b)=some (.inl y)):0<=y/\y<=s.length/\F4 (s.take y.toNat):=by
 unfold UX at h;rcases FF h with⟨_,h⟩|⟨_,h⟩
 .obtain⟨i,d,h⟩:=EM h;rcases FF h with⟨_,h⟩|⟨e,h⟩
  .cases h
  .obtain⟨a,j⟩:=B0.1 e;have a:=AF a;rw[A7 a,BW]at d;grind[at_some,E0,Option.some.inj,Sum.inl.inj,RC,ACY,GN]
 grind
theorem AYl{s:DX}{v:Vr}(d:s.length<=1000)(h:YN s=some (v,true)):F4 s:=by
 obtain⟨q,A,h⟩:=EM h
 have key:=TE (r:=gC) (λx=>x.1=s/\0<=x.2.2.1/\x.2.2.1<=s.length/\F4 (s.take x.2.2.1.toNat)) (Q:=λq=>match q with
  | .inl y=>0<=y.2/\y.2<=s.length/\F4 (s.take y.2.toNat)
  | .inr y=>y.2=false) (λnext x y Q D b=>?_) fuel _ q ⟨rfl,AR _,B6 _,by exact OO⟩ A
 .rcases q with q|q
  .obtain⟨k1,R,T⟩:=key;obtain⟨L,B,h⟩:=EM h;obtain⟨J,C,h⟩:=EM h;obtain⟨_,_,_,k⟩:=TD B;rw[AK,AG]at k;rw[k]at C;have:=congrArg Prod.snd (A2 h);grind[WI,LC,AYi,List.length_drop]
  grind
 .obtain⟨K,X,a,t⟩:=x;obtain⟨e,i0,j,l⟩:=D;subst e;dsimp only at i0 j l;unfold gC at b;rcases FF b with⟨_,b⟩|⟨_,b⟩
  .obtain⟨z,G,b⟩:=EM b;rcases z with Y|z
   .obtain⟨o,r,w⟩:=AYk d i0 j l G;obtain⟨U,i,b⟩:=EM b;obtain⟨M,N,O⟩:=WJ QT TC o r d w i;obtain⟨W,_,b⟩:=EM b;obtain⟨V,_,b⟩:=EM b;rcases FF b with⟨_,b⟩|⟨_,b⟩
    .grind
    .obtain⟨_,_,b⟩:=EM b;rw[RC oa oa]at b;grind
   .have E:=(ABU (K,a,decide ((0)<t)) ⟨i0,j,d⟩);obtain⟨Z,H,_,I⟩:=E;grind
  grind
theorem AYm{l:DX}{c:UInt8}(h:0<=Lib.indexByte l c):c∈l:=by
 induction l with
 |nil=>simp[Lib.indexByte]at h
 |cons a l i=>
  unfold Lib.indexByte at h;grind
theorem AYn:Gd λx=>(S7 x).bind λr=>some r:=λc h=>by
 obtain⟨r,b,d⟩:=A_.1 h;cases d;unfold S7 at b;obtain⟨o,b,d⟩:=EM b;cases o with
 |true=>exact ACT b
 |false=>
  obtain⟨q,j,k⟩:=EM d;cases q with
  |true=>exact A0u j
  |false=>
   obtain⟨e,a,i⟩:=EM k;have i:decide ((0:Int)<=e)=true:=by simpa using i
   have a:strings_IndexByte (([46,43,126,45]:List UInt8),(c.toNat:Int))=some e:=a;unfold strings_IndexByte HI at a;rw[A4 oe]at a;have a:some (Lib.indexByte [46,43,126,45] (((c.toNat:Int)).toNat.toUInt8))=some e:=a;have l:((c.toNat:Int)).toNat.toUInt8=c:=by rw[AK];simp
   rw[l]at a;have:=AYm (l:=[46,43,126,45]) (c:=c) oc;simp only[B2,List.not_mem_nil,or_false]at this;unfold GN;rcases this with rfl|rfl|rfl|rfl<;>decide
theorem AYo(c:Int):Tot ((S7 c).bind λr=>some r) λ_=>True:=GV (A0M c trivial)
theorem AYp{s:DX}{v:Vr}(H:s.length<=1000)(h:YO s=some (v,true)):F4 s:=by
 obtain⟨J,x,h⟩:=EM h;obtain⟨c0,C,D,E⟩:=LC (ACW s 58 (by unfold GN;decide) oa) x;obtain⟨A,a,h⟩:=EM h;rcases A with y|y
 .obtain⟨B,_,h⟩:=EM h;obtain⟨K,_,h⟩:=EM h;obtain⟨L,r,h⟩:=EM h;obtain⟨M,_,h⟩:=EM h;rcases FF h with⟨_,h⟩|⟨z,h⟩
  .cases h
  .obtain⟨j,_⟩:=B0.1 z;obtain⟨l,o⟩:=B0.1 j;rw[l,BW]at r;have i:=by simpa[E0]using o
   have t:F4 y.1->y.1.length<=1000->F4 s:=λt _=>by
    unfold S8 at a;rcases FF a with⟨b,a⟩|⟨b,a⟩
    .obtain⟨w,q,a⟩:=EM a;rcases FF a with⟨_,a⟩|⟨I,a⟩
     .cases a
     .have a:=Sum.inl.inj (A2 a);have G:=congrArg Prod.fst a;grind[LC,ACU]
    grind
   have d:y.1.length<=1000:=by
    unfold S8 at a;rcases FF a with⟨b,a⟩|⟨b,a⟩
    .obtain⟨w,q,a⟩:=EM a;grind
    .grind
   refine t ?_ d;obtain⟨_,_,_,k⟩:=LC (bQ AYo AYn (AR _) oa oa) r;exact k i
 .have e:=congrArg Prod.snd (A2 h);unfold S8 at a;rcases FF a with⟨b,a⟩|⟨b,a⟩
  .obtain⟨w,q,a⟩:=EM a;grind
  .cases a
theorem AYq{s:DX}{at_ y:Int}{b:UInt8}{d:Bool}(l:s.length<=1000)(i:0<=at_)(j:at_<s.length)(o:F4 (s.take at_.toNat))(a:s[at_.toNat]?=some b)(k:d=true->GN b)
 (h:V4 (s,at_,d)=some (.inl y)):0<=y/\y<=s.length/\F4 (s.take y.toNat):=by
 unfold V4 at h;rcases FF h with⟨e,h⟩|⟨_,h⟩
 .obtain⟨_,_,h⟩:=EM h;obtain⟨_,_,h⟩:=EM h;obtain⟨_,_,h⟩:=EM h;obtain⟨_,_,h⟩:=EM h;rcases FF h with⟨_,h⟩|⟨_,h⟩
  .cases h
  grind[Sum.inl.inj,Option.some.inj,RC,ACY]
 grind
theorem AYr{s:DX}{v:Vr}(o:s.length<=1000)(h:V5 s=some (v,true)):F4 s:=by
 unfold V5 at h;obtain⟨q,L,h⟩:=EM h
 have key:=TE (r:=gO) (λx=>x.1=s/\0<=x.2.2/\x.2.2<=s.length/\F4 (s.take x.2.2.toNat)) (Q:=λq=>match q with
  | .inl _=>F4 s
  | .inr y=>y.2=false) (λnext x y Y M b=>?_) fuel _ q ⟨rfl,AR _,B6 _,by exact OO⟩ L
 .grind
 .obtain⟨J,Z,a⟩:=x;obtain⟨e,i0,R,I⟩:=M;have e:J=s:=e;subst e;dsimp only at i0 R I;unfold gO at b;dsimp only at b;rcases FF b with⟨d,b⟩|⟨d,b⟩
  .have d:=A5 d;obtain⟨l,j,b⟩:=EM b;obtain⟨_,_,K⟩:=at_some j;obtain⟨G,w,b⟩:=EM b;obtain⟨z,N,b⟩:=EM b
   have i:(E1 (l.toNat:Int) 46||E1 (G.toNat:Int) 45)=true->GN l:=λi=>by
    rw[BK]at i;rcases i with i|i
    .rw[E0,AW]at i;unfold GN;omega
    .rw[E0,AW]at i;cases H:E1 (l.toNat:Int) 46 with
     |true=>
      rw[E0,AW]at H;unfold GN;omega
     |false=>
      rw[H,BW,A8,j]at w;grind[GN]
   rcases z with k|z
   .obtain⟨C,D,E⟩:=AYq o i0 d I K i N;dsimp only at b;obtain⟨A,r,b⟩:=EM b;obtain⟨c0,T,U⟩:=WJ QT TC C D o E r;rcases FF b with⟨_,b⟩|⟨_,b⟩
    .obtain⟨_,_,b⟩:=EM b;obtain⟨_,_,b⟩:=EM b;rcases FF b with⟨_,b⟩|⟨_,b⟩
     .grind
     .obtain⟨_,_,b⟩:=EM b;rw[RC (n:=k+A) oa oa]at b;grind
    .obtain⟨B,t,b⟩:=EM b;obtain⟨V,W,X⟩:=WJ AU_ AYZ C D o E t;rcases FF b with⟨_,b⟩|⟨_,b⟩
     .grind
     .obtain⟨_,_,b⟩:=EM b;obtain⟨_,_,b⟩:=EM b;obtain⟨_,_,b⟩:=EM b;obtain⟨_,_,b⟩:=EM b;obtain⟨_,_,b⟩:=EM b;rw[RC (n:=k+B) oa oa]at b;grind
   .obtain⟨z',O,_,Q⟩:=ABV (J,a,(E1 (l.toNat:Int) 46||E1 (G.toNat:Int) 45)) ⟨i0,d,o⟩;grind
  grind[of_decide_eq_false,List.take_length]
theorem AYs(n b a d e:Nat)(h:0<n):1<=(Lib.decodeN n b a d e).2/\(Lib.decodeN n b a d e).2<=n/\(Lib.decodeN n b a d e).2<=4/\(b<128->Lib.decodeN n b a d e=(b,1))/\
 (1<(Lib.decodeN n b a d e).2->128<=b/\128<=a)/\(2<(Lib.decodeN n b a d e).2->128<=d)/\(3<(Lib.decodeN n b a d e).2->128<=e):=by
 unfold Lib.decodeN;grind
theorem ACZ(s:ByteArray)(pos:Nat)(h:pos<s.data.toList.length):1<=(Utf8.decode s pos).2/\pos+(Utf8.decode s pos).2<=s.data.toList.length/\
 ∀j c,pos<=j->j<pos+(Utf8.decode s pos).2->s.data.toList[j]?=some c->c.toNat<128->j=pos/\Utf8.decode s pos=(c.toNat,1):=by
 rw[Lib.decode_N];obtain⟨a,b,d,e,i,k,l⟩:=AYs (s.data.toList.length-pos) (s.data.toList.getD pos 0).toNat (s.data.toList.getD (pos+1) 0).toNat (s.data.toList.getD (pos+2) 0).toNat (s.data.toList.getD (pos+3) 0).toNat oa;grind
theorem AC_{c:UInt8}(hc:c.toNat<128)(w:¬(65<=c.toNat/\c.toNat<=90)):∀(n:Nat) (l:DX),l.length<=n->c∈l->c∈Lib.mapGoD Lib.toLowerU n l:=by
 intro n;induction n with
 |zero=>simp
 |succ n x=>
  intro l v h;have a:l≠[]:=λe=>oc
  have b:0<l.length:=List.length_pos_iff.2 a;have r:Lib.decodeL l=Utf8.decode _ 0:=rfl;obtain⟨o,q,i⟩:=ACZ ⟨l.toArray⟩ 0 (by simpa using b);rw[<-r]at o q i;have t:(⟨l.toArray⟩:ByteArray).data.toList=l:=oe
  simp only[Lib.mapGoD];rw[if_neg a,AS];rw[<-List.take_append_drop (Lib.decodeL l).2 l,AS]at h;rcases h with h|h
  .obtain⟨j,s,d⟩:=List.mem_iff_getElem.1 h;rw[AY]at s;rw[List.getElem_take]at d;obtain⟨_,e⟩:=i j c (BJ _) oa oc hc;rw[e]
   have k:Lib.toLowerU ((c.toNat:Nat))=(c.toNat):=by
    unfold Lib.toLowerU;rw[if_pos oa,if_neg oa]
   rw[k];unfold Lib.encodeRune;rw[Lib.encodeRuneZ_one oa oa];simp
  grind
theorem AYt{s u:DX}(j:s.length<=1048576)(h:R_ s=some u)(d:F4 u):F4 s:=by
 unfold R_ HI at h;rw[A4 oa]at h;have b:(Lib.toLowerD s).length<=4*s.length:=ABJ _ _ _;unfold str? at h;rw[A4 oa]at h;intro c a;by_cases i:65<=c.toNat
 .by_cases e:c.toNat=127
  .exact d c (by rw[<-A2 h];exact AC_ oa oa _ _ (AH _) a)
  .exact⟨oa,e⟩
 .exact d c (by rw[<-A2 h];exact AC_ oa oa _ _ (AH _) a)
def Cov(p:Nat->Bool)(l:DX)(pos:Nat)(acc:List (Nat×Nat))(st:Option Nat):Prop:=
 (∀a,st=some a->a<=pos)/\(∀x∈acc,x.2<=l.length)/\∀j c,j<pos->l[j]?=some c->c.toNat<128->p c.toNat=false->(∃x∈acc,x.1<=j/\j<x.2)\/∃a,st=some a/\a<=j
theorem AYu(p:Nat->Bool)(s:ByteArray):∀(f pos:Nat) (st:Option Nat) (d:List (Nat×Nat)),pos<=s.data.toList.length->s.data.toList.length<=pos+f->Cov p s.data.toList pos d st->
 Cov p s.data.toList s.data.toList.length (Lib.spansFromP p s f pos st d).1 (Lib.spansFromP p s f pos st d).2:=by
 have E:s.size=s.data.toList.length:=by show s.data.size=s.data.toList.length;rw[BF]
 intro f;induction f with
 |zero=>
  intro pos st d A B h;have:pos=s.data.toList.length:=oa
  subst this;exact h
 |succ f q=>
  intro pos st d A B h;simp only[Lib.spansFromP];by_cases D:pos<s.size
  .rw[if_pos D];obtain⟨I,J,K⟩:=ACZ s pos oa;obtain⟨y,r,z⟩:=h;cases L:p (Utf8.decode s pos).1 with
   |true=>
    rw[if_pos rfl]
    have w:∀j c,pos<=j->j<pos+(Utf8.decode s pos).2->s.data.toList[j]?=some c->c.toNat<128->p c.toNat=false->False:=λj c a b k e l=>by
     grind
    cases st with
    |some a=>
     refine q _ _ _ oa oa ⟨λx i=>(by cases i),λx i=>?_,λj c v k e l=>?_⟩
     .grind
     .by_cases o:j<pos
      .rcases z j c o k e l with⟨x,i,G⟩|⟨H,C,t⟩
       .grind
       .cases C;exact .inl ⟨(a,pos),BZ _ (AJ.2 rfl),t,o⟩
      grind
    |none=>
     refine q _ _ _ oa oa ⟨λx i=>(by cases i),r,λj c v k e l=>?_⟩;grind
   |false=>
    rw[if_neg oe];cases st with
    |some a=>
     have:=y a rfl;refine q _ _ _ oa oa ⟨λx i=>(by cases i;omega),r,λj c v k e l=>?_⟩;grind
    |none=>
     refine q _ _ _ oa oa ⟨λx i=>(by cases i;omega),r,λj c v k e l=>?_⟩;grind
  grind
theorem AYv(p:Nat->Bool)(l:DX){c:UInt8}(hc:c∈l)(o:c.toNat<128)(A:p c.toNat=false):∃b∈Lib.goFieldsP p ⟨l.toArray⟩,c∈b.data.toList:=by
 have q:(⟨l.toArray⟩:ByteArray).data.toList=l:=oe
 have B:(⟨l.toArray⟩:ByteArray).size=l.length:=by simp[ByteArray.size]
 obtain⟨j,t,k⟩:=List.mem_iff_getElem.1 hc;have i:l[j]?=some c:=by rw[<-k];exact A1 t
 obtain⟨w,y,s⟩:=AYu p ⟨l.toArray⟩ (⟨l.toArray⟩:ByteArray).size 0 none [] (BJ _) oc ⟨λa h=>(ol),λx h=>(ol),λj c h=>absurd h oa⟩;rw[q]at w y s
 have d:∃x∈Lib.spansOfP p ⟨l.toArray⟩,x.1<=j/\j<x.2:=by
  unfold Lib.spansOfP Lib.closeSpans;rcases s j c t i o A with⟨x,v,r⟩|⟨a,D,z⟩
  .grind
  .simp_all
 obtain⟨x,v,C,r⟩:=d;refine⟨_,B1.2 ⟨x,v,rfl⟩,?_⟩;have e:((⟨l.toArray⟩:ByteArray).extract x.1 x.2).data.toList=(l.take x.2).drop x.1:=by rw[ByteArray.data_extract];simp[DJ]
 rw[e];refine List.mem_iff_getElem?.2 ⟨j-x.1,?_⟩;grind
theorem ACa{s p:DX}(b:F4 p)(h:F4 (Lib.trimPrefix s p)):F4 s:=by
 unfold Lib.trimPrefix at h;split at h
 .rename_i a;obtain⟨t,rfl⟩:=List.isPrefixOf_iff_prefix.1 a;grind[List.drop_left,mZ]
 .exact h
theorem ACb{s:DX}{f:Int->Option Bool}{r:Int}(h:S9 (s,f)=some r):0<=r/\r<=s.length/\F4 (s.take r.toNat):=by
 unfold S9 at h;dsimp only at h;obtain⟨d,i,h⟩:=EM h;obtain⟨t,l,h⟩:=EM h;obtain⟨_,_,h⟩:=EM h;obtain⟨v,_,h⟩:=EM h;rcases FF h with⟨j,h⟩|⟨_,h⟩
 .cases h;obtain⟨k,_⟩:=BA.1 j;obtain⟨a,o⟩:=BA.1 k;rw[a,A8]at i l;obtain⟨_,q,b⟩:=at_some i;have a:=A5 a;refine⟨oi,oa,?_⟩;have b:s[0]?=some d:=b;have e:s.take (1:Int).toNat=s.take 0++[d]:=by rw[show(1:Int).toNat=0+1 from rfl,FN b]
  rw[e,CE,DO];intro c j;grind[List.mem_singleton,gF,E0,GN]
 .cases h;exact⟨oi,oa,by rw[show(0:Int).toNat=0 from rfl,CE];exact OO⟩
theorem AYw{s:DX}{l:List DX}(B:∀p∈l,F4 p){r:DX}(h:gH (s,[],l,(l.length:Int),0)=some r):r=[]\/(Lib.hasPrefix s r=true/\F4 r):=by
 refine TE (r:=gG) (λx=>x.1=s/\x.2.1=[]/\x.2.2.1=l) (Q:=λr=>r=[]\/(Lib.hasPrefix s r=true/\F4 r)) (λnext x y C v a=>?_) fuel _ r ⟨rfl,rfl,rfl⟩ h;obtain⟨k,w,t,n,i⟩:=x;obtain⟨e,b,d⟩:=v;have e:k=s:=e;have b:w=[]:=b;have d:t=l:=d;subst e b d;unfold gG at a;dsimp only at a;rcases FF a with⟨_,a⟩|⟨_,a⟩
 .obtain⟨o,q,a⟩:=EM a;obtain⟨_,_,g⟩:=at_some q;obtain⟨z,j,a⟩:=EM a;rcases FF a with⟨A,a⟩|⟨_,a⟩
  .have a:o=y:=A2 a;have j:some (Lib.hasPrefix k o)=some z:=j;grind
  grind
 grind
theorem AYx{s:DX}{q:DX×Int×Int}(h:UZ s=some q):q.1=[]\/(Lib.hasPrefix s q.1=true/\F4 q.1):=by
 unfold UZ at h;dsimp only at h;obtain⟨r,b,h⟩:=EM h
 have key:=AYw (λp a=>by
  simp only[B2,List.not_mem_nil,or_false]at a;unfold F4 GN;rcases a with rfl|rfl|rfl|rfl|rfl|rfl|rfl|rfl|rfl|rfl|rfl|rfl<;>decide) b
 have:q.1=[]\/q.1=r:=by
  rcases FF h with⟨_,h⟩|⟨_,h⟩
  .grind
  right;obtain⟨_,_,h⟩:=EM h;rcases FF h with⟨_,h⟩|⟨_,h⟩
  .cases h;rfl
  obtain⟨_,_,h⟩:=EM h;rcases FF h with⟨_,h⟩|⟨_,h⟩
  .cases h;rfl
  obtain⟨_,_,h⟩:=EM h;rcases FF h with⟨_,h⟩|⟨_,h⟩
  .cases h;rfl
  rcases FF h with⟨_,h⟩|⟨_,h⟩
  .rcases FF h with⟨_,h⟩|⟨_,h⟩<;>(cases h;rfl)
  rcases FF h with⟨_,h⟩|⟨_,h⟩
  .rcases FF h with⟨_,h⟩|⟨_,h⟩<;>(cases h;rfl)
  rcases FF h with⟨_,h⟩|⟨_,h⟩<;>(cases h;rfl)
 grind
theorem AYy{s w:DX}(h:Lib.hasPrefix s w=true):s.take w.length=w/\w.length<=s.length:=by
 obtain⟨t,rfl⟩:=List.isPrefixOf_iff_prefix.1 h;simp
theorem AYz{s:DX}{n k:Int}{b:Bool}{y:DX×Int}(o:s.length<=1000)(i:0<=k)(j:k<=s.length)(hk:F4 (s.take k.toNat))(h:SA (s,n,k,b)=some (.inl y)):y.1.length<=1000/\(F4 y.1->F4 s):=by
 unfold SA at h;dsimp only at h;rcases FF h with⟨_,h⟩|⟨_,h⟩
 .obtain⟨r,l,h⟩:=EM h;obtain⟨c0,q,t⟩:=WJ QT TC i j o hk l;obtain⟨_,_,h⟩:=EM h;obtain⟨_,_,h⟩:=EM h;rcases FF h with⟨_,h⟩|⟨_,h⟩
  .cases h
  .obtain⟨d,a,h⟩:=EM h;rw[RC (n:=k+r) oa oa]at a;obtain⟨_,_,_,e⟩:=TD a;rw[AK,AG]at e;have h:d=y.1:=congrArg Prod.fst (Sum.inl.inj (A2 h));grind[List.length_drop,WI]
 grind
theorem AZ0{v:Sg}{s:DX}{q:DX×Bool×Sg}(N:s.length<=1000)(h:U_ (v,s)=some q)(Z:q.2.1=true):q.1.length<=1000/\(F4 q.1->F4 s):=by
 unfold U_ at h;dsimp only at h;obtain⟨r,J,h⟩:=EM h;have key:=TE (r:=gL) (λx=>x.2.1.length<=1000/\(F4 x.2.1->F4 s)) (Q:=λr=>r.2.2=true->r.2.1.length<=1000/\(F4 r.2.1->F4 s)) (λnext x y Y M a=>?_) fuel _ r ⟨N,id⟩ J
 .grind
 .obtain⟨X,s1,w⟩:=x;obtain⟨i0,t⟩:=M;dsimp only at i0 t;unfold gL at a;dsimp only at a;obtain⟨W,D,a⟩:=EM a;obtain⟨m0,m1,Q⟩:=ACb D;obtain⟨B,E,a⟩:=EM a;obtain⟨_,_,_,k⟩:=TD E;rw[AK,AG]at k;obtain⟨A,G,a⟩:=EM a;rcases FF a with⟨_,a⟩|⟨e,a⟩
  .grind
  .rcases FF a with⟨_,a⟩|⟨_,a⟩
   .grind
   .have e:A.1≠[]:=by simpa[E4]using e
    obtain⟨V,p2⟩:=(AYx G).resolve_left e;obtain⟨p3,p4⟩:=AYy V;have K:B.length<=1000:=by rw[k,BU];omega
    have i:F4 B->F4 s:=λO=>t (WI W.toNat Q oc);obtain⟨C,H,a⟩:=EM a;obtain⟨_,_,_,l⟩:=TD H;rw[AK,AK,AG]at l;have j:C.length<=1000:=by rw[l,BU];omega
    have L:F4 C->F4 s:=λO=>i (WI A.1.length oc oc);obtain⟨r5,I,a⟩:=EM a;obtain⟨R,T,U⟩:=ACb I;obtain⟨_,_,a⟩:=EM a;obtain⟨_,_,a⟩:=EM a;obtain⟨z,b,a⟩:=EM a;rcases z with d|d
    .obtain⟨q1,q2⟩:=AYz j R T U b;grind
    .have a:some (X,d.1,d.2)=some y:=a;rw[<-A2 a];intro o;have o:d.2=true:=o;unfold SA at b;dsimp only at b;rcases FF b with⟨_,b⟩|⟨_,b⟩
     .obtain⟨_,_,b⟩:=EM b;obtain⟨_,_,b⟩:=EM b;obtain⟨_,_,b⟩:=EM b;rcases FF b with⟨_,b⟩|⟨_,b⟩
      .grind
      .obtain⟨_,_,b⟩:=EM b;cases b
     .cases b
theorem AZ1{s:DX}{q:List Int×DX×Bool}(I:s.length<=1000)(h:UY s=some q)(Q:q.2.2=true):q.2.1.length<=1000/\(F4 q.2.1->F4 s):=by
 unfold UY at h;obtain⟨r,E,h⟩:=EM h;have key:=TE (r:=gE) (λx=>x.1.length<=1000/\(F4 x.1->F4 s)) (Q:=λr=>r.2.2=true->r.2.1.length<=1000/\(F4 r.2.1->F4 s)) (λnext x y J H a=>?_) fuel _ r ⟨I,id⟩ E
 .grind
 .obtain⟨R,o⟩:=x;obtain⟨i0,z⟩:=H;dsimp only at i0 z;unfold gE at a;dsimp only at a;obtain⟨M,C,a⟩:=EM a;obtain⟨c0,B,t⟩:=WJ QT TC (AR _) oa i0 (by rw[show(0:Int).toNat=0 from rfl,CE];exact OO) C;rw[Int.zero_add]at B t;obtain⟨_,_,a⟩:=EM a;obtain⟨_,_,a⟩:=EM a;rcases FF a with⟨_,a⟩|⟨_,a⟩
  .grind
  .obtain⟨_,_,a⟩:=EM a;obtain⟨b,D,a⟩:=EM a;obtain⟨_,_,_,v⟩:=TD D;rw[AK,AG]at v;have G:b.length<=1000:=by rw[v,BU];omega
   have j:F4 b->F4 s:=λK=>z (WI M.toNat t oc);obtain⟨l,w,a⟩:=EM a;obtain⟨_,_,a⟩:=EM a;obtain⟨_,_,a⟩:=EM a;rcases FF a with⟨_,a⟩|⟨L,a⟩
   .grind
   .obtain⟨N,_⟩:=B0.1 L;obtain⟨O,A⟩:=B0.1 N;rw[O,BW,A8]at w;obtain⟨_,_,i⟩:=at_some w;have i:b[0]?=some l:=i;have A:(l.toNat:Int)=46:=by simpa[E0]using A
    obtain⟨k,d,a⟩:=EM a;obtain⟨_,_,_,e⟩:=TD d;rw[AK,AG]at e;have e:k=b.drop (0+1):=e;refine J _ y ?_ a;dsimp only;refine⟨oc,λK=>j (bR (i:=0) i (by unfold GN;omega) (by rw[CE];exact OO) oc)⟩
theorem AZ2{s:DX}{q:List DX×Bool}(W:s.length<=1000)(h:V1 s=some q)(X:q.2=true):F4 s:=by
 unfold V1 at h;obtain⟨l,e,h⟩:=EM h;obtain⟨E,J,h⟩:=EM h;have N:∀c,Tot ((λx=>(QH x).bind λr=>some r) c) λ_=>True:=λc=>⟨_,rfl,trivial⟩;obtain⟨G,A⟩:=LC (ABK (s,λx=>(QH x).bind λr=>some r) ⟨oc,N⟩) e;dsimp only at G A
 have key:=TE (r:=gM) (λx=>x.2.1=l/\x.2.2.1=(l.length:Int)/\0<=x.2.2.2/\x.2.2.2<=l.length/\∀ p∈l.take x.2.2.2.toNat,F4 p) (Q:=λr=>match r with
  | .inl _=>∀p∈l,F4 p
  | .inr y=>y.2=false) (λnext x y M K a=>?_) fuel _ E ⟨rfl,rfl,AR _,B6 _,oe⟩ J
 .rcases E with U|U
  .have key:∀p∈l,F4 p:=key;unfold S0 at e
   have C:∀c∈s,c.toNat<128->(λr:Nat=>(((QH (r:Int)).bind λr=>some r)).getD false) c.toNat=false->GN c:=λc j d L=>by
    obtain⟨b,V,z⟩:=AYv (λr=>(((QH (r:Int)).bind λr=>some r)).getD false) s j d L;unfold HI at e;rcases FF e with⟨_,e⟩|⟨_,e⟩
    .have e:=A2 e;refine key b.data.toList ?_ c z;rw[<-e];grind
    .cases e
   intro c j;grind[QH,bind,E0,GN]
  grind
 .obtain⟨n,t,k,i⟩:=x;obtain⟨v,w,i0,Q,R⟩:=K;have v:t=l:=v;have w:k=(l.length:Int):=w;subst v w;dsimp only at i0 Q R;unfold gM at a;dsimp only at a;rcases FF a with⟨d,a⟩|⟨d,a⟩
  .have d:=A5 d;obtain⟨o,H,a⟩:=EM a;obtain⟨_,_,B⟩:=at_some H;have O:o.length<=1000:=by have:=A o (AI B);omega
   obtain⟨_,_,a⟩:=EM a;obtain⟨T,I,a⟩:=EM a;rcases FF a with⟨_,a⟩|⟨j,a⟩
   .grind
   .have j:=(B0.1 j).1;have j:T=(o.length:Int):=by simpa[E0]using j
    have Y:F4 o:=(LC (bQ AYc AYa (AR _) oa oa) I).2.2.2 j;rw[RC (n:=i+1) oa oa]at a;refine M _ y ?_ a;refine⟨rfl,rfl,oc,oc,λp D=>?_⟩;dsimp only at D;rw[show(i+1).toNat=i.toNat+1 by omega,FN B,AS,AJ]at D;grind
  grind[of_decide_eq_false,List.take_length]
theorem AZ3{s:DX}{v:Vr}(hl:s.length<=1000)(h:V3 s=some (v,true)):F4 s:=by
 unfold V3 at h;obtain⟨j,q,h⟩:=EM h;have q:some (Lib.trimPrefix s [118])=some j:=q;have z:Lib.trimPrefix s [118]=j:=A2 q;have t:F4 j->F4 s:=λJ=>ACa (p:=[118]) (λc i=>by simp_all[AJ,GN]) oc;have w:j.length<=1000:=by have:=trimPrefix_len s [118];rw[z]at this;omega
 obtain⟨D,V,h⟩:=EM h;obtain⟨c0,L,M⟩:=WJ QT TC (AR _) oa w (by rw[show(0:Int).toNat=0 from rfl,CE];exact OO) V;rw[Int.zero_add]at L M;obtain⟨K,H,h⟩:=EM h;obtain⟨Y,a,h⟩:=EM h;rcases Y with y|y
 .have W:y.1.length<=1000/\(F4 y.1->F4 s):=by
   unfold V2 at a;dsimp only at a;rcases FF a with⟨i,a⟩|⟨_,a⟩
   .obtain⟨k,E⟩:=BA.1 i;rw[k,A8]at H;obtain⟨_,_,g4⟩:=at_some H;have E:(K.toNat:Int)=33:=by simpa[E0]using E
    obtain⟨_,_,a⟩:=EM a;obtain⟨_,_,a⟩:=EM a;rcases FF a with⟨_,a⟩|⟨_,a⟩
    .cases a
    .obtain⟨Z,G,a⟩:=EM a;have k:=A5 k;rw[RC (n:=D+1) oa oa]at G;obtain⟨_,_,_,R⟩:=TD G;rw[AK,AG,show(D+1).toNat=D.toNat+1 by omega]at R;have a:Z=y.1:=congrArg Prod.fst (Sum.inl.inj (A2 a));grind[List.length_drop,bR,GN]
   .grind
  obtain⟨A,B⟩:=W;dsimp only at h;obtain⟨X,l,h⟩:=EM h;rcases FF h with⟨_,h⟩|⟨J,h⟩
  .cases h
  .obtain⟨N,Q⟩:=AZ1 A l (by simpa using J);obtain⟨r,o,h⟩:=EM h;rcases FF h with⟨_,h⟩|⟨x,h⟩
   .cases h
   .obtain⟨g1,T⟩:=AZ0 N o (by simpa using x);refine B (Q (T ?_));obtain⟨d,b,h⟩:=EM h;have b:some (Lib.trimPrefix r.1 [43],Lib.hasPrefix r.1 [43])=some d:=b;have b:=A2 b;rcases FF h with⟨_,h⟩|⟨_,h⟩
    .obtain⟨C,U,h⟩:=EM h;have h:C.2=true:=congrArg Prod.snd (A2 h);have I:=trimPrefix_len r.1 [43];have O:Lib.trimPrefix r.1 [43]=d.1:=congrArg Prod.fst b;refine ACa (p:=[43]) (λc i=>by simp_all[AJ,GN]) ?_;grind[AZ2]
    .have h:E5 r.1 []=true:=congrArg Prod.snd (A2 h);grind[E4,OO]
 .have h:some (y.1,y.2)=some (v,true):=h;have e:y.2=true:=congrArg Prod.snd (A2 h);unfold V2 at a;dsimp only at a;rcases FF a with⟨i,a⟩|⟨_,a⟩
  .obtain⟨_,_,a⟩:=EM a;obtain⟨_,_,a⟩:=EM a;rcases FF a with⟨_,a⟩|⟨_,a⟩
   .grind
   .obtain⟨_,_,a⟩:=EM a;cases a
  .cases a
theorem AZ4{k:Int}{s:DX}{v:Vr}(h:IY (k,s)=some (v,0)):F4 s/\s.length<=100:=by
 unfold IY at h;rcases FF h with⟨_,h⟩|⟨_,h⟩
 .cases h
 rcases FF h with⟨_,h⟩|⟨b,h⟩
 .cases h
 have b:=(B0.1 b).2;have b:=AF b;have e:s.length<=100:=oa
 refine⟨?_,e⟩
 have d:∀{r:Vr×Bool},(bif !r.2 then some ((Sum.inr (Sum.inr (Sum.inr (Sum.inr (Sum.inr ()))))),(6:Int))else some (r.1,(0:Int)))=some (v,0)->r=(v,true):=λ{r} h=>by
  grind
 rcases FF h with⟨_,h⟩|⟨_,h⟩
 .obtain⟨r,a,h⟩:=EM h;grind[AYl]
 rcases FF h with⟨_,h⟩|⟨_,h⟩
 .obtain⟨r,a,h⟩:=EM h;grind[AYp]
 rcases FF h with⟨_,h⟩|⟨_,h⟩
 .obtain⟨u,i,h⟩:=EM h;obtain⟨r,a,h⟩:=EM h;grind[LC,A0H,AYt,AZ3]
 rcases FF h with⟨_,h⟩|⟨_,h⟩
 .obtain⟨r,a,h⟩:=EM h;grind[AYr]
 rcases FF h with⟨_,h⟩|⟨_,h⟩
 .obtain⟨r,a,h⟩:=EM h;grind[AYj]
 .cases h
theorem ACc{k:Int}{w:DX}(h:Ok k w):F4 w/\w.length<=100:=let ⟨_,h1,_⟩:=h;AZ4 h1
def K1(n:Int):Int:=if 65<=n/\n<=90 then n+32 else n
def K2(s:DX):DX:=HA ((FL s).map K1)
theorem ACd(n:Int):K1 (K1 n)=K1 n:=by
 unfold K1;omega
theorem AZ5(b:List Int)(D:b.length<=1048576)(E:∀n∈b,0<=n/\n<=255):e_ (b,(b.length:Int),0)=some (b.map K1):=by
 refine GY (Tot.mono ?_ λq y=>y);refine FH (σ:=List Int) b.length (λx i=>(x,(b.length:Int),i)) (λi x=>x=(b.take i).map K1++b.drop i) oa (λnext x i o r a=>?_) (λnext x r=>?_) b oe
 .have A:x.length=b.length:=by rw[r,AE,AN,AY,BU];omega
  have s:x[i]?=some b[i]:=by
   rw[r,BG oc,AN,AY,B5,show i+(i-min i b.length)=i by omega];exact A1 o
  have w:x.getD i 0=b[i]:=by rw[AD,s];rfl
  have h:∀z,z=K1 b[i]->x.set i z=(b.take (i+1)).map K1++b.drop (i+1):=λz B=>by
   rw[r,B,List.set_append_right _ _ oc,AN,AY,show i-min i b.length=0 by omega,C5 o,List.set_cons_zero,FN (A1 o),BL,CF];rfl
  unfold eZ;dsimp only;rw[EK,A4 o,A8,AK,w,FD oa];refine DY.2 (FJ.2 ⟨⟨oa,oa⟩,?_⟩);refine D_.2 ⟨λl=>?_,λl=>?_⟩
  .obtain⟨d,k⟩:=BA.1 l;have d:=A5 d;have k:=A5 k;refine DY.2 (FJ.2 ⟨⟨oa,oa⟩,?_⟩);refine a _ (h _ ?_);have C:IntKind.u8.wrap (b[i]+97)=b[i]+97:=by unfold IntKind.wrap;simp[IntKind.signed,IntKind.bits];omega
   rw[C];have G:IntKind.u8.wrap (b[i]+97-65)=b[i]+32:=by unfold IntKind.wrap;simp[IntKind.signed,IntKind.bits];omega
   simp_all[K1,if_pos]
  .refine a _ ?_
   have:K1 b[i]=b[i]:=by
    unfold K1;rw[if_neg];rintro⟨d,k⟩;rw[A4 d,A4 k]at l;cases l
   have t:=h b[i] this.symm
   have v:x.set i b[i]=x:=by
    refine BI λj=>?_;rw[List.getElem?_set];by_cases e:i=j
    .grind
    .rw[if_neg e]
   rw[<-t,v]
 .unfold eZ;simp_all[EK,A7,AC,AA,DZ,AG,List.drop_length,CG]
theorem ACe(s:DX):∀n∈FL s,0<=n/\n<=255:=λn h=>by
 obtain⟨c,_,rfl⟩:=B1.1 h;have:=c.toNat_lt;omega
theorem ACf(s:DX)(h:s.length<=1048576):P1 s=some (K2 s):=by
 unfold P1;rw[AZ5 _ (by rw[EA];exact h) (ACe s),A0];unfold cat?;rw[A4 (by rw[EB,AN,EA,BR];omega)];rfl
theorem ACg(l:List Int)(h:∀n∈l,0<=n/\n<=255):FL (HA l)=l:=by
 unfold FL HA;rw[List.map_map];conv=>rhs;rw[<-List.map_id l]
 refine List.map_congr_left λn a=>?_;have:=h n a;show((UInt8.ofNat _).toNat)=n;have e:(UInt8.ofNat n.toNat).toNat=n.toNat % 256:=oe
 omega
theorem ACh(s:DX):∀n∈(FL s).map K1,0<=n/\n<=255:=λn a=>by
 obtain⟨m,h,rfl⟩:=B1.1 a;have:=ACe s m h;grind[K1]
theorem AZ6(s:DX):(K2 s).length=s.length:=by unfold K2;rw[EB,AN,EA]
theorem AZ7(s:DX):K2 (K2 s)=K2 s:=by
 unfold K2;rw[ACg _ (ACh s),List.map_map];grind[List.map_congr_left,ACd]
theorem AZ8{s:DX}(h:∀n∈FL s,K1 n=n):K2 s=s:=by
 unfold K2
 rw [show (FL s).map K1=FL s from by
  grind[List.map_id,FL,List.map_congr_left]]
 unfold HA FL;rw[List.map_map];conv=>rhs;rw[<-List.map_id s]
 refine List.map_congr_left λc _=>?_;simp
theorem AZ9{s:DX}{c:UInt8}(hc:c∈K2 s):K1 (c.toNat:Int)=(c.toNat:Int):=by
 have:(c.toNat:Int)∈FL _:=B1.2 ⟨c,hc,rfl⟩;unfold K2 at this;rw[ACg _ (ACh s)]at this;obtain⟨m,_,e⟩:=B1.1 this;grind[ACd]
def K3(c:UInt8):Bool:=(E1 (c.toNat:Int) 45||E1 (c.toNat:Int) 95)||E1 (c.toNat:Int) 46
def GQ:Bool->DX->DX
 |_,[]=>[]
 |p,c::r=>bif K3 c then(bif p then GQ true r else 45::GQ true r)else c::GQ false r
theorem AZA:∀s:DX,GQ true (GQ true s)=GQ true s/\GQ false (GQ true s)=GQ true s/\GQ false (GQ false s)=GQ false s:=by
 intro s;induction s with
 |nil=>exact⟨rfl,rfl,rfl⟩
 |cons c r i=>
  obtain⟨d,j,k⟩:=i;have a:K3 45=true:=oi
  cases h:K3 c with
  |true=>
   have e:GQ true (c::r)=GQ true r:=by simp only[GQ,h,A8]
   have b:GQ false (c::r)=45::GQ true r:=by simp only[GQ,h,A8,AA]
   simp_all[K3,GQ,A8,AA]
  |false=>
   simp_all[GQ,AA]
theorem AZB:∀(p:Bool) (s:DX),(GQ p s).length<=s.length:=by
 intro p s;induction s generalizing p with
 |nil=>exact AH _
 |cons c r i=>
  have a:=i true;have b:=i false;simp only[GQ];grind
theorem AZC{P:UInt8->Prop}(d:P 45):∀(p:Bool) (s:DX),(∀c∈s,P c)->∀c∈GQ p s,P c:=by
 intro p s;induction s generalizing p with
 |nil=>intro _ c b;cases b
 |cons a r i=>
  intro h c b;have e:=λc b=>h c (AP _ b);simp only[GQ]at b;grind
theorem AZD:∀(s:DX) (p:Bool) (c:UInt8),GQ p (s++[c])=GQ p s++(bif K3 c then(bif (match s.getLast? with|some a=>K3 a|none=>p)then []else [45])else [c]):=by
 intro s;induction s with
 |nil=>
  grind[K3,GQ]
 |cons a r i=>
  intro p c
  have h:∀q:Bool,(match(a::r).getLast? with|some x=>K3 x|none=>q)=(match r.getLast? with|some x=>K3 x|none=>K3 a):=λq=>by
   grind
  rw[h];simp only[List.cons_append,GQ];grind
theorem AZE(s:DX)(C:s.length<=1048576):fX (s,[],(s.length:Int),0)=some (FL (GQ false s)):=by
 refine GY (Tot.mono ?_ λq v=>v);refine FH (σ:=List Int) s.length (λx i=>(s,x,(s.length:Int),i)) (λi x=>x=FL (GQ false (s.take i))) oa (λnext x i j l t=>?_) (λnext x l=>?_) [] (by rfl)
 .have w:x.length<=i:=by
   rw[l,EA];exact AT (AZB _ _) oc
  have k:=AZD (s.take i) false s[i];rw[<-FN (A1 j)]at k
  have D:∀n:Int,(MC (x,n))=some ((),x++[n]):=λn=>by
   unfold MC YF app?;grind
  unfold fW;dsimp only;have h:∀c:UInt8,UQ (c.toNat:Int)=some (K3 c):=λc=>rfl;rw[EK,A4 j,A8,F8 (A1 j),A0,h,A0,FD oa];cases A:K3 s[i]with
  |false=>
   simp_all[BW,A8,A0,AA,FL,BL]
  |true=>
   rw[BS,AA]
   have b:∃d:UInt8,(bif (!(E1 (i:Int) (0:Int)))then at? s (IntKind.i64.wrap ((i:Int)-(1:Int)))else some 0)=some d/\(bif (!(E1 (i:Int) (0:Int)))then some (K3 d)else some false)=some (match(s.take i).getLast? with|some a=>K3 a|none=>false):=by
    by_cases r:i=0
    .subst r;exact⟨0,rfl,rfl⟩
    .have o:(!(E1 (i:Int) (0:Int)))=true:=by rw[E0,A7 oa];rfl
     refine⟨s[i-1],?_,?_⟩
     .rw[o,A8,EQ oa oa,show(i:Int)-1=((i-1:Nat):Int) by omega];exact F8 (A1 oa)
     grind
   obtain⟨d,y,z⟩:=b;rw[y,A0,h,z,A0]
   have e:∀m:Bool,(E1 (i:Int) 0|| !(match(s.take i).getLast? with|some a=>K3 a|none=>false))= !(match(s.take i).getLast? with|some a=>K3 a|none=>false):=λ_=>by
    grind
   rw[e true];cases B:(match(s.take i).getLast? with|some a=>K3 a|none=>false)with
   |true=>
    grind
   |false=>
    simp_all[BW,A8,A0,AA,FL,BL]
 simp_all[fW,EK,A7,AC,AA,DZ,AG]
theorem AZF(s:DX):HA (FL s)=s:=by
 unfold HA FL;rw[List.map_map];conv=>rhs;rw[<-List.map_id s]
 refine List.map_congr_left λc _=>?_;simp
theorem ACi(s:DX)(h:s.length<=1048576):UR s=some (GQ false s):=by
 simp_all[UR,AZE,A0,O8,AZF]
theorem AZG(s:DX):K2 (GQ false (K2 s))=GQ false (K2 s):=by
 refine AZ8 λn a=>?_;obtain⟨c,h,rfl⟩:=B1.1 a;exact AZC oi false _ (λc h=>AZ9 h) c h
def IE(p:Pu)(v:DX):Pu:=(p.1,p.2.1,p.2.2.1,v,p.2.2.2.2)
theorem ACj(l:List DX)(k:l.length<=1000):Tot (fQ (l,(l.length:Int),0)) (λq=>match q with
 | .inl _=>∀y∈l,y.length<=200
 | .inr b=>b=true/\∃y∈l,200<y.length):=by
 refine FH l.length (λ_ i=>(l,(l.length:Int),i)) (λi _=>∀y∈l.take i,y.length<=200) oa (λnext _ i a d e=>?_) (λnext _ d=>?_) () oe
 .unfold fP;dsimp only;rw[EK,A4 a,A8,F8 (A1 a),FD oa];refine D_.2 ⟨λh=>DZ.2 ⟨rfl,_,AU a,oc⟩,λh=>e () λy j=>?_⟩;have h:=AF h;rw[FN (A1 a),AS,AJ]at j;grind
 simp_all[fP,EK,A7,AC,AA,AG,DZ]
theorem AZH(s:DX)(z:s.length<=1048576):Tot (UP s) (λb=>(b=false<->F4 s)):=by
 refine DY.2 (Tot.mono (P:=λq:Sum Unit Bool=>match q with
  | .inl _=>F4 s
  | .inr b=>b=true/\¬F4 s) ?_ λq x=>?_)
 .refine FH s.length (λ_ i=>(s,(s.length:Int),i)) (λi _=>F4 (s.take i)) oa (λnext _ i a l v=>?_) (λnext _ l=>?_) () (by simp[F4])
  .unfold fT;dsimp only;rw[EK,A4 a,A8,F8 (A1 a),A0,FD oa]
   have j:∃d,(bif (!(decide ((s[i].toNat)<(32:Int))))then some s[i]else some 0)=some d/\(¬s[i].toNat<32->d=s[i]):=by
    by_cases h:s[i].toNat<32
    .exact⟨0,oc,λt=>absurd h t⟩
    .exact⟨s[i],oc,λ_=>rfl⟩
   obtain⟨d,o,r⟩:=j;rw[o];refine D_.2 ⟨λh=>DZ.2 ⟨rfl,λw=>?_⟩,λh=>v () ?_⟩
   .have:=w s[i] (AU a);unfold GN at this;rw[BK,AW,E0,AW]at h;grind
   .obtain⟨k,e⟩:=B0.1 h;have k:=AF k;have e:=AF e;rw[r oa]at e;rw[FN (A1 a)];exact mZ l λc y=>by grind[List.mem_singleton,GN]
  simp_all[fT,EK,A7,AC,AA,AG,DZ]
 .rcases q with q|q
  .exact DZ.2 ⟨λ_=>x,λ_=>rfl⟩
  grind[DZ,absurd]
theorem ACk(l:List DX)(r:l.length<=1000)(d:∀y∈l,y.length<=1048576):Tot (fV (l,(l.length:Int),0)) (λq=>match q with
 | .inl _=>∀y∈l,F4 y
 | .inr e=>e=8/\∃y∈l,¬F4 y):=by
 refine FH l.length (λ_ i=>(l,(l.length:Int),i)) (λi _=>∀y∈l.take i,F4 y) oa (λnext _ i a j k=>?_) (λnext _ j=>?_) () oe
 .unfold fU;dsimp only;rw[EK,A4 a,F8 (A1 a),A0,FD oa];refine DY.2 ((AZH l[i] (d _ (AU a))).mono λb d=>D_.2 ⟨λh=>DZ.2 ⟨rfl,_,AU a,λs=>?_⟩,λh=>k () λy o=>?_⟩)
  .grind
  .rw[FN (A1 a),AS,AJ]at o;grind
 simp_all[fU,EK,A7,AC,AA,AG,DZ]
theorem AZI{p:Pu}(h:S5 p=some false){v:DX}(b:v.length<=200):S5 (IE p v)=some false:=by
 unfold S5 at h ⊢;dsimp only[IE]at h ⊢;obtain⟨r,a,h⟩:=EM h;have k:=LC (ACj _ oe) a;obtain⟨q,d,hk⟩:=ACj [p.2.1,p.2.2.1,v,p.2.2.2.2.2] oe;grind
theorem AZJ{p:Pu}(h:JS p=some 0){v:DX}(M:F4 v)(I:v.length<=200)(x:p.2.2.2.2.1.length<=1048576):JS (IE p v)=some 0:=by
 obtain⟨_,D,E,G,H,_⟩:=LC (S_ p x) h rfl;unfold JS at h ⊢;dsimp only[IE]at h ⊢;obtain⟨N,y,h⟩:=EM h;rw[y,A0];rcases FF h with⟨i,h⟩|⟨i,h⟩
 .grind
 rw[i,AA];obtain⟨O,w,h⟩:=EM h;rcases FF h with⟨j,h⟩|⟨j,h⟩
 .cases h
 rw[j]at w;have a:=AZI w I;dsimp only[IE]at a;rw[a,A0,AA];rcases FF h with⟨l,h⟩|⟨l,h⟩
 .cases h
 rw[l,AA];obtain⟨Q,z,h⟩:=EM h;rw[z,A0];obtain⟨R,A,h⟩:=EM h;rw[A,A0];rcases FF h with⟨o,h⟩|⟨o,h⟩
 .cases h
 rw[o,AA];obtain⟨T,B,h⟩:=EM h;rw[B,A0];rcases FF h with⟨r,h⟩|⟨r,h⟩
 .cases h
 rw[r,AA];obtain⟨U,C,h⟩:=EM h;rw[C,A0];rcases FF h with⟨s,h⟩|⟨s,h⟩
 .grind
 rw[s,AA];obtain⟨J,b,h⟩:=EM h;rw[b,A0];obtain⟨K,d,h⟩:=EM h;rw[d,A0];rcases FF h with⟨t,h⟩|⟨t,h⟩
 .cases h
 rw[t,AA];obtain⟨L,e,h⟩:=EM h
 have k:=LC (ACk _ oe (by
  grind)) e
 obtain ⟨q,x,hk⟩:=ACk [p.2.1,p.2.2.1,v,p.2.2.2.2.2] oe (by
  grind)
 grind
def PL(sm da:Bool)(p:Pu):Pu:=
 (p.1,(bif sm then K2 p.2.1 else p.2.1),(bif da then GQ false (bif sm then K2 p.2.2.1 else p.2.2.1)else(bif sm then K2 p.2.2.1 else p.2.2.1)),p.2.2.2)
theorem AZK(sm d:Bool)(p:Pu):PL sm d (PL sm d p)=PL sm d p:=by
 unfold PL;cases sm<;>cases d<;>simp only[A8,AA,AZ7,AZG,(AZA _).2.2]
theorem AZL(sm d:Bool)(p:Pu)(v:DX):PL sm d (IE p v)=IE (PL sm d p) v:=rfl
theorem A0v{p:Pu}{r:(DX×Int×Bool×Bool×Int)×Int}(i:S4 p.1=some r)(d:p.2.1.length<=1048576)(b:p.2.2.1.length<=1048576)(a:p.2.2.2.2.1.length<=1048576):KD p=some (PL r.1.2.2.1 r.1.2.2.2.1 p):=by
 have h:∀l:List (DX×DX),l.length<=1048576->app? 48 [] l=some l:=λl j=>by
  grind[app?,decide_eq_true,List.length_nil]
 unfold KD US;dsimp only;rw[i,A0];cases k:r.1.2.2.1 with
 |true=>
  rw[A8,ACf _ d,A0,ACf _ b,A0,A0];cases e:r.1.2.2.2.1 with
  |true=>rw[ACi _ (by rw[AZ6];exact b),h _ a];rfl
  |false=>rw[h _ a];rfl
 |false=>
  rw[AA,A0];cases e:r.1.2.2.2.1 with
  |true=>rw[ACi _ b,h _ a];rfl
  |false=>rw[h _ a];rfl
theorem AZM{a b:Pu}{i:Int}{q}(h:fY (a,b,i)=some (.inr q)):q.2.2=5:=by
 have:=TE (λ_=>True) (Q:=λq=>match q with
  | .inl _=>True
  | .inr y=>y.2.2=5) (λnext x y e _ d=>?_) fuel _ _ trivial h
 .exact this
 .unfold sG at d;rcases FF d with⟨_,d⟩|⟨_,d⟩
  .obtain⟨_,_,d⟩:=EM d;obtain⟨_,_,d⟩:=EM d;rcases FF d with⟨_,d⟩|⟨_,d⟩<;>grind
  grind
theorem ACl{B:DX}(V:B.length<=1048576)(hk:(H6 B).2=true):∃(p:Pu) (n:Int),MD B=some (p,n,0)/\∀v,F4 v->v.length<=100->
 QL (p,v)=some (IE p v,0)/\JS (IE p v)=some 0/\KD (IE p v)=some (IE p v)/\JT (IE p v)=some (B,0):=by
 obtain⟨p,n,j,H⟩:=A0b V hk;refine⟨p,n,j,λv hv hl=>?_⟩;have d:=QZ B V;unfold NB at d;rw[j,A0]at d;dsimp only at d;rw[show(!(E1 (0:Int) 0))=false from rfl,AA]at d;obtain⟨W,N,d⟩:=EM d;rcases FF d with⟨_,d⟩|⟨R,d⟩
 .grind
 obtain⟨I,J⟩:=B0.1 R;have X:W.2=0:=by simpa[E0]using I
 have Y:W.1=B:=by simpa[E4]using J
 have o:JT p=some (B,0):=by rw[N,<-X,<-Y]
 have k:JS p=some 0:=by
  have i:=o;unfold JT at i;obtain⟨c,R,i⟩:=EM i;rcases FF i with⟨Z,h2⟩|⟨Z,_⟩
  .grind
  .grind[E0]
 obtain⟨_,h0,h3,h4,h6,h7,_⟩:=LC (S_ p H) k rfl;obtain⟨r,U,_⟩:=aY p.1 trivial
 have t:PL r.1.2.2.1 r.1.2.2.2.1 p=p:=by
  unfold MD at j;rcases FF j with⟨_,h⟩|⟨_,h⟩
  .cases h
  obtain⟨r2,_,h⟩:=EM h;rcases FF h with⟨_,h⟩|⟨_,h⟩
  .grind
  obtain⟨r4,_,h⟩:=EM h;obtain⟨r8,h8,h⟩:=EM h;rcases r8 with C|C
  .dsimp only at h;obtain⟨O,x,h⟩:=EM h;rcases FF h with⟨D,h⟩|⟨D,h⟩
   .grind
   .obtain⟨Q,y,h⟩:=EM h;have e:Q=p:=congrArg Prod.fst (A2 h)
    have x:JS C.2=some 0:=by
     have:O=0:=by simpa[E0]using D
     rw[<-this];exact x
    have y:KD C.2=some p:=by rw[<-e];exact y
    obtain⟨r',M,_⟩:=aY C.2.1 trivial
    have L:C.2.2.2.2.2.1.length<=1048576:=by
     have q:=y;unfold KD US at q;dsimp only at q;rw[M,A0]at q
     have T:∀l:List (DX×DX),∀G,app? 48 [] l=some G->l.length<=2000000000000/\G=l:=λl G he=>by
      obtain⟨a,b⟩:=FT.1 (show Tot (app? 48 [] l) (λz=>z=G)from⟨G,he,rfl⟩);grind
     obtain⟨z,w,q⟩:=EM q
     have h9:z.2.2.2.2.1=C.2.2.2.2.2.1:=by
      rcases FF w with⟨_,w⟩|⟨_,w⟩
      .obtain⟨_,_,w⟩:=EM w;obtain⟨_,_,w⟩:=EM w;grind
      .rw[<-A2 w]
     rcases FF q with⟨_,q⟩|⟨_,q⟩
     .obtain⟨_,_,q⟩:=EM q;obtain⟨l6,K,q⟩:=EM q;grind
     .obtain⟨l6,K,q⟩:=EM q;grind
    obtain⟨_,d1,d2,_⟩:=LC (S_ C.2 L) x rfl;grind[A0v,PL,Option.some.inj,AZK]
  .have h5:=AZM h8;grind
 have E:JS (IE p v)=some 0:=AZJ k hv oa H
 have s:KD (IE p v)=some (IE p v):=by
  rw[A0v (p:=IE p v) U (by show p.2.1.length<=_;omega) (by show p.2.2.1.length<=_;omega) H,AZL,t]
 have A:KD p=some p:=by
  rw[A0v U oa oa H,t]
 refine⟨?_,E,s,?_⟩
 .unfold QL SI;dsimp only;rw[k,A0,show(!(E1 (0:Int) 0))=false from rfl,AA];have e:(p.1,(p.2.1,(p.2.2.1,(v,p.2.2.2.2))))=IE p v:=rfl;grind
 .unfold JT at o ⊢;rw[k,A0,show(!(E1 (0:Int) 0))=false from rfl,AA,A,A0]at o;rw[E,A0,show(!(E1 (0:Int) 0))=false from rfl,AA,s,A0];exact o
abbrev G6:=DX×Pu×List (DX×DX)×DX×List DX
abbrev HX:=DX×DX×Int
abbrev MR:=DX×DX×DX×List G6×List HX
theorem ACm(s:DX)(m:Int)(k:s.length<=1048576)(a:∀c∈s,33<=c.toNat/\c.toNat<=126)(e:s≠[])(j:(s.length:Int)<=m):SN (s,m)=some true:=by
 unfold SN
 have:xH (s,(s.length),0)=some (.inl ()):=by
  refine GY (FH s.length (λ_ i=>(s,(s.length:Int),i)) (λ_ _=>True) oa (λnext _ i h _ d=>?_) (λnext _ _=>?_) () trivial)
  .unfold xG;dsimp only;have b:=a s[i] (AU h);rw[EK,A4 h,A8,F8 (A1 h),A0,FD oa,A7 (show ¬(s[i].toNat:Int)<33 by omega),BW,A8,A0,CD,A7 (show ¬(126)<(s[i].toNat:Int) by omega)];exact d () trivial
  .unfold xG;dsimp only;rw[EK,A7 (AC _)];exact DZ.2 rfl
 simp_all[A0,E4,A7,A4]
structure CoOk(c:G6):Prop where
 ref:SN (c.1,100)=some true
 purl:JS c.2.1=some 0
 dig:c.2.2.1=[]
 lic:c.2.2.2.1=[]
 files:c.2.2.2.2=[]
theorem AZN:∃n,fuel=n+1:=⟨fuel-1,by rfl⟩
theorem AZO{c:G6}(h:CoOk c)(k:Bool×List (DX×Bool)):j_ (k,c)=some 0:=by
 obtain⟨ref,p,d,l,f⟩:=c;obtain⟨a,b,e,i,j⟩:=h;subst e i j;obtain⟨n,o⟩:=AZN;unfold j_;dsimp only at a b ⊢;rw[a,A0,BS,b,A0,show(!(E1 _ 0))=false from rfl];rfl
theorem ACn{α i:Type} [DecidableEq α]{eq:α->α->Bool}(j:∀x y,eq x y=decide (x=y))(k d:α)(v:i):∀m:List (α×i),FM eq k (FK eq d v m)=if k=d then some v else FM eq k m:=by
 intro m;induction m with
 |nil=>
  grind[FK,FM]
 |cons e r l=>
  obtain⟨a,b⟩:=e;simp only[FK];by_cases h:d=a
  .simp_all[decide_true,A8,FM]
  .simp only[A7 h,AA,FM,j,l];grind
def bT(cs:List G6):List (DX×Bool)->List (DX×Bool):=λm=>cs.foldl (λm c=>FK E5 c.1 true m) m
theorem ACo(k a:DX)(m:List (DX×Bool)):FM E5 k (FK E5 a true m)=if k=a then some true else FM E5 k m:=ACn E4 k a true m
theorem AZP(k:DX):∀(cs:List G6) (m:List (DX×Bool)),(∃c∈cs,c.1=k)\/FM E5 k m=some true->FM E5 k (bT cs m)=some true:=by
 intro cs;induction cs with
 |nil=>
  intro m h;rcases h with⟨c,b,_⟩|h
  .cases b
  .exact h
 |cons a cs i=>
  intro m h;refine i _ ?_;rcases h with⟨c,b,hk⟩|h
  .rcases B2.1 b with rfl|b
   .simp_all[ACo,if_pos]
   grind
  grind[ACo]
theorem AZQ(l:Bool)(b:MR)(x:b.2.2.2.1.length<=3000)(hc:∀c∈b.2.2.2.1,CoOk c)(w:l=false->b.2.2.2.1.Pairwise λa c=>a.1<c.1):
 xL ((l,[]),b,b.2.2.2.1,(b.2.2.2.1.length:Int),0)=some (.inl ((l,bT b.2.2.2.1 []),b)):=by
 refine GY (FH (σ:=List (DX×Bool)) b.2.2.2.1.length (λm i=>((l,m),b,b.2.2.2.1,(b.2.2.2.1.length:Int),i)) (λi m=>m=bT (b.2.2.2.1.take i) []) oa (λnext m i j t q=>?_) (λnext m t=>?_) [] rfl)
 .unfold xK;dsimp only;rw[EK,A4 j,A8,F8 (A1 j),A0,AZO (hc _ (AU j)),A0,show(!(E1 (0:Int) 0))=false from rfl,AA,FD oa]
  have d:=q (FK E5 b.2.2.2.1[i].1 true m) (by
   rw[t,FN (A1 j)];unfold bT;grind)
  refine DY.2 (Tot.mono (P:=λy=>(l=false/\0<i)->b.2.2.2.1[i-1]?=some y) (D_.2 ⟨λh=>?_,λh=>DZ.2 λ⟨k,e⟩=>?_⟩) λy r=>D_.2 ⟨λh=>?_,λ_=>d⟩)
  .obtain⟨k,e⟩:=BA.1 h;have e:=A5 e;rw[EQ oa oa];refine F0.2 ⟨⟨oa,oa⟩,λz A _=>?_⟩;simp_all
  .grind
  .exfalso;obtain⟨k,e⟩:=BA.1 h;obtain⟨o,s⟩:=BA.1 k;have o:l=false:=by simpa using o
   have s:=A5 s;have r:=r ⟨o,oa⟩;obtain⟨v,rfl⟩:=A9.1 r;grind[List.pairwise_iff_getElem,bD,decide,decide_eq_true]
 simp_all[xK,EK,A7,AC,AA,DZ,AG]
theorem AZR(k:Bool×List (DX×Bool))(l:List HX)(B:l.length<=20000)(t:∀e∈l,1<=e.2.2/\e.2.2<=4/\FM E5 e.1 k.2=some true/\FM E5 e.2.1 k.2=some true/\e.1≠e.2.1)
 (A:k.1=false->∀(i:Nat) (a b:HX),l[i]?=some a->l[i+1]?=some b->∃r,OG (a,b)=some r/\r<0):k9 (k,l)=some 0:=by
 unfold k9
 have:xJ (l,k,l,(l.length),0)=some (.inl ()):=by
  refine GY (FH l.length (λ_ i=>(l,k,l,(l.length:Int),i)) (λ_ _=>True) oa (λnext _ i j _ q=>?_) (λnext _ _=>?_) () trivial)
  .unfold xI;dsimp only;obtain⟨E,G,v,w,x⟩:=t _ (AU j);rw[EK,A4 j,F8 (A1 j),A0,A7 (show ¬l[i].2.2<1 by omega),A7 (show ¬4<l[i].2.2 by omega),Bool.or_self,v,w];rw[E4,A7 x,FD oa];have o:=q () trivial;refine DY.2 (Tot.mono (P:=λy=>(k.1=false/\0<i)->l[i-1]?=some y) (D_.2 ⟨λh=>?_,λh=>DZ.2 λ⟨s,d⟩=>?_⟩) λy C=>?_)
   .obtain⟨s,d⟩:=BA.1 h;have d:=A5 d;rw[EQ oa oa];refine F0.2 ⟨⟨oa,oa⟩,λz D _=>?_⟩;simp_all
   .grind
   grind
  .unfold xI;dsimp only;rw[EK,A7 (AC _),AA];exact DZ.2 rfl
 grind
structure BiOk(lo:Bool)(b:MR):Prop where
 name:b.1≠[]/\SM b.1=some true
 vers:SM b.2.1=some true
 few:b.2.2.2.1.length<=3000/\b.2.2.2.2.length<=20000
 comp:∀c∈b.2.2.2.1,CoOk c
 asc:lo=false->b.2.2.2.1.Pairwise λa c=>a.1<c.1
 root:∃c∈b.2.2.2.1,c.1=b.2.2.1
 edge:∀e∈b.2.2.2.2,1<=e.2.2/\e.2.2<=4/\(∃c∈b.2.2.2.1,c.1=e.1)/\(∃c∈b.2.2.2.1,c.1=e.2.1)/\e.1≠e.2.1
 easc:lo=false->∀(i:Nat) (x y:HX),b.2.2.2.2[i]?=some x->b.2.2.2.2[i+1]?=some y->∃r,OG (x,y)=some r/\r<0
theorem ACp{l:Bool}{b:MR}(h:BiOk l b):ZZ ((l,[]),b)=some 0:=by
 obtain⟨⟨t,w⟩,v,⟨i,j⟩,q,o,s,x,d⟩:=h;unfold ZZ;dsimp only;rw[E4,A7 t,BW,A8,w,A0,BS,Bool.or_self,BW,A8,v,A0,BS,A7 (show ¬(3000:Int)<(b.2.2.2.1.length) by omega),A7 (show ¬(20000:Int)<(b.2.2.2.2.length) by omega),Bool.or_self,AZQ l b i q o,A0];dsimp only;have a:∀k,(∃c∈b.2.2.2.1,c.1=k)->FM E5 k (bT _ [])=some true:=λk hk=>AZP k _ _ (.inl hk);rw[a _ s];simp only[DD,BS,AA]
 rw [AZR _ _ j (λe r=>by
  grind) d,A0]
theorem AZS{b:MR}(h:BiOk false b):kM b=some 0:=by
 unfold kM;rw[ACp h,A0]
def LX:List Int->Int
 |[]=>0
 |a::r=>if a=0 then LX r else a
theorem AZT:∀{l:List Int},(∀a∈l,a=0)->LX l=0:=by
 intro l;induction l<;>simp_all[LX,if_pos,AL,AP]
theorem AZU:∀{l:List Int} {i:Nat} {a:Int},l[i]?=some a->a≠0->(∀x∈l.take i,x=0)->LX l=a:=by
 intro l;induction l with
 |nil=>simp
 |cons b r j=>
  intro i a h e d;cases i with
  |zero=>
   simp_all[LX,if_neg]
  |succ i=>
   have h:r[i]?=some a:=by simpa using h
   show(if b=0 then LX r else b)=a;rw[if_pos (d b oe)];grind
theorem ACq(l:List Int)(o:l.length<=1000):NH l=some (LX l):=by
 unfold NH
 have:Tot (ZJ ((0),l,(l.length),(0))) (λq=>match q with
  | .inl _=>LX l=0
  | .inr y=>LX l=y):=by
  refine FH l.length (λ_ i=>((0),l,(l.length:Int),i)) (λi _=>∀x∈l.take i,x=0) oa (λnext _ i a b d=>?_) (λnext _ b=>?_) () oe
  .unfold VC;dsimp only;rw[EK,A4 a,A8,F8 (A1 a),A0,E0,FD oa];refine D_.2 ⟨λh=>DZ.2 (AZU (A1 a) (by simpa using h) b),λh=>d () λx e=>?_⟩;rw[FN (A1 a),AS,AJ]at e;grind
  .simp_all[VC,EK,A7,AC,AA,AG,DZ,AZT]
 obtain⟨q,j,k⟩:=this;grind
theorem m_(a b:DX):J9 a b=0<->a=b:=by
 grind[J9,JY]
theorem bU(a b:Int):MK a b=0<->a=b:=by
 grind[MK]
theorem A0w(a b:Int):MK a b<0<->a<b:=by
 grind[MK]
section
variable{T:Type}
theorem ACr(xs:List T)(F:T×T->Option Int)(l:T->T->Prop)(hF:∀a b,∃c,F (a,b)=some c/\(c<0<->l a b))(hi:∀a,¬l a a)(x:∀a b c,l a b->l b c->l a c)(w:∀a b c,¬l a b->¬l b c->¬l a c):
 Tot (OA xs F) (λr=>r.Perm xs/\r.Pairwise λa b=>¬l b a):=by
 have e:∀i j,IP xs F i j=true<->l (xs.get i) (xs.get j):=λi j=>by
  obtain⟨c,d,o⟩:=hF (xs.get i) (xs.get j);unfold IP O9;grind
 have v:∀i j,IP xs F i j=false<->¬l (xs.get i) (xs.get j):=λi j=>by rw[<-e,BX]
 have t:UK xs F:=by
  refine⟨λi j=>?_,λi=>?_,λi j k d o=>?_,λi j k d o=>?_⟩
  .obtain⟨c,d,_⟩:=hF (xs.get i) (xs.get j);rw[d];rfl
  .grind
  .grind
  .grind
 refine(ABP xs F t).mono λr q=>⟨q.1,q.2.imp λ{a b} h s=>?_⟩;obtain⟨c,d,o⟩:=hF b a;grind
end
def bV(a b:Int×Int):Prop:=a.1<b.1\/a.1=b.1/\a.2<b.2
theorem AZV(xs:List (Int×Int)):Tot (rE (xs,λx=>(kN x).bind λr=>some r)) (λr=>r.Perm xs):=by
 refine(ACr xs _ bV (λa b=>?_) (λa h=>?_) (λa b c d e=>?_) λa b c d e k=>?_).mono λr i=>i.1
 .refine⟨LX [MK a.1 b.1,MK a.2 b.2],?_,?_⟩
  .simp_all[kN,T1,A0,ACq]
  .simp only[LX];unfold bV;by_cases h:a.1=b.1
   .rw[if_pos ((bU _ _).2 h)];by_cases j:a.2=b.2<;>simp_all[if_pos,bU,if_neg,A0w]
   simp_all[if_neg,bU,A0w]
 .unfold bV at h;omega
 .unfold bV at *;omega
 grind[bV]
def IU(a b:HX):Prop:=a.1<b.1\/a.1=b.1/\(a.2.1<b.2.1\/a.2.1=b.2.1/\a.2.2<b.2.2)
theorem ACs(a:HX):¬IU a a:=by
 grind[IU,JY]
theorem A0x(a b c:HX)(h:IU a b)(d:IU b c):IU a c:=by
 grind[IU,QU]
theorem A0y(a b:HX):IU a b\/a=b\/IU b a:=by
 grind[IU,VZ,Int.lt_trichotomy,Prod.ext]
theorem AZW(a b c:HX)(e:¬IU a b)(i:¬IU b c):¬IU a c:=by
 rcases A0y a b with h|rfl|h
 .grind
 .exact i
 .rcases A0y b c with d|rfl|d
  .grind
  .exact e
  grind[ACs,A0x]
theorem ACt(a b:HX):∃c,OG (a,b)=some c/\(c<0<->IU a b):=by
 refine⟨LX [J9 a.1 b.1,J9 a.2.1 b.2.1,MK a.2.2 b.2.2],?_,?_⟩
 .simp_all[OG,m9,A0,T1,ACq]
 .simp only[LX];unfold IU;by_cases h:a.1=b.1
  .rw[if_pos ((m_ _ _).2 h)];have j:¬a.1<b.1:=by rw[h];exact JY _
   by_cases d:a.2.1=b.2.1
   .rw[if_pos ((m_ _ _).2 d)];have k:¬a.2.1<b.2.1:=by rw[d];exact JY _
    by_cases i:a.2.2=b.2.2
    .simp_all[if_pos,bU,absurd]
    .rw[if_neg λe=>i ((bU _ _).1 e),A0w];grind
   .rw[if_neg λe=>d ((m_ _ _).1 e),mA];grind
  simp_all[if_neg,m_,mA,absurd]
theorem AZX{a:G5}{rs:List Rg}(h:MH a=some (rs,0)):a.2.2.2.2.2.2.length<=50:=by
 unfold MH VD at h;obtain⟨_,_,h⟩:=EM h;rcases FF h with⟨_,h⟩|⟨_,h⟩
 .cases h
 obtain⟨j,_,h⟩:=EM h;rcases FF h with⟨c,h⟩|⟨_,h⟩
 .have e:j=0:=congrArg Prod.snd (A2 h);rw[e]at c;cases c
 obtain⟨_,_,h⟩:=EM h;rcases FF h with⟨_,h⟩|⟨_,h⟩
 .cases h
 rcases FF h with⟨_,h⟩|⟨_,h⟩
 .cases h
 have i:((bif (decide ((50)<(a.2.2.2.2.2.2.length:Int))) then some (([]),(3)) else
  (VE (([]),a.2.2.2.2.2.2,(a.2.2.2.2.2.2.length),(0))).bind λr=>
  match r with
  | .inl d=>some (d,(0))
  | .inr y=>some (y.1,y.2))=some (rs,0))->a.2.2.2.2.2.2.length<=50:=λk=>by
  grind
 obtain⟨o,b,h⟩:=EM h;rcases FF b with⟨_,b⟩|⟨_,b⟩
 .obtain⟨l,_,b⟩:=EM b;rcases FF b with⟨c,b⟩|⟨_,b⟩
  .have b:=A2 b;rw[<-b]at h;have e:=congrArg Prod.snd (A2 h);rw[e]at c;cases c
  grind
 grind
noncomputable def JA(a:G5):List Rg:=((MH a).getD ([],0)).1
theorem nA{a:G5}(h:JM a)(hc:NP a=0):MH a=some (JA a,0)/\(JA a).length=a.2.2.2.2.2.2.length/\(∀z∈JA a,∀s∈z.2,GX s)/\a.2.2.2.2.2.2.length<=50:=by
 obtain⟨⟨rs,e⟩,b,d⟩:=ABu a h;have hk:=ABi h;unfold SF at hk;rw[b,hc]at hk;have i:=A2 hk;subst i;have j:JA a=rs:=by unfold JA;rw[b];rfl
 rw[j];obtain⟨k,l⟩:=d rfl;grind[AZX]
noncomputable def LY(x:Af)(r:Rg)(key v:DX):Bool:=(QN (x,r,key,v)).getD false
theorem WK(x:Af){r:Rg}(o:∀s∈r.2,GX s)(key:DX){v:DX}(a:v.length<=1048576):QN (x,r,key,v)=some (LY x r key v)/\(LY x r key v=true->x.1=key/\v≠[]):=by
 suffices h:Tot (QN (x,r,key,v)) (λb=>b=true->x.1=key/\v≠[]) by
  obtain⟨b,k,l⟩:=h;grind[LY]
 unfold QN;dsimp only;refine DY.2 (Tot.mono (P:=λ_=>True) (D_.2 ⟨λ_=>(A0W _ _ a).mono λ_ _=>trivial,λ_=>DZ.2 trivial⟩) λq _=>D_.2 ⟨λ_=>DZ.2 λh=>(ol),λj=>?_⟩);obtain⟨d,_⟩:=B0.1 j;obtain⟨e,i⟩:=B0.1 d;refine DY.2 ((mO r _ (λs h=>⟨oc,oc⟩) a).mono λ_ _=>DZ.2 λ_=>⟨by simpa[E4]using e,by simpa[E4]using i⟩)
def OP(a:G5)(key v:DX):Prop:=∃(i:Nat) (x:Af) (r:Rg),a.2.2.2.2.2.2[i]?=some x∧(JA a)[i]?=some r∧LY x r key v=true
theorem AZY{a:G5}{p:Pu}{key:DX}(C:JM a)(hc:NP a=0)(E:p.2.2.2.1.length<=1048576)(hk:JT p=some (key,0)):Tot (VG (a,p)) (λq=>(q.1=[]<->(a.2.2.2.2.1=true\/¬OP a key p.2.2.2.1))):=by
 obtain⟨A,K,B,L⟩:=nA C hc;unfold VG;dsimp only;rw[A,A0,show(!(E1 (0:Int) 0))=false from rfl,AA,hk,A0,show(!(E1 (0:Int) 0))=false from rfl,AA];dsimp only;obtain⟨l,k⟩:∃l,l=a.2.2.2.2.1:=⟨_,rfl⟩;rw[<-k]
 have y:Tot (jM (a,p,JA a,key,[],a.2.2.2.2.2.2,(a.2.2.2.2.2.2.length:Int),0)) (λo=>(o=[]<->(l=true\/¬OP a key p.2.2.2.1))):=by
  refine FH (σ:=List Int) a.2.2.2.2.2.2.length (λo i=>(a,p,JA a,key,o,a.2.2.2.2.2.2,(a.2.2.2.2.2.2.length:Int),i)) (λi o=>o.length<=i/\(o≠[]<->l=false/\∃(j:Nat) (x:Af) (r:Rg),j<i/\a.2.2.2.2.2.2[j]?=some x/\(JA a)[j]?=some r/\LY x r key p.2.2.2.1=true)) oa (λnext o i s t w=>?_) (λnext o t=>?_) [] ⟨oe,oe⟩
  .obtain⟨G,H⟩:=t;unfold jL;dsimp only;have d:i<(JA a).length:=oa
   rw[EK,A4 s,A8,F8 (A1 s),A0,F8 (A1 d),FD oa];obtain⟨z,_⟩:=WK a.2.2.2.2.2.2[i] (B _ (AU d)) key E;cases D:a.2.2.2.2.1 with
   |true=>
    grind
   |false=>
    rw[BW,A8,A0,A8,z,A0,D0];refine D_.2 ⟨λv=>DY.2 (FT.2 ⟨oc,w (o++[(i:Int)]) ⟨oc,?_⟩⟩),λv=>w o ⟨oa,?_⟩⟩
    .refine⟨λ_=>⟨k.trans D,i,_,_,oa,A1 s,A1 d,v⟩,λ_ h=>by simp at h⟩
    grind
  .obtain⟨G,H⟩:=t;unfold jL;dsimp only;rw[EK,A7 (AC _),AA];refine DZ.2 ?_
   have e:(∃(j:Nat) (x:Af) (r:Rg),j<a.2.2.2.2.2.2.length/\a.2.2.2.2.2.2[j]?=some x/\(JA a)[j]?=some r/\LY x r key p.2.2.2.1=true)<->OP a key p.2.2.2.1:=by
    constructor
    .rintro⟨j,x,r,_,b⟩;exact⟨j,x,r,b⟩
    .rintro⟨j,x,r,I,J⟩;grind
   grind
 grind[DY,DZ]
noncomputable def MS(a:G5):Int:=if a.2.2.2.2.2.1=[]then 100 else((OE a.2.2.2.2.2.1).getD (0,0)).1
theorem nB(a:G5):Bd (MS a) 1000000000000/\(a.2.2.2.2.2.1≠[]->∃e,OE a.2.2.2.2.2.1=some (MS a,e)):=by
 obtain⟨⟨s,e⟩,b,d⟩:=A0a a.2.2.2.2.2.1;unfold MS;by_cases h:a.2.2.2.2.2.1=[]
 .simp_all[if_pos,Bd,absurd]
 grind
open Classical in
noncomputable def K4(key v:DX)(a:G5):Int:=if a.2.2.2.2.1=false/\OP a key v then MS a else 0
theorem ACu(key v:DX)(a:G5):Bd (K4 key v a) 1000000000000:=by
 grind[K4,nB,Bd]
theorem AZZ{l:List Int}{b:Int}(h:∀x∈l,Bd x b):Bd (sI l) (b*l.length):=by
 induction l with
 |nil=>unfold Bd sI;simp
 |cons a l i=>
  have j:=h a AL;have k:=i λx d=>h x (AP _ d);have e:sI (a::l)=a+sI l:=rfl;unfold Bd at *;rw[AX,Int.natCast_add,Int.mul_add];omega
theorem AZ_{p:Pu}{key:DX}(j:p.2.2.2.1.length<=1048576)(hk:JT p=some (key,0))(l:List G5)(I:l.length<=2000)(C:∀a∈l,JM a/\NP a=0):jO (p,0,l,(l.length:Int),0)=some (sI (l.map (K4 key p.2.2.2.1))):=by
 refine GY (FH (σ:=Int) l.length (λn i=>(p,n,l,(l.length:Int),i)) (λi n=>n=sI ((l.take i).map (K4 key p.2.2.2.1))) oa (λnext n i q r D=>?_) (λnext n r=>?_) 0 rfl)
 .unfold jN;dsimp only;obtain⟨y,z⟩:=C _ (AU q);rw[EK,A4 q,A8,F8 (A1 q),A0,FD oa]
  have s:Bd n (1000000000000*2000):=by
   have:=AZZ (l:=(l.take i).map (K4 key p.2.2.2.1)) (b:=1000000000000) λx E=>by
    obtain⟨a,_,rfl⟩:=B1.1 E;exact ACu _ _ _
   rw[<-r,AN,AY]at this;unfold Bd at *;omega
  have b:∀d,d=K4 key p.2.2.2.1 l[i]->Tot (next (p,IntKind.i64.wrap (n+d),l,(l.length:Int),(i:Int)+1)) _:=λd t=>by
   have k:=ACu key p.2.2.2.1 l[i];rw[<-t]at k;unfold Bd at s k;rw[EQ oa oa];refine D _ ?_;rw[FN (A1 q),BL,A0t,<-r,t];show _=n+(K4 key p.2.2.2.1 l[i]+0);omega
  refine DY.2 ((AZY y z j hk).mono λw B=>?_);refine D_.2 ⟨λh=>?_,λh=>?_⟩
  .have h:w.1=[]:=by
    rw[E0,AW]at h;exact CX.1 oa
   have v:K4 key p.2.2.2.1 l[i]=0:=by
    unfold K4;rw[if_neg];rintro⟨G,A⟩;rcases B.1 h with g|g
    .grind
    .exact g A
   have:=b 0 v.symm;rw[Int.add_zero]at this;grind[Bd,EQ]
  .have h:w.1≠[]:=λe=>by rw[e]at h;cases h
   have o:l[i].2.2.2.2.1=false/\OP l[i] key p.2.2.2.1:=by
    refine⟨?_,?_⟩
    .grind
    .grind
   have v:K4 key p.2.2.2.1 l[i]=MS l[i]:=by unfold K4;rw[if_pos o]
   refine D_.2 ⟨λj=>?_,λj=>?_⟩
   .have j:l[i].2.2.2.2.2.1≠[]:=by simpa[E4]using j
    obtain⟨e,H⟩:=(nB l[i]).2 j;grind
   simp_all[E4,MS,if_pos]
 simp_all[jN,EK,A7,AC,AA,DZ,AG]
theorem AZa{t:F7}(k:BB t.2.2.2.2.2.2)(d:QV t.2.2.2.2.2.2){x:E_}(i:x.1.length<=1048576)(hk:(H6 x.1).2=true)(q:Ok (H6 x.1).1 x.2):MQ t x=sI (t.2.2.2.2.2.2.2.1.map (K4 x.1 x.2)):=by
 obtain⟨v,o⟩:=ACc q;obtain⟨p,n,s,r⟩:=ACl i hk;obtain⟨w,z,A,y⟩:=r x.2 v o
 have h:∀a∈t.2.2.2.2.2.2.2.1,JM a/\NP a=0:=λa b=>by
  refine⟨k a b,?_⟩;obtain⟨j,l,e⟩:=List.mem_iff_getElem.1 b;exact((d.2.2.2 j l).1 a oc).1
 unfold MQ VH;dsimp only;rw[s,A0,w,A0,show(!(E1 _ 0))=false from rfl];have:=AZ_ (by show x.2.length<=_;omega) y _ d.2.1 h;rw[this];rfl
noncomputable def IL(c:G6):DX:=((JT c.2.1).getD ([],0)).1
def JB(c:G6):DX:=c.2.1.2.2.2.1
def KW(cs:List G6)(n:Int):DX:=match cs[n.toNat]? with
 |some c=>JB c
 |none=>[]
structure KyOk(cs:List G6):Prop where
 few:cs.length<=3000
 key:∀c∈cs,JT c.2.1=some (IL c,0)/\(JB c).length<=1048576
 once:∀(i j:Nat) (c d:G6),cs[i]?=some c->cs[j]?=some d->IL c=IL d->JB c≠[]->JB d≠[]->i=j
abbrev KM:=List (DX×List Int)
def IF(m:KM)(k:DX):List Int:=(FM E5 k m).getD []
theorem ACv(k a:DX)(v:List Int)(m:KM):FM E5 k (FK E5 a v m)=if k=a then some v else FM E5 k m:=ACn E4 k a v m
structure BkOk(cs:List G6)(n:Nat)(m:KM):Prop where
 asc:∀k,(IF m k).Pairwise λa b=>a<b
 mem:∀k x,x∈IF m k<->∃(j:Nat) (c:G6),j<n/\cs[j]?=some c/\x=(j:Int)/\IL c=k
theorem bk_len{cs:List G6}{n:Nat}{m:KM}(h:BkOk cs n m)(k:DX):(IF m k).length<=n:=by
 have d:(IF m k).Nodup:=(h.asc k).imp λ{a b} i e=>oa
 have:=List.Nodup.length_le_of_subset d (l₂:=(List.range n).map λj:Nat=>(j:Int)) λx l=>by
  obtain⟨j,c,o,_,q,_⟩:=(h.mem k x).1 l;grind
 grind
theorem AZb{cs:List G6}(hk:KyOk cs):Tot (yA ([],cs,(cs.length:Int),0)) (BkOk cs cs.length):=by
 have v:=hk.few;refine FH cs.length (λm i=>(m,cs,(cs.length:Int),i)) (λi m=>BkOk cs i m) oa (λnext m i t d A=>?_) (λnext m d=>?_) [] ⟨λk=>List.Pairwise.nil,λk x=>⟨λh=>(ol),λ⟨j,_,h,_⟩=>absurd h oa⟩⟩
 .unfold x_;dsimp only;obtain⟨k1,_⟩:=hk.key _ (AU t);rw[EK,A4 t,F8 (A1 t),A0,k1,A0,FD oa];have w:=bk_len d (IL cs[i]);refine DY.2 (FT.2 ⟨by grind[IF,IL],?_⟩);rw[E4,A4 rfl,A8,A0];refine A _ ⟨λk=>?_,λk x=>?_⟩
  .unfold IF;rw[ACv k];by_cases e:k=IL cs[i]
   .rw[if_pos e,DD,C7];refine⟨d.asc _,D4 _ _,λa y b z=>?_⟩;rw[AJ]at z;obtain⟨j,c,r,_,o,_⟩:=(d.mem _ a).1 y;omega
   .rw[if_neg e];exact d.asc k
  .unfold IF;rw[ACv k];by_cases e:k=IL cs[i]
   .rw[if_pos e,DD,AS,AJ];have q:=d.mem (IL cs[i]) x;constructor
    .rintro(h|h)
     .obtain⟨j,c,r,l,o,s⟩:=q.1 h;grind
     .exact⟨i,cs[i],oa,A1 t,h,e.symm⟩
    .rintro⟨j,c,r,l,o,s⟩;by_cases B:j=i
     .omega
     .exact .inl (q.2 ⟨j,c,oa,l,o,s.trans e⟩)
   .rw[if_neg e];have q:=d.mem k x;constructor
    .intro h;obtain⟨j,c,r,l⟩:=q.1 h;grind
    .rintro⟨j,c,r,l,o,s⟩;refine q.2 ⟨j,c,?_,l,o,s⟩;grind
 simp_all[x_,EK,A7,AC,AA,DZ]
section
variable{b:MR}(hk:KyOk b.2.2.2.1){m:KM}(hm:BkOk b.2.2.2.1 b.2.2.2.1.length m){a:G5}(ha:JM a)(hc:NP a=0)
include hk hm ha hc
theorem AZc{i:Nat}{x:Af}{r:Rg}(hx:a.2.2.2.2.2.2[i]?=some x)(E:(JA a)[i]?=some r)(d:List (Int×Int))(Q:d.length<=100):
 Tot (xX (b,JA a,d,(i:Int),x,IF m x.1,((IF m x.1).length:Int),0)) (λq=>q.1=b/\q.2.length<=d.length+1/\∀p,p∈q.2<->p∈d\/(p.2=(i:Int)/\p.1∈IF m x.1/\LY x r x.1 (KW b.2.2.2.1 p.1)=true)):=by
 obtain⟨_,_,X,_⟩:=nA ha hc;have O:=bk_len hm x.1;have N:=hk.few;have h:=X r (AI E)
 have v:∀n s,n∈IF m x.1->s∈IF m x.1->LY x r x.1 (KW b.2.2.2.1 n)=true->LY x r x.1 (KW b.2.2.2.1 s)=true->n=s:=λn s V W t L=>by
  obtain⟨j,c,j1,k,A,T⟩:=(hm.mem x.1 n).1 V;obtain⟨j',B,k1,J,k3,k4⟩:=(hm.mem x.1 s).1 W;have w:KW b.2.2.2.1 n=JB c:=by unfold KW;rw[A,AK,k]
  have U:KW b.2.2.2.1 s=JB B:=by unfold KW;rw[k3,AK,J]
  rw[w]at t;rw[U]at L;have v1:=((WK x h x.1 (hk.key c (AI k)).2).2 t).2;have v2:=((WK x h x.1 (hk.key B (AI J)).2).2 L).2;have:=hk.once j j' c B k J (T.trans k4.symm) v1 v2;omega
 refine FH (σ:=List (Int×Int)) (IF m x.1).length (λo n=>(b,JA a,o,(i:Int),x,IF m x.1,((IF m x.1).length:Int),n)) (λn o=>(o.length=d.length\/(o.length=d.length+1/\∃y∈(IF m x.1).take n,LY x r x.1 (KW b.2.2.2.1 y)=true))/\∀p,p∈o<->p∈d\/(p.2=(i:Int)/\p.1∈(IF m x.1).take n/\LY x r x.1 (KW b.2.2.2.1 p.1)=true)) oa (λnext o n z D h4=>?_) (λnext o D=>?_) d ⟨.inl rfl,oe⟩
 .obtain⟨l,K⟩:=D;unfold xW;dsimp only;have R:=AU z;obtain⟨j,c,j1,k,A,T⟩:=(hm.mem x.1 (IF m x.1)[n]).1 R;have Z:=(A9.1 E).1;have w:KW b.2.2.2.1 (IF m x.1)[n]=JB c:=by unfold KW;rw[A,AK,k]
  rw[EK,A4 z,A8,F8 (A1 z),A0,F8 E,A0,FD oa];have C:at? b.2.2.2.1 (IF m x.1)[n]=some c:=by rw[A];exact F8 k
  rw[C,A0];obtain⟨t,_⟩:=WK x h x.1 (hk.key c (AI k)).2;unfold JB at t w;rw[t,A0,<-w];have h6:=FN (A1 z);refine D_.2 ⟨λM=>?_,λM=>?_⟩
  .have h5:o.length=d.length:=by
    rcases l with l|⟨_,y,G,H⟩
    .exact l
    .exfalso;have I:=D8 G;have e:=v y _ I R H M;have h0:(IF m x.1).Nodup:=(hm.asc x.1).imp λ{a b} Y e=>oa
     grind[List.mem_take_iff_getElem,List.pairwise_iff_getElem]
   refine DY.2 (FT.2 ⟨oc,?_⟩);grind
  grind
 .obtain⟨l,K⟩:=D;unfold xW;dsimp only;rw[EK,A7 (AC _),AA];rw[AG]at K;exact DZ.2 ⟨rfl,by rcases l with l|⟨l,_⟩<;>(show o.length<=_;omega),K⟩
theorem AZd:Tot (kO (a,b,m)) (λq=>q.length<=50/\(∀p∈q,0<=p.1/\p.1<b.2.2.2.1.length)/\∀(j:Nat) (c:G6),b.2.2.2.1[j]?=some c->((∃p∈q,p.1=(j:Int))<->OP a (IL c) (JB c))):=by
 obtain⟨K,T,L,U⟩:=nA ha hc;unfold kO;dsimp only;rw[K,A0]
 have A:Tot (xZ (m,b,JA a,[],a.2.2.2.2.2.2,(a.2.2.2.2.2.2.length:Int),0)) (λq=>q.length<=50/\∀p,p∈q<->∃(j:Nat) (x:Af) (r:Rg),a.2.2.2.2.2.2[j]?=some x/\(JA a)[j]?=some r/\p.2=(j:Int)/\p.1∈IF m x.1/\LY x r x.1 (KW b.2.2.2.1 p.1)=true):=by
  refine FH (σ:=List (Int×Int)) a.2.2.2.2.2.2.length (λo i=>(m,b,JA a,o,a.2.2.2.2.2.2,(a.2.2.2.2.2.2.length:Int),i)) (λi o=>o.length<=i/\∀p,p∈o<->∃(j:Nat) (x:Af) (r:Rg),j<i/\a.2.2.2.2.2.2[j]?=some x/\(JA a)[j]?=some r/\p.2=(j:Int)/\p.1∈IF m x.1/\LY x r x.1 (KW b.2.2.2.1 p.1)=true) oa (λnext o i y v M=>?_) (λnext o v=>?_) [] ⟨oe,oe⟩
  .obtain⟨E,l⟩:=v;unfold xY;dsimp only;have s:i<(JA a).length:=oa
   rw[EK,A4 y,A8,F8 (A1 y),A0,FD oa];refine DY.2 ((AZc hk hm ha hc (A1 y) (A1 s) o oa).mono λq k=>?_);obtain⟨O,W,Q⟩:=k;rw[O];refine M q.2 ⟨oa,λp=>?_⟩;rw[Q,l];constructor
   .rintro(⟨j,x,r,h,d⟩|⟨h,d,w⟩)
    .grind
    .exact⟨i,_,_,oa,A1 y,A1 s,h,d,w⟩
   grind
  .obtain⟨E,l⟩:=v;unfold xY;dsimp only;rw[EK,A7 (AC _),AA];grind[DZ,List.getElem?_eq_some_iff]
 refine DY.2 (A.mono λo v=>DY.2 ((AZV o).mono λq k=>DZ.2 ?_));obtain⟨E,l⟩:=v;refine⟨by rw[k.length_eq];exact E,λp C=>?_,λj c t=>?_⟩
 .obtain⟨j,x,r,_,_,_,z,_⟩:=(l p).1 (k.mem_iff.1 C);obtain⟨G,c,k1,_,N,_⟩:=(hm.mem x.1 p.1).1 z;omega
 .have B:=(A9.1 t).1;have I:KW b.2.2.2.1 (j:Int)=JB c:=by unfold KW;rw[AK,t]
  constructor
  .rintro⟨p,C,D⟩;obtain⟨i,x,r,h,d,w,z,J⟩:=(l p).1 (k.mem_iff.1 C);obtain⟨G,R,k1,H,N,V⟩:=(hm.mem x.1 p.1).1 z;have e:G=j:=oa
   subst e;rw[t]at H;cases H;rw[D,I]at J;exact⟨i,x,r,h,d,oc⟩
  .rintro⟨i,x,r,h,d,w⟩;have e:=((WK x (L r (AI d)) (IL c) (hk.key c (AI t)).2).2 w).1;refine⟨((j:Int),(i:Int)),k.mem_iff.2 ((l _).2 ⟨i,x,r,h,d,rfl,(hm.mem x.1 _).2 ⟨j,c,B,t,rfl,e.symm⟩,?_⟩),rfl⟩;grind
end
abbrev IM:=DX×DX×Int
def WL(cs:List G6)(n:Int):DX:=match cs[n.toNat]? with
 |some c=>c.1
 |none=>[]
theorem AZe{b:MR}(a:G5)(q:List (Int×Int))(t:∀p∈q,0<=p.1/\p.1<b.2.2.2.1.length)(d:List IM)(v:d.length+q.length<=100000):
 yC (b,d,a,q,(q.length:Int),0)=some (.inl (b,d++q.map λp=>(a.1,WL b.2.2.2.1 p.1,p.2))):=by
 refine GY (FH q.length (λo i=>(b,o,a,q,(q.length:Int),i)) (λi o=>o=d++(q.take i).map λp=>(a.1,WL b.2.2.2.1 p.1,p.2)) oa (λnext o i h l r=>?_) (λnext o l=>?_) d oe)
 .unfold yB;dsimp only;have s:o.length=d.length+i:=by rw[l,AE,AN,AY];omega
  obtain⟨w,x⟩:=t _ (AU h);have k:(q[i].1).toNat<b.2.2.2.1.length:=oa
  rw[EK,A4 h,F8 (A1 h),A0,E0,A7 (show ¬(o.length:Int)=100000 by omega),FD oa]
  have j:=by
   have e:q[i].1=(((q[i].1).toNat)):=oa
   have:=F8 (A1 k);rw[<-e]at this;exact this
  rw[j,A0];refine DY.2 (FT.2 ⟨oc,r _ ?_⟩);rw[FN (A1 h),BL,<-CF,<-l];grind[WL,List.getElem?_eq_getElem]
 simp_all[yB,EK,A7,AC,AA,DZ,AG]
def RD(advs:List G5)(cs:List G6)(h:List IM):Prop:=∀id ref,(∃n,(id,ref,n)∈h)<->∃a∈advs,a.2.2.2.2.1=false/\a.1=id/\∃c∈cs,c.1=ref/\OP a (IL c) (JB c)
theorem AZf{bs:Bs}(N:BB bs)(A:QV bs){b:MR}(C:BiOk false b)(hk:KyOk b.2.2.2.1):Tot (aC (bs,b)) (λq=>q.2=0/\q.1.length<=100000/\RD bs.2.1 b.2.2.2.1 q.1):=by
 have B:∀a∈bs.2.1,JM a/\NP a=0:=λa k=>by
  refine⟨N a k,?_⟩;obtain⟨j,G,e⟩:=List.mem_iff_getElem.1 k;exact((A.2.2.2 j G).1 a oc).1
 have Q:=A.2.1;obtain⟨e,Z,E⟩:=ABj bs N;have D:=E.2 A;subst D;unfold aC;dsimp only;rw[Z,A0,show(!(E1 (0:Int) 0))=false from rfl,AA,AZS C,A0,show(!(E1 (0:Int) 0))=false from rfl,AA];refine DY.2 ((AZb hk).mono λm hm=>?_)
 have key:Tot (yE (b,m,[],bs.2.1,(bs.2.1.length:Int),0)) (λq=>∃h,q=.inl h/\h.length<=100000/\RD bs.2.1 b.2.2.2.1 h):=by
  refine FH (σ:=List IM) bs.2.1.length (λo i=>(b,m,o,bs.2.1,(bs.2.1.length:Int),i)) (λi o=>o.length<=50*i/\RD (bs.2.1.take i) b.2.2.2.1 o) oa (λnext o i w K J=>?_) (λnext o K=>?_) [] ⟨oe,λid ref=>oe⟩
  .obtain⟨o1,l⟩:=K;unfold yD;dsimp only;obtain⟨V,W⟩:=B _ (AU w);rw[EK,A4 w,A8,F8 (A1 w),A0,FD oa];have t:=FN (A1 w);refine D_.2 ⟨λR=>J o ⟨oa,λid ref=>?_⟩,λR=>?_⟩
   .rw[l,t];grind
   .refine DY.2 ((AZd hk hm V W).mono λq L=>?_);obtain⟨q1,T,U⟩:=L;rw[AZe bs.2.1[i] q T o oa,A0];dsimp only;refine J _ ⟨oc,λid ref=>?_⟩;rw[t];constructor
    .rintro⟨n,d⟩;rcases AS.1 d with d|d
     .obtain⟨a,k,v⟩:=(l id ref).1 ⟨n,d⟩;grind
     .obtain⟨p,y,s⟩:=B1.1 d;obtain⟨p0,p1⟩:=T p y;have r:p.1.toNat<b.2.2.2.1.length:=oa
      have X:bs.2.1[i].1=id:=congrArg (λx=>x.1) s;have e2:WL b.2.2.2.1 p.1=ref:=congrArg (λx=>x.2.1) s;refine⟨bs.2.1[i],BZ _ (AJ.2 rfl),R,X,b.2.2.2.1[p.1.toNat],AU r,?_,?_⟩
      .grind[WL,List.getElem?_eq_getElem]
      .exact(U _ _ (A1 r)).1 ⟨p,y,oa⟩
    .rintro⟨a,k,v,z,c,O,Y,M⟩;rcases AS.1 k with k|k
     .obtain⟨n,J⟩:=(l id ref).2 ⟨a,k,v,z,c,O,Y,M⟩;grind
     .have k:=AJ.1 k;subst k;obtain⟨j,G,I⟩:=List.mem_iff_getElem.1 O;have H:b.2.2.2.1[j]?=some c:=by rw[<-I];exact A1 G
      obtain⟨p,y,h0⟩:=(U j c H).2 M;refine⟨p.2,BZ _ (B1.2 ⟨p,y,?_⟩)⟩;grind[WL,Int.toNat_natCast]
  .obtain⟨o1,l⟩:=K;unfold yD;dsimp only;rw[EK,A7 (AC _),AA];rw[AG]at l;exact DZ.2 ⟨o,rfl,oa,l⟩
 refine DY.2 (key.mono λq L=>?_);obtain⟨h,rfl,v,z⟩:=L;exact DZ.2 ⟨rfl,v,z⟩
noncomputable def PM(advs:List G5)(id:DX):Int:=match advs.find? λa=>decide (a.1=id)with
 |some a=>MS a
 |none=>0
theorem ACw{d:List G5}(j:d.Pairwise λa b=>a.1<b.1){a:G5}(i:a∈d):PM d a.1=MS a:=by
 unfold PM;cases h:d.find? _ with
 |none=>grind
 |some x=>
  have e:x.1=a.1:=by have:=List.find?_some h;simpa using this
  have:=ACI j (CQ h) i e;rw[this]
theorem ACx{bs:Bs}(d:QV bs):bs.2.1.Pairwise λa b=>a.1<b.1:=by
 have step:∀i (h:i+1<bs.2.1.length),bs.2.1[i].1<bs.2.1[i+1].1:=λi h=>
  ((d.2.2.2 (i+1) h).1 _ (A1 h)).2 oa _ oe
 refine BE.2 λi j k l e=>?_;induction j<;>grind
open Classical in
theorem AZg{i:List G5}(l:i.Pairwise λa b=>a.1<b.1){cs:List G6}(z:cs.Pairwise λa b=>a.1<b.1){h:List IM}(v:RD i cs h):
 NT (λk:DX×DX=>PM i k.1) [] (h.map λx=>(x.1,x.2.1))=sI (cs.map λc=>sI (i.map (K4 (IL c) (JB c)))):=by
 let D:List (DX×DX):=i.flatMap λa=>(cs.filter λc=>decide (a.2.2.2.2.1=false/\OP a (IL c) (JB c))).map λc=>(a.1,c.1)
 have r:D.Nodup:=by
  show(i.flatMap _).Nodup;unfold List.Nodup;rw[List.pairwise_flatMap];refine⟨λa _=>?_,l.imp λ{a b} s x H y I e=>?_⟩
  .rw[List.pairwise_map]
   exact(z.filter _).imp λ{c d} t e=>by
    grind
  .grind
 have w:∀k,k∈D<->k∈(h.map λx=>(x.1,x.2.1))/\k ∉ ([]:List (DX×DX)):=λk=>by
  have o:k∈D<->∃a∈i,a.2.2.2.2.1=false/\a.1=k.1/\∃c∈cs,c.1=k.2/\OP a (IL c) (JB c):=by
   show k∈i.flatMap _<->_;rw[List.mem_flatMap];constructor
   .grind
   .rintro⟨a,j,A,B,c,G,C,E⟩;grind
  have q:k∈(h.map λx=>(x.1,x.2.1))<->∃n,(k.1,k.2,n)∈h:=by
   rw[B1];constructor
   .grind
   .grind
  rw[o,q,v k.1 k.2];simp
 rw[AYX _ _ _ D r w];show sI ((i.flatMap _).map _)=_;rw[AYT,AYV cs i (λc a=>K4 (IL c) (JB c) a)]
 congr 1
 refine List.map_congr_left λa j=>?_;rw[List.map_map]
 have e:((λk:DX×DX=>PM i k.1) ∘ λc:G6=>(a.1,c.1))=λ_=>MS a:=by
  funext c;exact ACw l j
 rw[e,AYW]
 congr 1
 refine List.map_congr_left λc _=>?_;simp_all[K4,OP,IL,JB,if_pos,A4,if_neg]
def HE:DX:=[114,111,111,116]
def I_:DX:=[97,112,112]
def HF:G6:=(HE,([112,108,97,105,110],[],I_,[],[],[]),[],[],[])
noncomputable def NU(nm:DX):Pu:=((MD nm).getD (([],[],[],[],[],[]),0,0)).1
noncomputable def PO(i:Nat)(x:E_):G6:=(HP i,IE (NU x.1) x.2,[],[],[])
noncomputable def HQ(l:List E_):List G6:=l.mapIdx PO
noncomputable def IG(l:List E_):List G6:=HQ l++[HF]
theorem A0z{i j:Nat}(a:j<12)(h:i<j):HP i<HP j:=by
 have:∀(i j:Fin 12),i.1<j.1->HP i.1<HP j.1:=oi
 exact this ⟨i,oa⟩ ⟨j,a⟩ h
theorem A10{i:Nat}(hi:i<12):HP i<HE:=by
 have:∀i:Fin 12,HP i.1<HE:=oi
 exact this ⟨i,hi⟩
theorem AZh{i:Nat}(hi:i<12):SN (HP i,100)=some true:=by
 have:∀i:Fin 12,∀c∈HP i.1,33<=c.toNat/\c.toNat<=126:=oi
 exact ACm _ _ (by show 3<=_;omega) (this ⟨i,hi⟩) (List.cons_ne_nil _ _) (by show(3)<=_;omega)
theorem ACy:CoOk HF where
 ref:=ACm _ _ oi oi (List.cons_ne_nil _ _) oi
 purl:=by decide +kernel
 dig:=rfl
 lic:=rfl
 files:=rfl
theorem AZi:JT HF.2.1=some (IL HF,0):=by
 rfl
theorem AZj:KD HF.2.1=some HF.2.1:=oh
theorem bW{l:List E_}{i:Nat}{c:G6}(h:(HQ l)[i]?=some c):∃x,l[i]?=some x/\c=PO i x:=by
 unfold HQ at h;grind
theorem nC{l:List E_}{c:G6}(h:c∈HQ l):∃(i:Nat) (x:E_),l[i]?=some x/\c=PO i x:=by
 grind[List.mem_iff_getElem?,bW]
theorem TF(l:List E_):(HQ l).length=l.length:=List.length_mapIdx
theorem A11{l:List E_}(s:l.length<=12):(IG l).Pairwise λa c=>a.1<c.1:=by
 unfold IG;rw[C7];refine⟨BE.2 λi j q r d=>?_,D4 _ _,λa o b e=>?_⟩
 .obtain⟨x,_,h⟩:=bW (A1 q);obtain⟨y,_,k⟩:=bW (A1 r);rw[h,k];exact A0z oc d
 .obtain⟨i,x,h,rfl⟩:=nC o;rw[AJ]at e;subst e;have:=(A9.1 h).1;exact A10 oa
section
variable{t:F7}(ht:TkB t)(hB:BB t.2.2.2.2.2.2)(hc:JG t=some 0)
include ht hB hc
theorem bX{l:List E_}(hk:LkOk l)(e:Right t l):∀x∈l,∃n,MD x.1=some (NU x.1,n,0)/\QL (NU x.1,x.2)=some (IE (NU x.1) x.2,0)/\JS (IE (NU x.1) x.2)=some 0/\
 KD (IE (NU x.1) x.2)=some (IE (NU x.1) x.2)/\JT (IE (NU x.1) x.2)=some (x.1,0)/\Ok (H6 x.1).1 x.2/\x.2.length<=100/\x.2≠[]:=λx h=>by
 obtain⟨_,a⟩:=TB ht hk e;obtain⟨b,d⟩:=a x h;obtain⟨i,_,j⟩:=RB b d (hk.ok x h);grind[ACc,ACl,NU,A0o]
theorem nD{l:List E_}(hk:LkOk l)(a:Right t l){x:E_}(hx:x∈l)(i:Nat):IL (PO i x)=x.1/\JB (PO i x)=x.2:=by
 obtain⟨n,_,_,_,_,h,_⟩:=bX ht hB hc hk a x hx;refine⟨?_,rfl⟩;grind[IL,PO]
theorem A12{l:List E_}(hk:LkOk l)(d:Right t l):∀c∈IG l,CoOk c:=λc a=>by
 rcases AS.1 a with h|h
 .obtain⟨i,x,b,rfl⟩:=nC h;obtain⟨n,_,_,w,_⟩:=bX ht hB hc hk d x (AI b);have:=(A9.1 b).1;have:=hk.few;exact⟨AZh oa,w,rfl,rfl,rfl⟩
 grind[List.mem_singleton,ACy]
theorem ACz{l:List E_}(hk:LkOk l)(k:Right t l):KyOk (IG l):=by
 have q:=hk.few
 have a:∀{i:Nat} {c:G6},(IG l)[i]?=some c->(∃x,l[i]?=some x/\c=PO i x)\/c=HF:=λ{i c} h=>by
  unfold IG at h;rw[List.getElem?_append]at h;by_cases e:i<(HQ l).length
  .rw[if_pos e]at h;exact .inl (bW h)
  grind
 refine⟨by grind[IG,List.length_append,TF],λc o=>?_,λi j c d v z e A nd=>?_⟩
 .rcases AS.1 o with h|h
  .obtain⟨i,x,s,rfl⟩:=nC h;have b:=AI s;obtain⟨n,_,_,_,_,w,_,B,_⟩:=bX ht hB hc hk k x b;rw[(nD ht hB hc hk k b i).1];exact⟨w,by show x.2.length<=_;omega⟩
  .rw[AJ]at h;rw[h];exact⟨AZi,oi⟩
 .rcases a v with⟨x,b,rfl⟩|rfl
  .rcases a z with⟨y,r,rfl⟩|rfl
   .rw[(nD ht hB hc hk k (AI b) i).1,(nD ht hB hc hk k (AI r) j).1]at e;obtain⟨D,rfl⟩:=A9.1 b;obtain⟨E,rfl⟩:=A9.1 r;have C:=BE.1 hk.asc;grind
   .exact absurd rfl nd
  .exact absurd rfl A
theorem AZk{l:List E_}(hk:LkOk l)(y:Right t l)(B:QV t.2.2.2.2.2.2):
 sI ((IG l).map λc=>sI (t.2.2.2.2.2.2.2.1.map (K4 (IL c) (JB c))))=sI (l.map (MQ t)):=by
 unfold IG;rw[BL,A0t]
 have z:sI (([HF]).map λc=>sI (t.2.2.2.2.2.2.2.1.map (K4 (IL c) (JB c))))=0:=by
  refine bP λn v=>?_;obtain⟨c,b,rfl⟩:=B1.1 v;rw[AJ]at b;subst b;refine bP λn v=>?_;obtain⟨a,w,rfl⟩:=B1.1 v;refine if_neg λ⟨_,i,x,r,d,k,o⟩=>?_;obtain⟨j,C,I⟩:=List.mem_iff_getElem.1 w;have h:=((B.2.2.2 j C).1 a oc).1;obtain⟨_,_,E,_⟩:=nA (hB a w) h;exact((WK x (E r (AI k)) _ oi).2 o).2 rfl
 rw[z,Int.add_zero]
 congr 1
 refine List.ext_getElem (by rw[AN,AN,TF]) λi d k=>?_;rw[List.getElem_map,List.getElem_map];rw[AN]at d k;obtain⟨x,D,e⟩:=bW (A1 d);obtain⟨G,rfl⟩:=A9.1 D;have s:=AU G;obtain⟨H,L⟩:=nD ht hB hc hk y s i;rw[e,H];obtain⟨_,q⟩:=TB ht hk y;obtain⟨o,A⟩:=q _ s;obtain⟨J,_,K⟩:=RB o A (hk.ok _ s);grind[AZa]
end
def MT(l:List E_)(s:DX):Int:=HW (λp=>decide (p.1=s)) l
def KI(l:List E_)(frm:DX)(nds:List FZ):List HX:=(nds.filter λnd=>decide (0<=MT l nd.1)).map λnd=>(frm,HP (MT l nd.1).toNat,nd.2.2)
theorem AZl(l:List E_)(a:DX)(b:List FZ)(nd:FZ):KI l a (b++[nd])=KI l a b++(if 0<=MT l nd.1 then [(a,HP (MT l nd.1).toNat,nd.2.2)]else []):=by
 unfold KI;grind
theorem A13(l:List E_)(b:DX)(a:List FZ):(KI l b a).length<=a.length:=by
 grind[KI,List.length_map,List.length_filter_le]
def nE(t:F7)(l m:List E_):List HX:=(m.mapIdx λi p=>KI l (HP i) (H2 t p)).flatten
def HG(t:F7)(l m:List E_):List HX:=KI l HE (I6 t.2.2.1 t.2.1)++nE t l m
theorem A14(t:F7)(l:List E_):HG t l []=KI l HE (I6 t.2.2.1 t.2.1):=by
 unfold HG nE;simp
theorem A15(t:F7)(l m:List E_)(p:E_):HG t l (m++[p])=HG t l m++KI l (HP m.length) (H2 t p):=by
 simp[HG,nE,List.mapIdx_append,List.flatten_append,CF]
theorem AZm(m:List E_)(p:E_):HQ (m++[p])=HQ m++[PO m.length p]:=by
 simp[HQ,List.mapIdx_append]
structure EdOk(n:Nat)(e:HX):Prop where
 from_:e.1=HE\/∃i,i<n/\e.1=HP i
 to:∃j,j<n/\e.2.1=HP j
 scope:1<=e.2.2/\e.2.2<=4
 other:e.1≠e.2.1
theorem bY{l:List E_}{s:DX}(h:0<=MT l s):∃(j:Nat) (x:E_),MT l s=j/\l[j]?=some x/\x.1=s:=by
 unfold MT at h ⊢;rcases LU (λp:E_=>decide (p.1=s)) l with⟨e,_⟩|⟨i,x,a,b,d,_⟩
 .omega
 grind
theorem A16{i j:Nat}(hi:i<12)(a:j<12)(h:i≠j):HP i≠HP j:=λe=>by
 rcases Nat.lt_or_gt_of_ne h with g|g
 .have:=A0z a g;grind
 .have:=A0z hi g;grind
theorem A17{t:F7}(hk:TaskOk t)(p:E_):(H2 t p).length<=12/\∀nd∈H2 t p,1<=nd.2.2/\nd.2.2<=4/\nd.1≠p.1:=by
 unfold H2;cases h:t.1.find? _ with
 |none=>simp
 |some o=>
  have a:=hk.reg.ok o (CQ h);have e:=List.find?_some (p:=λo:GZ=>decide _&&decide _) h;have i:=A5 (BA.1 e).1;refine⟨AT (B8 _ _) a.needs.few,λnd d=>?_⟩;have b:=(BM.1 d).1;exact⟨(a.needs.ok nd b).scope.1,(a.needs.ok nd b).scope.2,by rw[<-i];exact a.other nd b⟩
theorem AZn{t:F7}(hk:TaskOk t){l:List E_}(B:l.length<=12):∀e∈nE t l l,EdOk l.length e:=λe h=>by
 obtain⟨q,w,h⟩:=List.mem_flatten.1 h;obtain⟨i,s,rfl⟩:=List.mem_mapIdx.1 w;obtain⟨nd,a,rfl⟩:=B1.1 h;obtain⟨o,r⟩:=BM.1 a;obtain⟨j,x,y,b,z⟩:=bY (A5 r);obtain⟨d,k,A⟩:=(A17 hk _).2 nd o;obtain⟨v,rfl⟩:=A9.1 b;refine⟨.inr ⟨i,s,rfl⟩,⟨j,v,oc⟩,⟨d,k⟩,?_⟩;grind[HP,MT,A16]
theorem AZo{t:F7}(hk:TaskOk t){l:List E_}(v:l.length<=12):∀e∈HG t l l,EdOk l.length e:=λe h=>by
 rcases AS.1 h with h|h
 .obtain⟨nd,a,rfl⟩:=B1.1 h;obtain⟨k,o⟩:=BM.1 a;obtain⟨j,x,b,d,s⟩:=bY (A5 o);obtain⟨q,_⟩:=A9.1 d;have r:=(BM.1 k).1;have i:HP (MT l nd.1).toNat=HP j:=by rw[b];rfl
  refine⟨.inl rfl,⟨j,q,i⟩,(hk.needs.ok nd r).scope,?_⟩;grind[HE,HP,MT,A10,JY]
 grind[AZn]
theorem nF{t:F7}(hk:TaskOk t){l:List E_}:∀m:List E_,(HG t l m).length<=12+12*m.length:=λm=>by
 have a:∀k,k<=m.length->(HG t l (m.take k)).length<=12+12*k:=by
  intro k;induction k with
  |zero=>
   rw[CE,A14];have b:=A13 l HE (I6 t.2.2.1 t.2.1);have d:(I6 t.2.2.1 t.2.1).length<=t.2.1.length:=B8 _ _;have:=hk.needs.few;omega
  |succ k i=>
   intro h;rw[FN (A1 (show k<m.length by omega)),A15,AE];grind[A13,HP,H2,A17]
 have:=a m.length (AH _);grind
theorem AD0{t:F7}(s:TkB t)(k:BB t.2.2.2.2.2.2)(hc:JG t=some 0)(hk:TaskOk t){l:List E_}(b:LkOk l)(r:Right t l):BiOk true (I_,[],HE,HF::HQ l,HG t l l):=by
 have a:=b.few
 have d:∀{i:Nat},i<l.length→∃c∈HF::HQ l,c.1=HP i:=λ{i} B=>
  ⟨PO i l[i],AP _ (by unfold HQ;grind),rfl⟩
 have v:SM I_=some true:=by decide +kernel
 have w:SM []=some true:=by decide +kernel
 refine⟨⟨List.cons_ne_nil _ _,v⟩,w,⟨?_,?_⟩,λc o=>?_,λh=>(ol),⟨HF,AL,rfl⟩,λe q=>?_,λh=>(ol)⟩
 .grind[HQ,TF]
 .grind[nF,HG]
 .refine A12 s k hc b r c ?_;unfold IG;grind
 .obtain⟨x,⟨j,C,y⟩,z,A⟩:=AZo hk a e q;grind[HF,List.mem_cons_self]
section
variable{α:Type} [Inhabited α] [DecidableEq α]
theorem AZp(l:α->α->Prop)(C:∀a b,l a b\/a=b\/l b a)(tr:∀a b c,l a b->l b c->l a c)(d:List α)(x:d.Pairwise λa b=>¬l b a):
 (Lib.compact d).Pairwise l/\(∀s,s∈Lib.compact d<->s∈d)/\(Lib.compact d).length<=d.length:=by
 have w:∀m,m<=d.length->(Lib.compactUpTo d.toArray m).Pairwise l/\(∀s,s∈Lib.compactUpTo d.toArray m<->s∈d.take m)/\(Lib.compactUpTo d.toArray m).length<=m:=by
  intro m;induction m with
  |zero=>intro _;simp[Lib.compactUpTo]
  |succ m B=>
   intro E;obtain⟨v,o,D⟩:=B oa;have i:∀j (q:j<d.length),(d.toArray)[j]! =d[j]:=λj q=>oc
   have G:=BE.1 x;rw[Lib.compactUpTo_succ];have k:d.take (m+1)=d.take m++[d[m]]:=FN (A1 oa);cases hk:Lib.keeps d.toArray m with
   |true=>
    rw[if_pos rfl,i m oa];refine⟨?_,λs=>by rw[AS,k,AS,o],oc⟩;rw[C7];refine⟨v,D4 _ _,λs r t A=>?_⟩;obtain rfl:=AJ.1 A;have r:=(o s).1 r;obtain⟨j,q,rfl⟩:=CP r;have z:j<m:=by rw[AY]at q;omega
    rw[List.getElem_take];unfold Lib.keeps at hk;grind
   |false=>
    rw[if_neg oe,CG];refine⟨v,λs=>?_,oa⟩;unfold Lib.keeps at hk;have hk:=AF hk
    have y:d[m]=d[m-1]:=by
     have:¬(d.toArray)[m]!≠(d.toArray)[m-1]!:=λe=>hk (Or.inr e);rw[i m oa,i (m-1) oa]at this;exact Classical.not_not.1 this
    rw[o,k,AS,AJ,y];refine⟨Or.inl,λh=>h.elim id λh=>?_⟩;rw[h];exact C2.2 ⟨m-1,oa,rfl⟩
 simp_all[AH,Lib.compact,AG]
end
theorem AZq{t:F7}(r:TkB t)(o:BB t.2.2.2.2.2.2)(hc:JG t=some 0)(hk:TaskOk t){l:List E_}(k:LkOk l)(q:Right t l){j:List HX}(v:j.Perm (HG t l l))(D:j.Pairwise λa b=>¬IU b a):
 BiOk false (I_,[],HE,IG l,Lib.compact j):=by
 obtain⟨H,w,z⟩:=AZp IU A0y A0x j D;have d:=AD0 r o hc hk k q
 have s:∀c,c∈HF::HQ l->c∈IG l:=λc h=>by
  unfold IG;grind
 refine⟨d.name,d.vers,⟨(ACz r o hc k q).few,AT z (by rw[v.length_eq];exact d.few.2)⟩,A12 r o hc k q,λ_=>A11 k.few,?_,λe C=>?_,λ_ i x y E G=>?_⟩
 .obtain⟨c,Q,R⟩:=d.root;grind
 .obtain⟨K,L,⟨a,N,A⟩,⟨b,O,B⟩,M⟩:=d.edge e (v.mem_iff.1 ((w e).1 C));grind
 .obtain⟨T,rfl⟩:=A9.1 E;obtain⟨U,rfl⟩:=A9.1 G;obtain⟨c,I,J⟩:=ACt ((Lib.compact j)[i]) ((Lib.compact j)[i+1]);grind[List.pairwise_iff_getElem]
def OQ(x:IM):DX×DX:=(x.1,x.2.1)
noncomputable def wkF(advs:List G5)(k:DX×DX):Int:=PM advs k.1
noncomputable def PP(advs:List G5)(h:List IM):Int:=NT (wkF advs) [] (h.map OQ)
theorem AZr(a:List G5)(h:List IM)(x:IM):PP a (h++[x])=PP a h+(if OQ x∈h.map OQ then 0 else PM a x.1):=by
 unfold PP;rw[BL,List.map_singleton,AYY];by_cases e:OQ x∈h.map OQ
 .rw[if_pos e,if_pos (.inr e)]
 .rw[if_neg e,if_neg λg=>g.elim (λg=>by cases g) e];rfl
theorem AZs{α:Type} [DecidableEq α](w:α->Int){b:Int}(j:0<=b)(h:∀k,Bd (w k) b):∀(l GG:List α),Bd (NT w GG l) (b*l.length):=by
 intro l;induction l with
 |nil=>intro GG;show Bd 0 _;unfold Bd;simp
 |cons a l i=>
  intro GG;show Bd ((if a∈GG then 0 else w a)+NT w _ l) _;have d:=h a;have e:=i (a::GG);unfold Bd at *;rw[AX,Int.natCast_add,Int.mul_add];split<;>omega
theorem AZt(a:List G5)(id:DX):Bd (PM a id) 1000000000000:=by
 grind[PM,nB,Bd]
theorem AZu(a:List G5){h:List IM}(b:h.length<=100000):Bd (PP a h) 100000000000000000:=by
 have:=AZs (wkF a) oi (λk=>AZt a k.1) (h.map OQ) [];grind[List.length_map,PP,Bd,Int.mul_le_mul_of_nonneg_left]
theorem AZv{d:List G5}(q:d.Pairwise λa b=>a.1<b.1){cs:List G6}{h:List IM}(k:RD d cs h){x:IM}(hx:x∈h):
 ∃(n:Nat) (a:G5),HW (λa:G5=>decide (a.1=x.1)) d=n/\d[n]?=some a/\PM d x.1=MS a:=by
 obtain⟨a,o,_,e,_⟩:=(k x.1 x.2.1).1 ⟨x.2.2,hx⟩;rcases LU (λa:G5=>decide (a.1=x.1)) d with⟨_,j⟩|⟨n,y,l,j,i,_⟩
 .grind
 .have i:y.1=x.1:=A5 i;grind[ACw,List.mem_of_getElem?]
theorem AZw(h:List IM)(x:IM):OQ x∈h.map OQ<->∃y∈h,(decide (y.1=x.1)&&decide (y.2.1=x.2.1))=true:=by
 rw[B1];constructor
 .rintro⟨y,d,e⟩;have a:y.1=x.1:=congrArg (λk:DX×DX=>k.1) e;have b:y.2.1=x.2.1:=congrArg (λk:DX×DX=>k.2) e;grind
 .rintro⟨y,d,e⟩;obtain⟨a,b⟩:=BA.1 e;exact⟨y,d,Prod.ext (A5 a) (A5 b)⟩
section
variable{t:F7}(ht:TkB t)(hB:BB t.2.2.2.2.2.2)(hc:JG t=some 0)
include ht hB hc
theorem AZx{l:List E_}(hk:LkOk l)(d:Right t l)(a:QV t.2.2.2.2.2.2){h:List IM}(b:RD t.2.2.2.2.2.2.2.1 (IG l) h):PP t.2.2.2.2.2.2.2.1 h=sI (l.map (MQ t)):=
 (AZg (ACx a) (A11 hk.few) b).trans (AZk ht hB hc hk d a)
theorem AZy(hk:TaskOk t){l:List E_}{c:C3}(i:LkOk l)(k:Right t l)(h:LP (t,l)=some c)(e:∀y,LkOk y->Right t y->∃d,LP (t,y)=some d/\¬ID d c)
 {o:List HX}(v:o.Perm (HG t l l))(w:o.Pairwise λa b=>¬IU b a):
 Tot (aC (t.2.2.2.2.2.2,(I_,[],HE,IG l,Lib.compact o))) (λq=>q.2=0/\q.1.length<=100000/\PP t.2.2.2.2.2.2.2.1 q.1=c.1/\RD t.2.2.2.2.2.2.2.1 (IG l) q.1)/\
 NJ (wO t l)=some (l,(c.1,0,0),true,0):=by
 obtain⟨r,s⟩:=AYR ht hB hc i k h e;refine⟨(AZf hB hk.base (AZq ht hB hc hk i k v w) (ACz ht hB hc i k)).mono λq j=>⟨j.1,j.2.1,?_,j.2.2⟩,s⟩;rw[r];exact AZx ht hB hc i k hk.base j.2.2
end
theorem AD1{i:Nat}(h:i<100):UL (i:Int)=some (HP i):=by
 have a:((List.range 100).all λi=>decide (UL (i)=some (HP i)))=true:=oh
 grind
theorem AD2(d:DX)(a:List FZ)(l:List E_)(b:MR)(D:l.length<=12)(E:a.length<=12)(C:b.2.2.2.2.length<=1000):
 SL (d,a,l,b)=some (b.1,b.2.1,b.2.2.1,b.2.2.2.1,b.2.2.2.2++KI l d a):=by
 unfold SL;dsimp only
 have:xF (d,l,(b.1,b.2.1,b.2.2.1,b.2.2.2.1,b.2.2.2.2),a,(a.length),0)=some (b.1,b.2.1,b.2.2.1,b.2.2.2.1,b.2.2.2.2++KI l d a):=by
  refine GY (FH a.length (λe i=>(d,l,(b.1,b.2.1,b.2.2.1,b.2.2.2.1,e),a,(a.length:Int),i)) (λi e=>e=b.2.2.2.2++KI l d (a.take i)) oa (λnext e i k s B=>?_) (λnext e s=>?_) _ (by simp[KI]))
  .unfold xE;dsimp only
   have z:∀x:E_,(jZ (x,some a[i])).bind (λr=>some r)=some (decide (x.1=a[i].1)):=λx=>by
    grind[jZ,E4]
   have t:e.length<=1012:=by
    rw[s,AE];have:=A13 l d (a.take i);rw[AY]at this;omega
   rw[EK,A4 k,A8,F8 (A1 k),A0,ABq l _ _ z oa,FD oa];have o:=AZl l d (a.take i) a[i];rw[←FN (A1 k)]at o;refine D_.2 ⟨λh=>?_,λh=>?_⟩
   .have q:0<=MT l _:=A5 h;obtain⟨j,x,v,w,_⟩:=bY q;obtain⟨A,_⟩:=A9.1 w;have y:HW _ l=(j):=v;rw[y,AD1 oa,A0];refine DY.2 (FT.2 ⟨oc,?_⟩);grind
   .have q:¬0≤MT l a[i].1:=AF h;grind
  .simp_all[xE,EK,A7,AC,AA,DZ,AG]
 rw[this];rfl
noncomputable def RE(t:F7)(l:List E_)(m:List E_):MR:=(I_,[],HE,HF::HQ m,HG t l m)
section
variable{t:F7}(ht:TkB t)(hB:BB t.2.2.2.2.2.2)(hc:JG t=some 0)(hk:TaskOk t)
include ht hB hc hk
theorem AZz{l:List E_}(e:LkOk l)(r:Right t l)(z:MR):
 kL (t,l,z,RE t l [],l,(l.length:Int),0)=some (.inl (z,RE t l l)):=by
 have a:=e.few;have d:∀o∈t.1,o.2.2.1.length<=1048576:=λo d=>by have:=(hk.reg.ok o d).needs.few;omega
 refine GY (FH l.length (λ_ i=>(t,l,z,RE t l (l.take i.toNat),l,(l.length:Int),i)) (λ_ _=>True) oa (λnext _ i b _ q=>?_) (λnext _ _=>?_) () trivial)
 .unfold xV;dsimp only;obtain⟨n,j,k,_⟩:=bX ht hB hc e r l[i] (AU b);rw[EK,A4 b,F8 (A1 b),A0,j,A0];rw[k,A0,show(!(E1 _ 0))=false from rfl,AD1 oa,A0,FD oa];refine DY.2 (FT.2 ⟨?_,?_⟩)
  .show((HF::HQ _).length+1)*240<=_;rw[AX,TF,AY];omega
  .rw [A0,mN t l[i] ht.offers d,A0,AD2 _ _ _ _ a (A17 hk l[i]).1 (by
    have:=nF (l:=l) hk (l.take i);rw[AY]at this;show(HG t l (l.take i)).length<=1000;omega)]
   have h:=q () trivial;rw[show(((i:Int)+1).toNat)=i+1 by omega,FN (A1 b)]at h;unfold RE at h;rw[A15,AZm,AY,DH oa]at h;exact h
 .unfold xV;dsimp only;rw[EK,A7 (AC _),AK,AG];exact DZ.2 rfl
end
theorem AD3{l:List E_}(K:l.length<=12)(o:DX){d:List FZ}(B:d.Pairwise λa b=>a.1<b.1):(KI l o d).Pairwise λa b=>a≠b:=by
 unfold KI;rw[List.pairwise_map];refine List.Pairwise.imp_of_mem (λ{a b} E q C e=>?_) (B.filter _);have z:=A5 (BM.1 E).2;have A:=A5 (BM.1 q).2;obtain⟨i,x,s,t,G⟩:=bY z;obtain⟨j,y,v,w,H⟩:=bY A;have r:=congrArg (λk:HX=>k.2.1) e;rw[s,v,AK]at r;obtain⟨I,_⟩:=A9.1 t;obtain⟨J,_⟩:=A9.1 w;have D:=C0 λh=>A16 oa oa h r;grind
theorem A18{l:List E_}{a:DX}{b:List FZ}{e:HX}(h:e∈KI l a b):e.1=a:=by
 obtain⟨nd,_,rfl⟩:=B1.1 h;rfl
theorem A_0{t:F7}(hk:TaskOk t){l:List E_}(r:l.length<=12):(HG t l l).Pairwise λa b=>a≠b:=by
 have q:∀p,(H2 t p).Pairwise _:=λp=>by
  unfold H2;cases h:t.1.find? _ with
  |none=>simp
  |some o=>exact(hk.reg.ok o (CQ h)).needs.asc.filter _
 have j:∀k,k<=l.length->(HG t l (l.take k)).Pairwise (λa b=>a≠b)/\∀e∈HG t l (l.take k),e.1=HE\/∃i,i<k/\e.1=HP i:=by
  intro k;induction k with
  |zero=>
   intro _;rw[CE,A14];exact⟨AD3 r _ (hk.needs.asc.filter _),λe d=>.inl (A18 d)⟩
  |succ k w=>
   intro v;obtain⟨s,x⟩:=w oa;rw[FN (A1 (show k<l.length by omega)),A15,AY,DH oa];refine⟨C7.2 ⟨s,AD3 r _ (q _),λa y b z e=>?_⟩,λe d=>?_⟩
   .grind[A18,A10,JY,A16]
   .rcases AS.1 d with d|d
    .grind
    grind[A18]
 have:=(j l.length (AH _)).1;grind
theorem A_1{t:F7}(hk:TaskOk t){l:List E_}(J:l.length<=12){o:List HX}(E:o.Perm (HG t l l)):kJ o=some (Lib.compact o):=by
 have z:o.Pairwise λa b=>a≠b:=E.symm.pairwise (A_0 hk J) (λ{a b} h e=>h e.symm);have D:o.length<=1000:=by rw[E.length_eq];have:=nF (l:=l) hk l;omega
 have r:=BE.1 z
 have q:Lib.compact o=o:=Lib.compact_all o λj O=>by
  unfold Lib.keeps;grind
 rw[q];unfold kJ
 have v:kI (o,1)=some o:=by
  unfold kI;refine GY (F6 (λx=>x.1=o/\1<=x.2/\x.2<=1001) (λx=>1001-x.2.toNat) (λnext x A y=>?_) fuel _ ⟨rfl,AR 1,oa⟩ (by grind[fuel]));obtain⟨s,i⟩:=x;have H:s=o:=A.1;have M:1<=i:=A.2.1;have N:i<=1001:=A.2.2;subst H;have g:∀(k:Nat) (h:k<s.length) (d:HX),s.getD k d=s[k]:=λk h d=>oc
  unfold A4q;dsimp only;refine D_.2 ⟨λC=>?_,λC=>DZ.2 rfl⟩;have I:i<(s.length:Int):=A5 C;rw[EQ (n:=i-1) oa oa,EQ (n:=i+1) oa oa];refine DY.2 (FJ.2 ⟨⟨oa,I⟩,?_⟩);refine DY.2 (FJ.2 ⟨⟨oa,oa⟩,?_⟩);have w:=r (i-1).toNat i.toNat oa oa oa;rw[g i.toNat oa,g (i-1).toNat oa];refine D_.2 ⟨λG=>?_,λ_=>y _ ⟨rfl,oa,oa⟩ oa⟩;exfalso;rw[E4,E4,E0]at G;obtain⟨K,B⟩:=BA.1 G;obtain⟨B,L⟩:=BA.1 B;exact w (Prod.ext (A5 K).symm (Prod.ext (A5 B).symm (A5 L).symm))
 grind
theorem AD4:∃n,fuel=n+2:=⟨fuel-2,by rfl⟩
theorem nG{k m:Nat}(h:m<k):in? k (m:Int)=some ():=by
 grind[in?,decide_eq_true]
section
variable(C:G6×G6->Option Int)(hC:∀a b,∃c,C (a,b)=some c/\(c<0<->a.1<b.1))
include hC
theorem A_2(next)(xs ys:List G6)(r p:G6)(k:(xs++r::p::ys).length<=1000)(j:p.1<r.1):
 VN next (xs++r::p::ys,0,C,((xs.length+1:Nat):Int))=next (xs++p::r::ys,0,C,(xs.length:Int)):=by
 have o:xs.length+(ys.length+2)<=1000:=by
  rw[AE,AX]at k;omega
 have q:IntKind.i64.wrap (((xs.length+1:Nat))-1)=(xs.length):=by rw[EQ oa oa];omega
 have i:∀d,(xs++r::p::ys).getD (xs.length+1) d=p:=λd=>by simp[List.getD]
 have h:∀d,(xs++r::p::ys).getD xs.length d=r:=λd=>by simp[List.getD]
 have t:(xs++r::p::ys).set (xs.length+1) r=xs++r::r::ys:=oe
 have s:(xs++r::r::ys).set xs.length p=xs++p::r::ys:=oe
 have l:(xs++r::p::ys).length=xs.length+(ys.length+2):=oe
 have a:(xs++r::r::ys).length=xs.length+(ys.length+2):=oe
 obtain⟨c,e,b⟩:=hC p r;unfold VN;dsimp only
 rw [q,AK,AK,A4 (show (0)<((xs.length+1:Nat):Int) by omega),A8,A8,A8,i,h,t,s,l,a,
  nG (show xs.length+1<xs.length+(ys.length+2) by omega),nG (show xs.length<xs.length+(ys.length+2) by omega),A0,A0,e,A0,A4 (b.2 j),Bool.and_self,A8,A0,A0,A0,A0]
theorem A_3(next)(xs ys:List G6)(p:G6)(q:(xs++p::ys).length<=1000)(o:∀x∈xs,¬p.1<x.1):
 VN next (xs++p::ys,0,C,(xs.length:Int))=some (xs++p::ys):=by
 rcases List.eq_nil_or_concat xs with rfl|⟨a,z,rfl⟩
 .rfl
 .have b:(a.concat z).length=a.length+1:=oe
  have r:a.length+(ys.length+2)<=1000:=by
   rw[AE,AX]at q;omega
  have i:IntKind.i64.wrap (((a.length+1:Nat))-1)=(a.length):=by rw[EQ oa oa];omega
  have k1:∀d,(a.concat z++p::ys).getD (a.length+1) d=p:=λd=>by simp[List.getD]
  have k0:∀d,(a.concat z++p::ys).getD a.length d=z:=λd=>by simp[List.getD]
  have l:(a.concat z++p::ys).length=a.length+(ys.length+2):=by rw[AE,AX];omega
  obtain⟨s,j,k⟩:=hC p z;have e:=λh=>o z oe (k.1 h);unfold VN;dsimp only
  rw [b,i,AK,AK,A4 (show (0)<((a.length+1:Nat):Int) by omega),A8,A8,A8,k1,k0,l,
   nG (show a.length+1<a.length+(ys.length+2) by omega),nG (show a.length<a.length+(ys.length+2) by omega),A0,A0,j,A0,A7 e,Bool.and_false,AA]
theorem A_4(xs ys:List G6)(r p:G6)(b:(xs++r::p::ys).length<=1000)(h:p.1<r.1)(a:∀x∈xs,¬p.1<x.1):
 kC (xs++r::p::ys,0,C,((xs.length+1:Nat):Int))=some (xs++p::r::ys):=by
 obtain⟨n,d⟩:=AD4;unfold kC;show VN _ _=_;rw[A_2 C hC _ xs ys r p b h];refine A_3 C hC _ xs _ p ?_ a;grind
theorem A_5(r:G6)(N:Nat)(v:N<=1000):∀(d ps:List G6) (k:Nat),d.length<k->ps.length+d.length+1=N->(∀q∈d,q.1<r.1)->(ps++d).Pairwise (λa b=>a.1<b.1)->
 E8 SO k (ps++r::d,0,(N:Int),C,((ps.length+1:Nat):Int))=some (ps++d++[r]):=by
 intro d;induction d with
 |nil=>
  intro ps k hk e l s;obtain⟨k,rfl⟩:∃m,k=m+1:=⟨k-1,oa⟩;simp_all[SO,E8,A7,AA,CG]
 |cons q d t=>
  intro ps k hk e l s;obtain⟨k,rfl⟩:∃m,k=m+1:=⟨k-1,oa⟩;show SO (E8 SO k) _=_;have e:ps.length+(d.length+1)+1=N:=e;have hk:d.length+1<k+1:=hk;have j:=t (ps++[q]) k oa oc (λx o=>l x (AP _ o)) oc;rw[AE]at j;have i:=A_4 C hC ps d r q oc (l q AL) (λx o h=>bC h ((C7.1 s).2.2 x o q AL));generalize E8 SO k=next at j ⊢
  unfold SO;dsimp only;rw[A4 oa,A8,i,A0,FD oa];grind
theorem A_6(r:G6)(ps:List G6)(i:ps.length<=900)(e:∀p∈ps,p.1<r.1)(d:ps.Pairwise λa b=>a.1<b.1):
 Z_ (r::ps,0,((ps.length+1:Nat):Int),C)=some (ps++[r]):=by
 unfold Z_;dsimp only;have h:=A_5 C hC r (ps.length+1) oa ps [] fuel (by unfold fuel;omega) oe e d;have h:xO (r::ps,0,((ps.length+1:Nat)),C,1)=some (ps++[r]):=h;rw[show IntKind.i64.wrap _=1 from oi,h,A0]
theorem A_7(r:G6)(ps:List G6)(l:ps.length<=12)(e:∀p∈ps,p.1<r.1)(d:ps.Pairwise λa b=>a.1<b.1):
 kF (r::ps,C)=some (ps++[r]):=by
 obtain⟨n,k⟩:=AD4;have h:=A_6 C hC r ps oa e d;unfold kF xR xP xQ;dsimp only
 have i:E8 kD fuel (r::ps,(((r::ps).length)),C,20,0,20)=some (r::ps,0):=by
  show kD _ _=_;unfold kD;dsimp only;rw[AX,A7 oa,AA]
 have j:E8 kE fuel (ps++[r],(((r::ps).length)),C,20)=some (ps++[r]):=by
  show kE _ _=_;unfold kE;dsimp only;rw[AX,A7 oa,AA]
 grind
end
theorem A_8{l:List (DX×DX)}(h:l.length<=1048576):kA l=some l:=by
 unfold kA xM;grind[A0X]
theorem A_9:xN []=some []:=by
 rfl
theorem A_A{l:List HX}(h:l.length<=1048576):kH l=some l:=by
 unfold kH xS;grind[A0X]
structure CoT(c:G6):Prop where
 ok:CoOk c
 few:c.2.1.2.2.2.2.1.length<=1048576
 can:KD c.2.1=some c.2.1
theorem A_B{c:G6}(h:CoT c):kB c=some c/\SI c.2.1=some (c.2.1,0):=by
 obtain⟨ref,p,d,l,f⟩:=c;obtain⟨⟨j,a,e,k,i⟩,o,b⟩:=h;subst e i;constructor
 .simp_all[kB,A_8,A0,A_9,ABk]
 .unfold SI;dsimp only at a b ⊢;rw[a,A0,show(!(E1 _ 0))=false from rfl,AA,b,A0]
theorem A_C(b:MR)(s:b.2.2.2.1.length<=1000)(hc:∀c∈b.2.2.2.1,CoT c):
 xU ((b.1,b.2.1,b.2.2.1,[],b.2.2.2.2),b.2.2.2.1,(b.2.2.2.1.length:Int),0)=some b:=by
 refine GY (FH b.2.2.2.1.length (λa i=>((b.1,b.2.1,b.2.2.1,a,b.2.2.2.2),b.2.2.2.1,(b.2.2.2.1.length:Int),i)) (λi a=>a=b.2.2.2.1.take i) oa (λnext a i d o q=>?_) (λnext a o=>?_) [] rfl)
 .unfold xT;dsimp only;have e:=hc _ (AU d);obtain⟨j,k⟩:=A_B e;have l:=e.ok.files;rw[EK,A4 d,F8 (A1 d),A0,j,A0,k,A0,l,FD oa];have r:slices_Sort_string []=some []:=by unfold slices_Sort_string;rw[List.mergeSort_nil]
  have h:slices_Compact_string []=some []:=rfl;rw[r,A0,h,A0];grind[List.length_take,DY,FT,FN,List.getElem?_eq_getElem]
 simp_all[xT,EK,A7,AC,AA,DZ,AG]
theorem A_D(z b:MR)(B:b.2.2.2.1.length<=1000)(s:b.2.2.2.1.Pairwise λa c=>a.1<c.1):kK (z,b,1)=some (.inl (z,b)):=by
 refine GY (F6 (λx=>x.1=z/\x.2.1=b/\1<=x.2.2/\x.2.2<=1001) (λx=>1001-x.2.2.toNat) (λnext x l w=>?_) fuel _ ⟨rfl,rfl,AR 1,oe⟩ (by grind[fuel]));obtain⟨y,j,i⟩:=x;have q:y=z:=l.1;have r:j=b:=l.2.1;have A:1<=i:=l.2.2.1;subst q r;have g:∀(k:Nat) (h:k<j.2.2.2.1.length) (d:G6),j.2.2.2.1.getD k d=j.2.2.2.1[k]:=λk h d=>oc
 unfold A4r;dsimp only;refine D_.2 ⟨λo=>?_,λo=>DZ.2 rfl⟩;have t:=A5 o;rw[EQ oa oa,EQ oa oa];refine DY.2 (FJ.2 ⟨⟨oa,t⟩,?_⟩);refine DY.2 (FJ.2 ⟨⟨oa,oa⟩,?_⟩);have v:=BE.1 s (i-1).toNat i.toNat oa oa oa;rw[g _ oa,g _ oa,E4,A7 (λe=>oc),AA];grind
theorem A_E(a b:G6):∃c,(kG (a,b)).bind (λr=>some r)=some c/\(c<0<->a.1<b.1):=by
 refine⟨J9 a.1 b.1,?_,mA _ _⟩;grind[kG,m9]
theorem A_F:CoT HF:=⟨ACy,oi,AZj⟩
section
variable{t:F7}(ht:TkB t)(hB:BB t.2.2.2.2.2.2)(hc:JG t=some 0)(hk:TaskOk t)
include ht hB hc hk
theorem A_G{l:List E_}(b:LkOk l)(j:Right t l):∀c∈HQ l,CoT c:=λc a=>by
 have d:=A12 ht hB hc b j c (CH _ a);obtain⟨i,x,s,rfl⟩:=nC a;have o:=AI s;obtain⟨n,k,_,_,h,_⟩:=bX ht hB hc b j x o;refine⟨d,?_,h⟩;obtain⟨_,v⟩:=TB ht b j;obtain⟨r,w⟩:=v x o;obtain⟨y,_,_⟩:=RB r w (b.ok x o);obtain⟨p,m,e,z⟩:=A0b r y;rw[k]at e;have:NU x.1=p:=congrArg (λq:Pu×Int×Int=>q.1) (A2 e);show(NU x.1).2.2.2.2.1.length<=1048576;grind
theorem A_H{l:List E_}(C:LkOk l)(G:Right t l):∃j:List HX,j.Perm (HG t l l)/\(j.Pairwise λa b=>¬IU b a)/\
 aA (RE t l l)=some ((I_,[],HE,IG l,Lib.compact j),0):=by
 have e:=C.few
 have s:∀c∈HF::HQ l,CoT c:=λc h=>by
  rcases B2.1 h with rfl|h
  .exact A_F
  grind[A_G]
 have k:(HF::HQ l).length<=1000:=by rw[AX,TF];omega
 have i:(IG l).length<=1000:=by unfold IG;rw[AE,TF];show l.length+1<=_;omega
 have d:=A11 e;have w:(HQ l).Pairwise λa c=>a.1<c.1:=(C7.1 d).1;have y:∀p∈HQ l,p.1<HF.1:=λp o=>(C7.1 d).2.2 p o HF (List.mem_singleton_self _);have z:(HG t l l).length<=1048576:=by have:=nF (l:=l) hk l;omega
 have E:∀a b:HX,∃c,(λx=>(OG x).bind λr=>some r) (a,b)=some c/\(c<0<->IU a b):=λa b=>by
  simp_all[ACt]
 obtain⟨j,v,o,H⟩:=ACr (HG t l l) (λx=>(OG x).bind λr=>some r) IU E ACs A0x AZW;refine⟨j,o,H,?_⟩;unfold aA;rw[show RE t l l=(I_,[],HE,HF::HQ l,HG t l l)from rfl,ACp (AD0 ht hB hc hk C G),A0,show(!(E1 (0:Int) 0))=false from rfl,AA];have B:=A_C (I_,[],HE,HF::HQ l,HG t l l) k s;dsimp only at B ⊢;rw[B,A0];dsimp only;rw[A_7 _ A_E HF (HQ l) (by rw[TF];exact e) y w,A0];have D:=A_D (([]:DX),([]:DX),([]:DX),([]:List G6),([]:List HX)) (I_,[],HE,IG l,HG t l l) i d;have q:kK (([],[],[],[],[]),(I_,[],HE,HQ l++[HF],HG t l l),1)=some (.inl (([],[],[],[],[]),(I_,[],HE,HQ l++[HF],HG t l l))):=D;rw[q,A0];dsimp only;rw[A_A z,A0];have A:rF (HG t l l,λx=>(OG x).bind λr=>some r)=some j:=v;rw[A,A0,A_1 hk e o];rfl
theorem A_I{l:List E_}(i:LkOk l)(j:Right t l):VM (t,l)=some 0:=by
 obtain⟨a,d⟩:=TB ht i j;unfold VM;dsimp only;have h:=A0k l a d;obtain⟨e,k,b⟩:=h;grind
theorem A_J{l:List E_}(i:LkOk l)(q:Right t l):∃e:List HX,e.Perm (HG t l l)/\(e.Pairwise λa b=>¬IU b a)/\
 aB (t,l,I_)=some ((I_,[],HE,IG l,Lib.compact e),0):=by
 obtain⟨e,v,w,x⟩:=A_H ht hB hc hk i q;refine⟨e,v,w,?_⟩;have z:xD I_=some true:=by decide +kernel
 unfold aB;dsimp only;rw[A_I ht hB hc hk i q,A0,show(!(E1 _ 0))=false from rfl,z,A0,BS,bG t t.2.1 ht.needs];have j:(I6 t.2.2.1 t.2.1).length<=12:=AT (B8 _ _) hk.needs.few;have o:=AD2 HE _ l (I_,[],HE,[HF],[]) i.few j oi
 have h:SL (HE,I6 t.2.2.1 t.2.1,l,(I_,[],HE,[HF],[]))=some (RE t l []):=by
  rw[o];unfold RE;rw[A14];rfl
 have k:=AZz ht hB hc hk i q (([]),([]),([]),([]),([]))
 have key:((SL (HE,I6 t.2.2.1 t.2.1,l,(I_,[],HE,[HF],[]))).bind λA =>
  (kL (t,l,(([]),([]),([]),([]),([])),A,l,(l.length),0)).bind λs=>match s with
   | .inl d=>(aA (d.2.1,d.2.2.1,d.2.2.2.1,d.2.2.2.2.1,d.2.2.2.2.2)).bind λr=>some (r.1,r.2)
   | .inr y=>some (y.1,y.2))=some ((I_,[],HE,IG l,Lib.compact e),0):=by
  rw[h,A0,k,A0];dsimp only;have:=x;rw[this];rfl
 exact key
end
theorem A_K(l:List IM)(f:IM->Option Bool)(p:IM->Bool)(d:∀x,f x=some (p x))(e:l.length<4611686018427387904):kP (l,f)=some (HW p l):=by
 unfold kP;dsimp only
 have:Tot (yG (l,f,(l.length),(0))) (λq=>(match q with| .inl _=>-1| .inr y=>y)=HW p l):=by
  refine FH _ (λ_ i=>(l,f,(l.length:Int),i)) (λi _=>∀y∈l.take i,p y=false) e (λnext _ i a b j=>?_) (λnext _ b=>?_) () oe
  .unfold yF;dsimp only;rw[EK,A4 a,A8,F8 (A1 a),A0,d];refine D_.2 ⟨λh=>DZ.2 ?_,λh=>?_⟩
   .exact(WD (A1 a) h b).symm
   .rw[FD oa];refine j () ?_;intro y k;rw[FN (A1 a),AS,AJ]at k;grind
  .simp_all[yF,EK,A7,AC,AA,DZ,bE,AG]
 obtain⟨q,o,r⟩:=this;grind
theorem A_L(l:List G5)(f:G5->Option Bool)(p:G5->Bool)(d:∀x,f x=some (p x))(e:l.length<4611686018427387904):kS (l,f)=some (HW p l):=by
 unfold kS;dsimp only
 have:Tot (yI (l,f,(l.length),(0))) (λq=>(match q with| .inl _=>-1| .inr y=>y)=HW p l):=by
  refine FH _ (λ_ i=>(l,f,(l.length:Int),i)) (λi _=>∀y∈l.take i,p y=false) e (λnext _ i a b j=>?_) (λnext _ b=>?_) () oe
  .unfold yH;dsimp only;rw[EK,A4 a,A8,F8 (A1 a),A0,d];refine D_.2 ⟨λh=>DZ.2 ?_,λh=>?_⟩
   .exact(WD (A1 a) h b).symm
   .rw[FD oa];refine j () ?_;intro y k;rw[FN (A1 a),AS,AJ]at k;grind
  .simp_all[yH,EK,A7,AC,AA,DZ,bE,AG]
 obtain⟨q,o,r⟩:=this;grind
theorem AD5:jV ()=some true:=by decide +kernel
theorem A_M(l:List IM)(x:IM)(b:l.length<4611686018427387904):kQ (l,λy=>(aD (y,some x)).bind λr=>some r)=some (decide (OQ x∈l.map OQ)):=by
 have a:∀y:IM,(λy=>(aD (y,some x)).bind λr=>some r) y=some (decide (y.1=x.1)&&decide (y.2.1=x.2.1)):=λy=>by
  unfold aD;dsimp only;rw[A0,E4];by_cases h:y.1=x.1<;>simp_all[A4,A8,A0,E4,A7]
 unfold kQ;dsimp only;rw[A_K l _ _ a b,A0]
 congr 1
 refine decide_eq_decide.2 ?_;rw[AZw];rcases LU (λy:IM=>decide (y.1=x.1)&&decide (y.2.1=x.2.1)) l with⟨e,h⟩|⟨i,y,e,d,j,_⟩
 .grind
 grind
theorem A_N{t:F7}(I:t.2.2.2.2.2.2.2.1.Pairwise λa b=>a.1<b.1)(M:t.2.2.2.2.2.2.2.1.length<=2000){cs:List G6}{h:List IM}(L:h.length<=100000)(E:RD t.2.2.2.2.2.2.2.1 cs h):
 yM (t,h,0,h,(h.length:Int),0)=some (t,PP t.2.2.2.2.2.2.2.1 h):=by
 refine GY (FH (σ:=Int) h.length (λn i=>(t,h,n,h,(h.length:Int),i)) (λi n=>n=PP t.2.2.2.2.2.2.2.1 (h.take i)) oa (λnext n i q G H=>?_) (λnext n G=>?_) 0 rfl)
 .unfold yL;dsimp only;have J:=AU q
  have j:cut? h (0:Int) (i:Int)=some (h.take i):=by
   refine GY (HL.2 ⟨⟨oa,oa,oa⟩,?_⟩);simp
  have l:=AZr t.2.2.2.2.2.2.2.1 (h.take i) h[i];rw[<-FN (A1 q)]at l;have s:=AZu t.2.2.2.2.2.2.2.1 (h:=h.take i) oc;rw[EK,A4 q,A8,F8 (A1 q),A0,j,A0,A_M _ _ oc,A0,FD oa];refine D_.2 ⟨λz=>?_,λz=>?_⟩
  .grind
  .rw[if_neg (AF z)]at l;obtain⟨k,a,A,B,K⟩:=AZv I E J
   have D:∀y:G5,(λy=>(kR (y,some h[i])).bind λr=>some r) y=some (decide (y.1=h[i].1)):=λy=>by
    simp_all[kR,A0,E4]
   rw[A_L _ _ _ D oa,A0,A,F8 B,A0];obtain⟨v,w⟩:=nB a;unfold Bd at s v;refine D_.2 ⟨λo=>?_,λo=>?_⟩
   .have d:a.2.2.2.2.2.1≠[]:=λe=>by rw[e]at o;cases o
    obtain⟨e,C⟩:=w d;rw[C,A0];grind[EQ]
   .have d:a.2.2.2.2.2.1=[]:=by
     rw[E4]at o;simpa using o
    have x:MS a=100:=by unfold MS;rw[if_pos d]
    grind[EQ]
 simp_all[yL,EK,A7,AC,AA,DZ,AG]
theorem A_O(t:F7)(j:TkB t)(s:BB t.2.2.2.2.2.2):kU t=some true:=by
 obtain⟨e,v,J⟩:=A0l t j s;unfold kU;dsimp only;by_cases E:e=0
 .subst E;have hk:=(J.1 rfl).2;rcases ACQ j s hk v with⟨G,_⟩|⟨l,c,G,x,y,d,o⟩
  .simp_all[A0,A8,AD5]
  .obtain⟨k,z⟩:=TB j x y;obtain⟨w,L,C,D⟩:=AYG j v l k z;have H:=C.2 x;have U:=(D H).2 y;obtain⟨I,M,N,b⟩:=A_J j s v hk x y;obtain⟨A,B⟩:=AZy j s v hk x y d o M N;obtain⟨q,K,O,Q,R,T⟩:=A;have i:=A_N (t:=t) (ACx hk.base) hk.base.2.1 Q T;have a:aB (t,l,[97,112,112])=some ((I_,[],HE,IG l,Lib.compact I),0):=b;have h:∀n:Int,E1 n n=true:=λn=>by rw[E0];simp
   rw[G,A0];dsimp only;rw[show((!(E1 (0:Int) 0))||(!true))=false from rfl,AA,L,A0,a,A0];dsimp only;rw[K,A0,H,U,O,show((((!(E1 (0:Int) 0))||(!(E1 (0:Int) 0)))||(!(E1 (0:Int) 0)))||(decide ((0:Int)<((([]:List (Int×DX×DX)).length:Nat):Int))))=false from rfl,AA,i,A0];dsimp only;have r:NJ (t.1,t.2.1,t.2.2.1,l,t.2.2.2.2)=some (l,(c.1,0,0),true,0):=B;rw[r,A0,R];dsimp only;rw[h,h,show((true&&true)&&true)=true from rfl,A8,AYF l l oa,A0,A4 rfl];rfl
 .have V:(!(E1 e (0:Int)))=true:=by rw[E0,A7 E];rfl
  simp_all[NJ,A0,Bool.true_or,A8,AD5]
end Go.Ev.Pv
