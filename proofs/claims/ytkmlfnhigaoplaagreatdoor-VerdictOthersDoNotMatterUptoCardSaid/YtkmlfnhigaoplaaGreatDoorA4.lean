/-
  The law as plain Lean, third part: reaching, the findings, and the law.
-/
import Derived.Test.YtkmlfnhigaoplaaGreatDoorA2
set_option linter.all false
set_option maxRecDepth 100000
namespace Go.Ev.Pv
abbrev TZ:=DM×Int×Int
abbrev HJ:=DM×List (Int×Int)×Int
abbrev IS:=Int×Bool
abbrev FI:=List (IS×Bool)
def A7S{α d e:Type}{f:α->d->Option (Sum d e)}(J:d->Prop)(Q:e->Prop):∀(l:List α),(∀a∈l,∀u,J u->Tot (f a u) (λz=>match z with| .inl v=>J v| .inr c=>Q c))->∀u,J u->Tot (FF f l u) (λz=>match z with| .inl v=>J v| .inr c=>Q c):=by
 intro l;induction l with
 |nil=>intro _ u b;exact DO.2 b
 |cons a l m=>
  intro h u b;refine DN.2 ((h a AE u b).mono λz j=>?_);grind[List.mem_cons_of_mem,DO]
theorem o_(r:TZ)(h:0<=r.2.1):Tot (L2 (some r)) (λc=>c=0\/r.2.1<r.1.length):=
 (TT.1 (some r) ⟨r,rfl,h⟩).mono λc a=>a.2.imp id λ⟨y,h1,b⟩=>oc
def ItR(s:DM)(a:Int)(q:Sum (TZ×List (Int×Int)) (TZ×List (Int×Int)×Bool)):Prop:=match q with
 | .inl y=>y.1.1=s/\a<=y.1.2.1/\y.1.2.1<=s.length/\(y.2.length:Int)+a<=y.1.2.1
 | .inr y=>y.1.1=s/\a<=y.1.2.1/\y.1.2.1<=s.length/\y.2.1=[]/\(y.2.2=true->a+1<=y.1.2.1)
def PtR(s:DM)(q:Sum (TZ×HJ×HJ) (TZ×HJ)):Prop:=match q with
 | .inl y=>y.1.1=s/\0<=y.1.2.1/\y.1.2.1<=s.length/\(y.2.2.2.1.length:Int)<=y.1.2.1
 | .inr y=>y.2.2.1.length<=s.length
def zb{p:Prop}(h:p:=by grind[DN,F9,List.length_singleton,List.length_append]):p:=h
def A7T(s:DM)(a b:Int)(U:s.length<=1048576)(h0:0<=a)(h1:a<=s.length)(I:Bool):
 Tot (aB ((s,(a,b)),I)) (λq=>q.2.2.1=s/\a<=q.2.2.2.1/\q.2.2.2.1<=s.length/\(q.1.length:Int)+a<=q.2.2.2.1/\(q.2.1=true->a+1<=q.2.2.2.1)):=by
 unfold aB;dsimp only;refine DN.2 (Tot.mono (P:=ItR s a) ?_ λq p=>?_)
 .refine ES (R:=ItR s a) (λx:TZ×Bool×List (Int×Int)=>x.1.1=s/\a<=x.1.2.1/\x.1.2.1<=s.length/\(x.2.2.length:Int)+a<=x.1.2.1) (λx=>((s.length:Int)-x.1.2.1).toNat) (λnext x O T=>?_) fuel ((s,(a,b)),I,[]) ⟨rfl,AS _,h1,oh⟩ (by grind[fuel]);obtain⟨⟨m,at_,d⟩,I,l⟩:=x;obtain⟨i1,M,H,N⟩:=O;dsimp only at i1 M H N T;subst i1;unfold A59;dsimp only;refine DP.2 ⟨λ_=>?_,λ_=>DO.2 ⟨rfl,M,H,N⟩⟩;refine DN.2 ((o_ (m,(at_,d)) oc).mono λc K=>?_);dsimp only at K;rw[DU];refine DP.2 ⟨λ_=>?_,λA=>?_⟩
  .refine DN.2 ((A6X.1 (m,(at_,d)) ⟨U,oc,H⟩).mono λq p=>?_);obtain⟨j,w,C,E⟩:=p;dsimp only at j w C E;refine DP.2 ⟨λ_=>DO.2 ⟨j,oc,C,oc⟩,λQ=>?_⟩;exact zb
  .have A:c=42:=by simpa using A
   have R:at_<m.length:=K.resolve_left oa;rw[EI (n:=at_+1) oa oa];refine DN.2 ((o_ (m,(at_+1,d)) oc).mono λV B=>?_);dsimp only at B;rw[DU];refine DP.2 ⟨λJ=>?_,λ_=>?_⟩
   .have J:=AC J;have L:at_+1<m.length:=B.resolve_left oa;refine DN.2 (Tot.mono (P:=λz=>z.length+(at_+1).toNat<=m.length\/z=[]) (DP.2 ⟨λ_=>I5.2 ⟨⟨oa,oa,AS _⟩,.inl oc⟩,λ_=>DO.2 (.inr rfl)⟩) λz G=>?_);refine DN.2 (Tot.mono (P:=λr=>r=true->2<=z.length) (DP.2 ⟨λ_=>(A6o.1 (z,[42,47]) trivial).mono λr D h=>by simpa using D h,λ_=>DO.2 λh=>oq⟩) λr D=>?_);refine DP.2 ⟨λ_=>?_,λQ=>?_⟩
    .refine DN.2 ((QD.1 ((m,(at_+1,d)),at_+1) trivial).mono λq p=>DO.2 ?_);obtain⟨j,w,_⟩:=p;dsimp only at j w;exact⟨j,oc,oc,rfl,λh=>oq⟩
    .have D:=D (by
      grind)
     rw[EI oa oa];have:z≠[]:=λe=>oc
     have G:=G.resolve_right this;exact DO.2 ⟨rfl,oc,oc,rfl,λ_=>oc⟩
   .refine DN.2 (F9.2 ⟨oc,?_⟩);grind
 .cases q with
  |inl y=>
   obtain⟨j,w,C,E⟩:=p;dsimp only;refine DP.2 ⟨λ_=>?_,λ_=>DO.2 ⟨j,w,C,E,λh=>oq⟩⟩;refine DN.2 ((QD.1 (y.1,y.1.2.1) trivial).mono λz G=>DO.2 ?_);grind
  |inr y=>
   obtain⟨j,w,C,E,W⟩:=p;grind[DO,List.length_nil]
def ANr(s:DM)(I:s.length<=1048576)(b:Int):Tot (lD (s,(0,b))) (λq=>q.1.2.1.length<=s.length+1):=by
 unfold lD;refine DN.2 ((A6V.1 ((s,(0,b)),true) ⟨I,AS _,oh⟩).mono λZ H=>?_);obtain⟨k,s1,R,T⟩:=Z;obtain⟨M,N,O,_⟩:=H;dsimp only at M N O ⊢;subst M;refine DN.2 (Tot.mono (P:=PtR s1) ?_ λq p=>?_)
 .refine ES (R:=PtR s1) (λx:TZ×HJ×HJ=>x.1.1=s1/\0<=x.1.2.1/\x.1.2.1<=s1.length/\(x.2.2.2.1.length:Int)<=x.1.2.1) (λx=>((s1.length:Int)-x.1.2.1).toNat) (λnext x U V=>?_) fuel ((s1,(R,T)),([],([],0)),(k,([],0))) ⟨rfl,N,O,by assumption⟩ (by grind[fuel]);obtain⟨⟨s',at_,E⟩,t2,X,pn,W⟩:=x;obtain⟨i1,J,K,Q⟩:=U;dsimp only at i1 J K Q V;subst i1;unfold A5B;dsimp only;refine DP.2 ⟨λ_=>?_,λ_=>DO.2 ⟨rfl,J,K,Q⟩⟩;refine DN.2 ((A7T s' at_ E I J K true).mono λq p=>?_);obtain⟨l,dp,d,a,A⟩:=q;obtain⟨w,C,D,L,Y⟩:=p;dsimp only at w C D L Y ⊢;subst w;refine DP.2 ⟨λ_=>DO.2 (by show pn.length<=_;omega),λ_=>?_⟩;refine DN.2 (Tot.mono (P:=λz=>(z.2.1.length:Int)<=a) ?_ λz B=>?_)
  .unfold xQ;dsimp only;refine DP.2 ⟨λh=>DN.2 (F9.2 ⟨oc,DO.2 ?_⟩),λh=>DN.2 (F9.2 ⟨oa,DO.2 ?_⟩)⟩
   .grind
   grind
  .refine DN.2 ((o_ (d,(a,A)) oc).mono λc m=>?_);dsimp only at m;rw[DU];refine DP.2 ⟨λ_=>DO.2 ⟨rfl,oc,D,B⟩,λe=>?_⟩;have e:c=47:=by simpa using e
   have G:a<d.length:=m.resolve_left oa;rw[EI (n:=a+1) oa oa];refine DP.2 ⟨λ_=>DN.2 (F9.2 ⟨oc,?_⟩),λ_=>?_⟩
   .grind
   grind
 .cases q with
  |inr y=>exact DO.2 (Nat.le_succ_of_le p)
  |inl y=>
   obtain⟨⟨d,a,A⟩,t2,X,pn,W⟩:=y;obtain⟨w,C,D,L⟩:=p;dsimp only at w C D L ⊢;subst w;refine DN.2 (Tot.mono (P:=λz=>z.2.2.1.length<=d.length+1) ?_ λz B=>?_)
   .unfold xR;dsimp only;refine DP.2 ⟨λ_=>DO.2 oc,λ_=>DP.2 ⟨λ_=>DN.2 (F9.2 ⟨oc,DO.2 oc⟩),λ_=>?_⟩⟩;refine DN.2 ((o_ (d,(a,A)) C).mono λc m=>?_);dsimp only at m;rw[DU];refine DP.2 ⟨λj=>?_,λ_=>DO.2 oc⟩;have j:=AC j;have G:a<d.length:=m.resolve_left oa;rw[EI (n:=a+1) oa oa];refine DN.2 ((A7T d (a+1) A I oa oa false).mono λq p=>?_);grind[DN,F9,List.length_singleton,List.length_append,DO]
   .refine DP.2 ⟨λ_=>DN.2 ((QD.1 _ trivial).mono λ_ _=>DO.2 B),λ_=>DO.2 B⟩
def A7U(s:DM):Tot (aC s) (λq=>q.1.2.1.length<=3001):=by
 unfold aC;refine DP.2 ⟨λ_=>DO.2 oh,λh=>?_⟩;have h:=AG h;refine DN.2 ((ANr s oa (-1)).mono λr a=>DP.2 ⟨λ_=>DO.2 oh,λ_=>?_⟩);refine DN.2 (Tot.mono (P:=λ_=>True) (DP.2 ⟨λ_=>(A6d.1 _ trivial).mono λ_ _=>trivial,λ_=>DO.2 trivial⟩) λz _=>?_);exact DP.2 ⟨λ_=>DO.2 oh,λ_=>DP.2 ⟨λ_=>DO.2 oh,λ_=>DO.2 oc⟩⟩
def ANs(s:DM):∃r,lE s=some r:=by
 have⟨r,h,_⟩:=A7U s;simp_all[lE,A0]
def GD(x y:IS):Bool:=DQ x.1 y.1&&H_ x.2 y.2
theorem SA(x y:IS):GD x y=decide (x=y):=by
 grind[GD,DU,H_]
def A05{α b:Type} [DecidableEq α]{eq:α->α->Bool}(h:∀x y,eq x y=decide (x=y))(k:α)(v:b):∀m:List (α×b),(ED eq k v m).map (·.1)=if k∈m.map (·.1)then m.map (·.1)else m.map (·.1)++[k]:=by
 intro m;induction m with
 |nil=>rfl
 |cons a m d=>
  simp only[ED];grind
def ANt{α b:Type}{eq:α->α->Bool}{k:α}{v:b}:∀{m:List (α×b)} {e:α×b},e∈ED eq k v m->e=(k,v)\/e∈m:=by
 intro m;induction m with
 |nil=>intro e h;exact .inl (AP.1 h)
 |cons a m d=>
  intro e h;simp only[ED]at h;grind
structure Sp(n:Nat)(l:FI):Prop where
 tr:∀e∈l,e.2=true/\0<=e.1.1/\e.1.1<=n
 nd:(l.map (·.1)).Nodup
def Sp.nil{n:Nat}:Sp n []:=⟨λe h=>(oq),AU⟩
def Sp.put{n:Nat}{l:FI}(h:Sp n l){x:IS}(h0:0<=x.1)(h1:x.1<=n):Sp n (ED GD x true l):=by
 refine⟨λe d=>?_,?_⟩
 .rcases ANt d with rfl|d
  .grind
  .exact h.tr e d
 .rw[A05 SA];by_cases e:x∈l.map (·.1)
  .rw[if_pos e];exact h.nd
  .rw[if_neg e];exact B4.2 ⟨h.nd,oh,λa j b m=>oc⟩
def Sp.few{n:Nat}{l:FI}(h:Sp n l):l.length<=2*(n+1):=by
 have:=List.Nodup.length_le_of_subset h.nd (l₂:=(List.range (n+1)).flatMap λi:Nat=>[((i:Int),false),((i:Int),true)]) λx m=>by
  obtain⟨e,j,rfl⟩:=C1.1 m;have⟨_,h0,h1⟩:=h.tr e j;refine List.mem_flatMap.2 ⟨e.1.1.toNat,CT.2 oa,?_⟩;have d:((e.1.1.toNat:Nat):Int)=e.1.1:=oa
  rw[d];obtain⟨⟨a,b⟩,c⟩:=e;cases b<;>simp
 rw[AX,List.length_flatMap]at this
 have p:((List.range (n+1)).map λi:Nat=>[((i:Int),false),((i:Int),true)].length).sum=2*(n+1):=by
  simp[List.map_const',CX]
 omega
def JU(o:FI)(u:FI):FI:=o.foldl (λm e=>ED GD e.1 true m) u
theorem pA:∀(o u:FI),FF RY o u=some (.inl (JU o u)):=by
 intro o;induction o with
 |nil=>intro u;rfl
 |cons k o a=>intro u;exact a _
theorem A7V:∀(o u:FI) (x:IS),x∈(JU o u).map (·.1)<->x∈o.map (·.1)\/x∈u.map (·.1):=by
 intro o;induction o with
 |nil=>intro u x;exact⟨.inr,λh=>h.elim (λh=>(oq)) id⟩
 |cons k o a=>
  intro u x;show x∈(JU o (ED GD k.1 true u)).map (·.1)<->_;rw[a,A05 SA,CL,B1];grind
def ANu{n:Nat}:∀{o u:FI},(∀e∈o,0<=e.1.1/\e.1.1<=n)->Sp n u->Sp n (JU o u):=by
 intro o;induction o with
 |nil=>intro u _ h;exact h
 |cons k o d=>intro u a h;exact d (λe b=>a e (AN _ b)) (h.put (a k AE).1 (a k AE).2)
theorem A7W(l:FI)(x:IS):mB (l,x)=some (JU l [(x,true)]):=by
 unfold mB;dsimp only;rw[show(ED (λ(x y:Int×Bool)=>DQ x.1 y.1&&H_ x.2 y.2) x true ([]:List ((Int×Bool)×Bool)))=[(x,true)]from rfl,pA,A0]
def A7X{n:Nat}{l:FI}(h:Sp n l){x:IS}(h0:0<=x.1)(h1:x.1<=n):Sp n (JU l [(x,true)]):=
 ANu (λe a=>(h.tr e a).2) ⟨λe a=>oc,oh⟩
def ANv{n:Nat}{l:FI}(h:Sp n l){x:IS}(h0:0<=x.1)(h1:x.1<=n)(d:x ∉ l.map (·.1)):(JU l [(x,true)]).length=l.length+1:=by
 have b:=A7X h h0 h1
 have a:((JU l [(x,true)]).map (·.1)).Perm (x::l.map (·.1)):=by
  refine(List.perm_ext_iff_of_nodup b.nd (AV.2 ⟨d,h.nd⟩)).2 λy=>?_;rw[A7V,B1];simp[or_comm]
 have:=a.length_eq;grind
def ANw{l:FI}{x:IS}(h:∀e∈l,e.2=true):(DZ GD x l).getD false=decide (x∈l.map (·.1)):=by
 induction l with
 |nil=>rfl
 |cons a l b=>
  simp only[DZ];rw[SA,CL];grind
section
variable(p:HJ)(hn:p.2.1.length<=100000)
include hn
theorem A7Y(l:FI)(h:Sp p.2.1.length l):Tot (aK (p,l)) (λr=>Sp p.2.1.length r):=by
 unfold aK;dsimp only;refine DN.2 (Tot.mono (P:=λr=>Sp p.2.1.length r) ?_ λr K=>DO.2 K);refine ES (R:=λr=>Sp p.2.1.length r) (λx:FI×HJ×Bool=>Sp p.2.1.length x.1/\x.2.1=p) (λx=>if x.2.2=true then 2*(p.2.1.length+1)+1-x.1.length else 0) (λnext x H d=>?_) fuel (l,p,true) ⟨h,rfl⟩ (by unfold fuel;grind);obtain⟨l,T,G⟩:=x;obtain⟨i1,y⟩:=H;have y:=y.symm;dsimp only at i1 y d;subst y;unfold A5S;dsimp only;refine DP.2 ⟨λa=>?_,λ_=>DO.2 i1⟩;have a:G=true:=a;subst a;rw[if_pos rfl]at d;have key:=A7S (f:=LQ) (λu:FI×HJ×Bool=>Sp p.2.1.length u.1/\u.2.1=p/\l.length<=u.1.length/\(u.2.2=true->l.length<u.1.length)) (λ_=>False) l (λk hk u L=>?_) (l,p,false) ⟨i1,rfl,AD _,λh=>oq⟩
 .refine DN.2 (key.mono λz E=>?_);cases z with
  |inr c=>exact E.elim
  |inl v=>
   obtain⟨N,O,Y,Z⟩:=E;refine d _ ⟨N,O⟩ ?_;dsimp only;have R:=i1.few;grind
 .obtain⟨M,U,V⟩:=u;obtain⟨j,A,C,D⟩:=L;have A:=A.symm;dsimp only at j A C D;subst A;have⟨_,k0,k1⟩:=i1.tr k hk;unfold LQ;dsimp only;have m:∀(b:Bool),(b=true->k.1.1<p.2.1.length)->Tot (bif b then at? p.2.1 k.1.1 else some ((0:Int),(0:Int))) (λ_=>True):=λb w=>DP.2 ⟨λh=>EJ.2 ⟨⟨k0,w h⟩,λ_ _=>trivial⟩,λ_=>DO.2 trivial⟩;refine DN.2 ((m _ λh=>?_).mono λW _=>DN.2 ((m _ λh=>?_).mono λX _=>DP.2 ⟨λ_=>DO.2 ⟨j,rfl,C,D⟩,λw=>?_⟩))
  .grind
  .grind
  .rw[BL,BL]at w;have J:=AG w.1.2;rw[EI (n:=k.1.1+1) oa oa];have s:=ANw (x:=(k.1.1+1,false)) λe I=>(j.tr e I).1;unfold GD at s;rw[s];refine DP.2 ⟨λB=>?_,λ_=>DO.2 ⟨j,rfl,C,D⟩⟩;have B:(k.1.1+1,false) ∉ M.map (·.1):=by simpa using B
   rw[A7W,A0];have Q:=ANv j (x:=(k.1.1+1,false)) oa oa B;exact DO.2 ⟨A7X j oa oa,rfl,oc,λ_=>oc⟩
theorem ANx(x:IS)(h0:0<=x.1)(sg:Int):Tot (NX (p,x,sg)) (λr=>0<=r.1.1/\(r.1.1:Int)<=p.2.1.length):=by
 unfold NX;dsimp only;refine DP.2 ⟨λ_=>DO.2 ⟨AS _,oh⟩,λh=>?_⟩;have h:=AG h;rw[EI (n:=x.1+1) oa oa];refine DN.2 (EJ.2 ⟨⟨h0,oa⟩,λy _=>?_⟩)
 repeat' first
  |(with_reducible first|refine DP.2 ⟨λ_=>?_,λ_=>?_⟩|refine DO.2 ?_)
 all_goals exact⟨om,om⟩
theorem ANy(l:FI)(h:Sp p.2.1.length l)(sg:Int):Tot (mH (p,l,sg)) (λr=>Sp p.2.1.length r):=by
 unfold mH;dsimp only;have key:=A7S (f:=LR) (λu:Int×HJ×FI=>u.2.1=p/\Sp p.2.1.length u.2.2) (λ_=>False) l (λk hk u d=>?_) (sg,p,[]) ⟨rfl,Sp.nil⟩
 .refine DN.2 (key.mono λz m=>?_);grind[DN,A7Y,DO]
 .obtain⟨e,s,w⟩:=u;obtain⟨j,a⟩:=d;have j:=j.symm;dsimp only at j a;subst j;unfold LR;dsimp only;refine DN.2 ((ANx p hn k.1 (h.tr k hk).2.1 e).mono λr b=>DP.2 ⟨λ_=>DO.2 ⟨rfl,a.put b.1 b.2⟩,λ_=>DO.2 ⟨rfl,a⟩⟩)
theorem ANz:Tot (mC p) (λr=>Sp p.2.1.length r):=by
 unfold mC;exact DN.2 ((A7Y p hn _ (Sp.nil.put (x:=(0,false)) (AS _) oa)).mono λr h=>DO.2 h)
end
def AO0(o:List Int)(s:DM)(e:s.length<=1000)(d:o.length<=10000000):Tot (yK (o,s,(s.length:Int),0)) (λr=>r.length<=o.length+1000):=by
 refine F3 (r:=mD) (σ:=List Int) s.length (λo i=>(o,s,(s.length:Int),i)) (λi a=>a.length=o.length+i) oa (λnext a i hi h b=>?_) (λnext a h=>?_) o rfl
 .unfold mD;dsimp only;rw[E2,A6 hi,A7,ET (A1 hi),A0,EY oa];exact zb
 simp_all[mD,E2,A9,AA,A8,DO]
def AO1(p:Pu)(h1:p.2.1.length<=200)(w:p.2.2.1.length<=200)(x:p.2.2.2.1.length<=200):Tot (mG p) (λr=>r.length<=1000000):=by
 unfold mG;refine DN.2 ((oG.1 p.2.1 oa).mono λr ⟨C,D⟩=>DN.2 (F9.2 ⟨oc,?_⟩))
 have h:∀z∈r++[p.2.2.1],z.length<=1000:=λz B=>by
  grind
 have d:(r++[p.2.2.1]).length<=203:=by rw[AI,List.length_singleton];omega
 generalize r++[p.2.2.1]=l at h d ⊢;refine DN.2 (Tot.mono (P:=λo=>o.length<=203*1001) ?_ λo y=>?_)
 .refine F3 (r:=mE) (σ:=List Int) l.length (λo i=>(o,l,(l.length:Int),i)) (λi o=>o.length<=i*1001) oa (λnext o i hi j e=>?_) (λnext o j=>?_) [] (AD _)
  .unfold mE;dsimp only;rw[E2,A6 hi,A7,ET (A1 hi),A0,EY oa];refine DN.2 (Tot.mono (P:=λa=>a.length<=i*1001+1) ?_ λa m=>?_)
   .unfold yJ;dsimp only;refine DP.2 ⟨λ_=>DN.2 (F9.2 ⟨oc,DO.2 oc⟩),λ_=>DO.2 oa⟩
   .exact DN.2 ((AO0 a _ (h _ (AK hi)) oa).mono λq A=>e q oa)
  .unfold mE;dsimp only;rw[E2,A9 (AA _),A8];exact DO.2 oa
 .refine DP.2 ⟨λ_=>DN.2 (F9.2 ⟨oc,?_⟩),λ_=>DO.2 oa⟩;have b:(o++[(257:Int)]).length<=203*1001+1:=by rw[AI,List.length_singleton];omega
  generalize o++[(257:Int)]=l10 at b ⊢;refine DN.2 (Tot.mono (P:=λr=>r.length<=1000000) ?_ λr s=>DO.2 s);refine F3 (r:=mF) (σ:=List Int) p.2.2.2.1.length (λo i=>(p,o,(p.2.2.2.1.length:Int),i)) (λi a=>a.length=l10.length+i) oa (λnext a i hi j e=>?_) (λnext a j=>?_) l10 rfl
  .unfold mF;dsimp only;rw[E2,A6 hi,A7,ET (A1 hi),A0,EY oa];exact zb
  .unfold mF;dsimp only;rw[E2,A9 (AA _),A8];exact DO.2 oa
def AO2(p:HJ)(x:IS)(h0:0<=x.1)(h1:x.1<=p.2.1.length):∃b,TO (p,x)=some b:=by
 unfold TO;dsimp only;refine II.1 (DN.2 (Tot.mono (P:=λ_=>True) (DP.2 ⟨λh=>?_,λ_=>DO.2 trivial⟩) λ_ _=>DO.2 trivial));rw[DU]at h;have h:¬x.1=p.2.1.length:=by simpa using h
 exact EJ.2 ⟨⟨h0,oa⟩,λ_ _=>trivial⟩
def AO3(s:DM)(p:Pu)(B:p.2.2.2.2.1.length<=1048576):∃r,aL (s,p)=some r:=by
 unfold aL;dsimp only;refine II.1 (DN.2 ((A7U s).mono λa U=>DP.2 ⟨λ_=>DO.2 trivial,λ_=>?_⟩));refine DN.2 ((bB p B).mono λe x=>DP.2 ⟨λ_=>DO.2 trivial,λh=>?_⟩);have x:=x (by grind[DU]);refine DN.2 ((oH p x).mono λX C=>DP.2 ⟨λ_=>DO.2 trivial,λ_=>?_⟩);obtain⟨_,J,K,L,_⟩:=C;have I:a.1.2.1.length<=100000:=oa
 refine DN.2 ((ANz a.1 I).mono λW M=>DN.2 ((AO1 X J K L).mono λG V=>?_));refine DN.2 (Tot.mono (P:=λq:Sum (HJ×FI) (Bool×Int)=>match q with| .inl y=>y.1=a.1/\Sp a.1.2.1.length y.2| .inr _=>True) ?_ λq B=>?_)
 .refine F3 (r:=mI) (σ:=FI) G.length (λl i=>(a.1,l,G,(G.length:Int),i)) (λ_ l=>Sp a.1.2.1.length l) oa (λnext l i hi w T=>?_) (λnext l w=>?_) W M
  .unfold mI;dsimp only;rw[E2,A6 hi,A7,ET (A1 hi),A0,EY oa];refine DN.2 ((ANy a.1 I l w _).mono λE N=>?_);have H:=N.few
   have R:len? E.length=some (E.length:Int):=by
    unfold len?;rw[show Nat.ble E.length 281474976710656=true from CA oa];rfl
   simp_all[A0,DP,DO,trivial]
  .unfold mI;dsimp only;rw[E2,A9 (AA _),A8];exact DO.2 ⟨rfl,w⟩
 .cases q with
  |inr y=>exact DO.2 trivial
  |inl y=>
   obtain⟨Y,Z⟩:=B;dsimp only;rw[Y]
   have z:∃g:IS×Bool->Bool,∀k∈y.2,TO (a.1,k.1)=some (g k):=by
    refine⟨λk=>(TO (a.1,k.1)).getD false,λk hk=>?_⟩;have⟨_,k0,k1⟩:=Z.tr k hk;have⟨b,Q⟩:=AO2 a.1 k.1 k0 k1;simp only[Q,D0]
   obtain⟨g,z⟩:=z
   have e:QP (λo:FI=>o.Perm y.2) (λo=>(FF TP o a.1).bind λD=>match D with
    | .inl _=>some (false,(0:Int))
    | .inr d=>some (d.1,d.2))=some (y.2.any g,0):=by
    refine A19 ⟨y.2,List.Perm.refl _⟩ λo j=>?_;have A:∀k∈o,TO (a.1,k.1)=some (g k):=λk hk=>z k (j.mem_iff.1 hk)
    have H:FF TP o a.1=some (if o.any g=true then .inr (true,0)else .inl a.1):=by
     clear j;induction o with
     |nil=>rfl
     |cons k o ih=>
      unfold FF
      have e1:TP k a.1=some (bif g k then .inr (true,0)else .inl a.1):=by
       unfold TP;rw[A k AE,A0];cases g k<;>rfl
      grind
    have O:o.any g=y.2.any g:=by
     rw[Bool.eq_iff_iff,List.any_eq_true,List.any_eq_true];exact⟨λ⟨k,h1,m⟩=>⟨k,j.mem_iff.1 h1,m⟩,λ⟨k,h1,m⟩=>⟨k,j.mem_iff.2 h1,m⟩⟩
    rw[H,O];cases y.2.any g<;>rfl
   exact II.2 ⟨_,e⟩
abbrev LX:=Int×DM×DM×DM
abbrev N7:=DM×DM×List LX×List DM
abbrev T_:=DM×List (DM×DM)
abbrev WQ:=DM×List DM
abbrev JN:=List WQ×List T_×List N7×List DM
abbrev QF:=Bool×List (DM×WQ)×List (DM×Bool)×List (DM×Bool)
structure GB(g:JN):Prop where
 i0:g.1.length<=1048576
 i1:∀x∈g.1,x.1.length<=1048576/\x.2.length<=1048576/\∀s∈x.2,s.length<=1048576
 t0:g.2.1.length<=1048576
 t1:∀x∈g.2.1,x.1.length<=1048576/\x.2.length<=1048576/\∀s∈x.2,s.1.length<=1048576/\s.2.length<=1048576
 f0:g.2.2.1.length<=1048576
 f1:∀x∈g.2.2.1,x.1.length<=1048576/\x.2.1.length<=1048576/\x.2.2.1.length<=1048576/\x.2.2.2.length<=1048576/\(∀c∈x.2.2.1,c.2.2.2.length<=1048576)
 e0:g.2.2.2.length<=1048576
def SB{X R σ α:Type}{r:(X->Option R)->X->Option R}(l:List α)(enc:σ->Int->X)(f:σ->Nat->α->σ)(out:σ->R)(J:Nat->σ->Prop)(d:l.length<=1099511627776)
 (j:∀next s (i:Nat) y,l[i]?=some y->r next (enc s (i:Int))=next (enc (f s i y) ((i:Int)+1)))(a:∀next s,r next (enc s (l.length:Int))=some (out s))(s0:σ)(h0:J 0 s0)
 (b:∀s (i:Nat) y,l[i]?=some y->J i s->J (i+1) (f s i y)):Tot (DX r fuel (enc s0 0)) (λq=>∃s,q=out s/\J l.length s):=by
 refine F3 l.length enc J oa (λnext s i hi h e=>?_) (λnext s h=>?_) s0 h0
 .simp_all
 .rw[a];exact DO.2 ⟨s,rfl,h⟩
def OV(m:List (DM×Bool))(l:List DM):Prop:=∀s,DZ DR s m=if s∈l then some true else none
theorem U0{b:Type}(k a:DM)(v:b)(m:List (DM×b)):DZ DR k (ED DR a v m)=if k=a then some v else DZ DR k m:=A03 E1 k a v m
theorem A06{m:List (DM×Bool)}{l:List DM}(h:OV m l)(s:DM):OV (ED DR s true m) (l++[s]):=λk=>by
 rw[U0,h k];grind
def A07:OV [] []:=λk=>rfl
def bM{m:List (DM×Bool)}{l:List DM}(h:OV m l)(s:DM):(DZ DR s m).getD false=decide (s∈l):=by
 rw[h s];grind
theorem WR{α a:Type}{l:List α}{i:Nat}{y:α}(f:α->a)(h:l[i]?=some y):(l.take (i+1)).map f=(l.take i).map f++[f y]:=by
 rw[GW h,DC];rfl
def AO4{g:JN}(d:GB g)(lo:Bool):Tot (jZ (g,lo)) (λk=>k.1=lo/\(∀s x,DZ DR s k.2.1=some x->x∈g.1)/\OV k.2.2.1 (g.2.1.map (·.1))/\OV k.2.2.2 (g.2.2.1.map (·.1))):=by
 unfold jZ;dsimp only
 refine DN.2 ((SB (σ:=QF) (α:=WQ) g.1 (λs i=>(s,g.1,(g.1.length:Int),i)) (λk _ y=>(k.1,ED DR y.1 y k.2.1,k.2.2.1,k.2.2.2)) (λk=>k)
  (λ_ k=>k.1=lo/\k.2.2=([],[])/\∀s x,DZ DR s k.2.1=some x->x∈g.1) (by have:=d.i0;omega) (λnext s i y h=>?_) (λnext s=>?_) _ ⟨rfl,rfl,λs x h=>oq⟩ (λk i y h b=>⟨b.1,?_,λs x e=>?_⟩)).mono λl A=>?_)
 .have a:=(A4.1 h).1;unfold xE;dsimp only;rw[E2,A6 a,A7,ET h,A0,EY (by have:=d.i0;omega)]
 .simp_all[xE,E2,A9,AA,A8]
 .exact b.2.1
 .have e:DZ DR s (ED DR y.1 y k.2.1)=some x:=e;rw[U0]at e;grind
 obtain⟨H,rfl,m,j,D⟩:=A
 refine DN.2 ((SB (σ:=QF) (α:=T_) g.2.1 (λs i=>(s,g.2.1,(g.2.1.length:Int),i)) (λk _ y=>(k.1,k.2.1,ED DR y.1 true k.2.2.1,k.2.2.2)) (λk=>k)
  (λi k=>k.1=lo/\k.2.1=l.2.1/\k.2.2.2=[]/\OV k.2.2.1 ((g.2.1.take i).map (·.1))) (by have:=d.t0;omega) (λnext s i y h=>?_) (λnext s=>?_) _ ⟨m,rfl,by rw[j],by rw[j];exact A07⟩
  (λk i y h b=>⟨b.1,b.2.1,b.2.2.1,by grind[WR,A06]⟩)).mono λC B=>?_)
 .have a:=(A4.1 h).1;unfold xF;dsimp only;rw[E2,A6 a,A7,ET h,A0,EY (by have:=d.t0;omega)]
 .simp_all[xF,E2,A9,AA,A8]
 obtain⟨I,rfl,p,w,z,E⟩:=B
 refine DN.2 ((SB (σ:=QF) (α:=N7) g.2.2.1 (λs i=>(s,g.2.2.1,(g.2.2.1.length:Int),i)) (λk _ y=>(k.1,k.2.1,k.2.2.1,ED DR y.1 true k.2.2.2)) (λk=>k)
  (λi k=>k.1=lo/\k.2.1=l.2.1/\k.2.2.1=C.2.2.1/\OV k.2.2.2 ((g.2.2.1.take i).map (·.1))) (by have:=d.f0;omega) (λnext s i y h=>?_) (λnext s=>?_) _ ⟨p,w,rfl,by rw[z];exact A07⟩
  (λk i y h b=>⟨b.1,b.2.1,b.2.2.1,by grind[WR,A06]⟩)).mono λJ G=>DO.2 ?_)
 .have a:=(A4.1 h).1;unfold xG;dsimp only;rw[E2,A6 a,A7,ET h,A0,EY (by have:=d.f0;omega)]
 .simp_all[xG,E2,A9,AA,A8]
 grind
def A08(s:DM)(j:s.length<=1048576):∃b,RX s=some b:=by
 unfold RX;refine II.1 (DN.2 ((F3 (r:=j_) s.length (λ_ i=>(s,(s.length:Int),i)) (λ_ _=>True) (Q:=λ_=>True) oa (λnext _ i hi _ e=>?_) (λnext _ _=>?_) () trivial).mono λr _=>?_))
 .unfold j_;dsimp only;have h:=ET (A1 hi);rw[E2,A6 hi,A7,h,A0,EY oa];refine DN.2 (Tot.mono (P:=λ_=>True) (DP.2 ⟨λ_=>II.2 ⟨_,rfl⟩,λ_=>DO.2 trivial⟩) λa _=>?_);refine DN.2 (Tot.mono (P:=λ_=>True) (DP.2 ⟨λ_=>II.2 ⟨_,rfl⟩,λ_=>DO.2 trivial⟩) λd _=>?_);simp_all[DP,DO,trivial]
 .simp_all[j_,E2,A9,AA,A8,DO,trivial]
 .cases r<;>exact DO.2 trivial
def WS(s b:DM)(f:Bool)(a:s.length<=1048576):∃e,QA (s,b,f)=some e:=by
 have⟨r,h⟩:=A08 s a;unfold QA;dsimp only;rw[h,A0];refine II.1 (DP.2 ⟨λ_=>DO.2 trivial,λ_=>DP.2 ⟨λ_=>DO.2 trivial,λ_=>DO.2 trivial⟩⟩)
def A7Z(k:QF)(l:List DM)(m:List (DM×Bool))(p:l.length<=1048576):Tot (ZX (k,l,m)) (λe=>k.1=false->e=0->∀s∈l,(DZ DR s m).getD false=true):=by
 unfold ZX
 refine DN.2 ((F3 (r:=kG) l.length (λ_ i=>(l,m,k,l,(l.length:Int),i)) (λi _=>k.1=false->∀ s∈l.take i,(DZ DR s m).getD false=true)
  (Q:=λq=>match q with| .inl _=>k.1=false->∀s∈l,(DZ DR s m).getD false=true| .inr e=>e≠0) oa (λnext _ i hi a b=>?_) (λnext _ a=>?_) () (λ_ s h=>oq)).mono λr w=>?_)
 .unfold kG;dsimp only;rw[E2,A6 hi,A7,ET (A1 hi),A0,EY oa];refine DP.2 ⟨λ_=>DO.2 (show(4:Int)≠0 by decide),λj=>?_⟩;refine DN.2 (Tot.mono (P:=λ_=>True) (DP.2 ⟨λh=>?_,λ_=>DO.2 trivial⟩) λy _=>?_)
  .have h:=AC h;rw[EI oa oa];exact EJ.2 ⟨⟨oa,oa⟩,λ_ _=>trivial⟩
  .refine DP.2 ⟨λ_=>DO.2 (show(10:Int)≠0 by decide),λ_=>b () λhk s d=>?_⟩;rw[GW (A1 hi)]at d;grind
 .simp_all[kG,E2,A9,AA,A8,AW,DO]
 grind[DO,hk,absurd]
def AO5(k:QF)(c:LX)(d:c.2.2.2.length<=1048576)(hk:∀s x,DZ DR s k.2.1=some x->x.2.length<=1048576):∃e,kF (k,c)=some e:=by
 have⟨r,l⟩:=A08 c.2.2.2 d;have a:∀b:Bool,∃y,(bif b then RX c.2.2.2 else some false)=some y:=λb=>match b with|true=>⟨_,l⟩|false=>⟨_,rfl⟩
 unfold kF;dsimp only;refine II.1 (DP.2 ⟨λ_=>DP.2 ⟨λ_=>DO.2 trivial,λ_=>DP.2 ⟨λ_=>DO.2 trivial,λ_=>?_⟩⟩,λ_=>DP.2 ⟨λ_=>?_,λ_=>DO.2 trivial⟩⟩)
 .refine DN.2 ((II.2 (a _)).mono λy _=>DP.2 ⟨λ_=>DO.2 trivial,λ_=>DO.2 trivial⟩)
 .refine DN.2 (Tot.mono (P:=λ_=>True) (DP.2 ⟨λh=>?_,λ_=>DO.2 trivial⟩) λy _=>DP.2 ⟨λ_=>DO.2 trivial,λ_=>?_⟩)
  .have m:((DZ DR c.2.1 k.2.1).getD (([]:DM),([]:List DM))).2.length<=1048576:=by
    cases j:DZ DR c.2.1 k.2.1 with
    |none=>simp
    |some x=>exact hk _ _ j
   simp_all[oT,trivial]
  .refine DN.2 ((II.2 (a _)).mono λy _=>DP.2 ⟨λ_=>DO.2 trivial,λ_=>DO.2 trivial⟩)
def AO6(k:QF)(l:List WQ)(y:l.length<=1048576)(p:∀x∈l,x.1.length<=1048576/\x.2.length<=1048576/\∀s∈x.2,s.length<=1048576):Tot (kB (k,l)) (λ_=>True):=by
 unfold kB;dsimp only;refine DN.2 ((F3 (r:=kA) (σ:=DM) l.length (λb i=>(b,l,(l.length:Int),i)) (λ_ _=>True) (Q:=λ_=>True) oa (λnext b i hi _ z=>?_) (λnext _ _=>?_) [] trivial).mono λq _=>?_)
 .unfold kA;dsimp only;have⟨e,w,m⟩:=p _ (AK hi);rw[E2,A6 hi,A7,ET (A1 hi),A0,EY oa];refine DN.2 ((II.2 (WS _ _ _ e)).mono λr _=>DP.2 ⟨λ_=>DO.2 trivial,λ_=>DP.2 ⟨λ_=>DO.2 trivial,λ_=>DP.2 ⟨λ_=>DO.2 trivial,λ_=>?_⟩⟩⟩);refine DN.2 ((F3 (r:=k9) (σ:=DM) l[i].2.length (λb j=>(b,l[i].2,(l[i].2.length:Int),j)) (λ_ _=>True) (Q:=λ_=>True) oa (λa b j h _ d=>?_) (λa _ _=>?_) [] trivial).mono λq _=>?_)
  .unfold k9;dsimp only;rw[E2,A6 h,A7,ET (A1 h),A0,EY oa];exact DN.2 ((II.2 (WS _ _ _ (m _ (AK h)))).mono λr _=>DP.2 ⟨λ_=>DO.2 trivial,λ_=>d _ trivial⟩)
  .simp_all[k9,E2,A9,AA,A8,DO,trivial]
  .cases q<;>simp_all[trivial,DO]
 .simp_all[kA,E2,A9,AA,A8,DO,trivial]
 .cases q<;>exact DO.2 trivial
def AO7(k:QF)(l:List T_)(z:l.length<=1048576)(p:∀x∈l,x.1.length<=1048576/\x.2.length<=1048576/\∀s∈x.2,s.1.length<=1048576/\s.2.length<=1048576):Tot (kE (k,l)) (λ_=>True):=by
 unfold kE;dsimp only;refine DN.2 ((F3 (r:=kD) (σ:=DM) l.length (λb i=>(k,b,l,(l.length:Int),i)) (λ_ _=>True) (Q:=λ_=>True) oa (λnext b i hi _ A=>?_) (λnext _ _=>?_) [] trivial).mono λq _=>?_)
 .unfold kD;dsimp only;have⟨e,y,m⟩:=p _ (AK hi);rw[E2,A6 hi,A7,ET (A1 hi),A0,EY oa];refine DN.2 ((II.2 (WS _ _ _ e)).mono λr _=>DP.2 ⟨λ_=>DO.2 trivial,λ_=>DP.2 ⟨λ_=>DO.2 trivial,λ_=>?_⟩⟩);refine DN.2 ((F3 (r:=kC) (σ:=DM) l[i].2.length (λb j=>(k,b,l[i].2,(l[i].2.length:Int),j)) (λ_ _=>True) (Q:=λq=>match q with| .inl w=>w=k| .inr _=>True) oa (λa b j h _ d=>?_) (λa _ _=>?_) [] trivial).mono λq B=>?_)
  .unfold kC;dsimp only;rw[E2,A6 h,A7,ET (A1 h),A0,EY oa];exact DN.2 ((II.2 (WS _ _ _ (m _ (AK h)).1)).mono λr _=>DP.2 ⟨λ_=>DO.2 trivial,λ_=>DP.2 ⟨λ_=>DO.2 trivial,λ_=>d _ trivial⟩⟩)
  .unfold kC;dsimp only;rw[E2,A9 (AA _),A8];exact DO.2 rfl
  .cases q<;>simp_all[trivial,DO]
 .simp_all[kD,E2,A9,AA,A8,DO,trivial]
 .cases q<;>exact DO.2 trivial
def A09(k:QF)(x:N7):Prop:=x.2.2.1.length<=200/\∀s∈x.2.2.2,(DZ DR s k.2.2.1).getD false=true
def AO8(k:QF)(hk:k.1=false)(l:List N7)(K:l.length<=1048576)(d:∀x∈l,x.1.length<=1048576/\x.2.1.length<=1048576/\x.2.2.1.length<=1048576/\x.2.2.2.length<=1048576/\(∀c∈x.2.2.1,c.2.2.2.length<=1048576))
 (hi:∀s x,DZ DR s k.2.1=some x->x.2.length<=1048576):Tot (kJ (k,l)) (λe=>e=0->∀x∈l,A09 k x):=by
 unfold kJ;dsimp only;refine DN.2 ((F3 (r:=kI) (σ:=DM) l.length (λb i=>(k,b,l,(l.length:Int),i)) (λi _=>∀x∈l.take i,A09 k x) (Q:=λq=>match q with| .inl _=>∀x∈l,A09 k x| .inr e=>e≠0) oa (λnext b i a z H=>?_) (λnext _ z=>?_) [] (λx h=>oq)).mono λq y=>?_)
 .unfold kI;dsimp only;have⟨B,C,J,D,E⟩:=d _ (AK a);rw[E2,A6 a,A7,ET (A1 a),A0,EY oa];refine DN.2 ((II.2 (WS _ _ _ B)).mono λr _=>DP.2 ⟨λh=>DO.2 (λe=>by rw[e]at h;cases h),λ_=>?_⟩);refine DN.2 ((II.2 (A08 _ C)).mono λr _=>DP.2 ⟨λh=>DO.2 (show(8:Int)≠0 by decide),λ_=>DP.2 ⟨λ_=>DO.2 (show(3:Int)≠0 by decide),λA=>?_⟩⟩);have A:=AG A;refine DN.2 ((F3 (r:=kH) (σ:=Unit) l[i].2.2.1.length (λ_ j=>(k,l[i].2.2.1,(l[i].2.2.1.length:Int),j)) (λ_ _=>True) (Q:=λq=>match q with| .inl I=>I=k| .inr e=>e≠0) oa (λm b j p _ w=>?_) (λm _ _=>?_) () trivial).mono λq y=>?_)
  .unfold kH;dsimp only;rw[E2,A6 p,A7,ET (A1 p),A0,EY oa];exact DN.2 ((II.2 (AO5 k _ (E _ (AK p)) hi)).mono λr _=>DP.2 ⟨λh=>DO.2 (λe=>by rw[e]at h;cases h),λ_=>w () trivial⟩)
  .unfold kH;dsimp only;rw[E2,A9 (AA _),A8];exact DO.2 rfl
  .cases q with
   |inl u=>
    cases y;refine DN.2 ((A7Z k l[i].2.2.2 k.2.2.1 D).mono λe G=>DP.2 ⟨λh=>DO.2 (λe=>by rw[e]at h;cases h),λh=>H _ λx d=>?_⟩);rw[GW (A1 a)]at d;rcases AZ.1 d with d|d
    .exact z x d
    .rw[AP]at d;subst d;refine⟨oa,G hk ?_⟩;grind[DU]
   |inr e=>exact DO.2 y
 .simp_all[kI,E2,A9,AA,A8,AW,DO]
 grind[DO,absurd]
structure GrOk(g:JN):Prop where
 i:g.1.length<=200
 t:g.2.1.length<=500
 f:g.2.2.1.length<=3000
 calls:∀x∈g.2.2.1,x.2.2.1.length<=200
 makes:∀x∈g.2.2.1,∀s∈x.2.2.2,∃y∈g.2.1,y.1=s
 entries:∀s∈g.2.2.2,∃y∈g.2.2.1,y.1=s
def L6{e:Int}(h:(!(DQ e 0))=false):e=0:=by
 grind[DU]
def AO9{g:JN}(a:GB g):Tot (kK g) (λe=>e=0->GrOk g):=by
 unfold kK;refine DN.2 ((AO4 a false).mono λk ⟨k1,w,y,z⟩=>?_);have l:∀s x,DZ DR s k.2.1=some x->x.2.length<=1048576:=λs x h=>(a.i1 x (w s x h)).2.1;refine DN.2 (Tot.mono (P:=λe=>e=0->GrOk g) ?_ λe d=>DO.2 d);unfold xH;dsimp only;refine DP.2 ⟨λ_=>DO.2 λh=>absurd h oi,λj=>?_⟩;refine DN.2 ((AO6 k _ a.i0 a.i1).mono λe _=>DP.2 ⟨λh=>DO.2 (λe=>by rw[e]at h;cases h),λ_=>?_⟩);refine DN.2 ((AO7 k _ a.t0 a.t1).mono λe _=>DP.2 ⟨λh=>DO.2 (λe=>by rw[e]at h;cases h),λ_=>?_⟩);refine DN.2 ((AO8 k k1 _ a.f0 a.f1 l).mono λe d=>DP.2 ⟨λh=>DO.2 (λe=>by rw[e]at h;cases h),λh=>?_⟩);have d:=d (L6 h);refine DN.2 ((A7Z k _ k.2.2.2 a.e0).mono λA b=>DO.2 λp=>?_);have b:=b k1 p;simp only[BL,CW]at j;obtain⟨⟨s1,B⟩,C⟩:=j;refine⟨oa,oa,oa,λx m=>(d x m).1,λx m s j=>?_,λs j=>?_⟩
 .have:=(d x m).2 s j;rw[bM y]at this;grind
 .have:=b s j;rw[bM z]at this;grind
def AOA(l:List DM)(a:∀s∈l,s.length<=1048576):Tot (kM l) (λe=>e=0->l.length<=30):=by
 unfold kM;refine DP.2 ⟨λ_=>DO.2 λh=>absurd h oi,λh=>?_⟩;have h:=AG h;refine DN.2 ((F3 (r:=kL) (σ:=DM) l.length (λb i=>(b,l,(l.length:Int),i)) (λ_ _=>True) (Q:=λ_=>True) oa (λnext b i hi _ d=>?_) (λnext _ _=>?_) [] trivial).mono λq _=>?_)
 .unfold kL;dsimp only;rw[E2,A6 hi,A7,ET (A1 hi),A0,EY oa];exact DN.2 ((II.2 (WS _ _ _ (a _ (AK hi)))).mono λr _=>DP.2 ⟨λ_=>DO.2 trivial,λ_=>d _ trivial⟩)
 .simp_all[kL,E2,A9,AA,A8,DO,trivial]
 grind[DO]
def A7_(s:DM)(a:s.length<=1048576):Tot (TA s) (λ_=>True):=by
 unfold TA;refine DN.2 ((F3 (r:=fK) s.length (λ_ i=>(s,(s.length:Int),i)) (λ_ _=>True) (Q:=λ_=>True) oa (λnext _ i hi _ h=>?_) (λnext _ _=>?_) () trivial).mono λr _=>?_)
 .unfold fK;dsimp only;rw[E2,A6 hi,A7,EY oa];simp_all[trivial,EJ,DP,DO,DN,Tot.mono]
 .simp_all[fK,E2,A9,AA,A8,DO,trivial]
 .cases r<;>exact DO.2 trivial
def A7a(s:DM)(m:Int)(a:s.length<=1048576):Tot (VH (s,m)) (λ_=>True):=by
 unfold VH;refine DN.2 ((F3 (r:=fL) s.length (λ_ i=>(s,(s.length:Int),i)) (λ_ _=>True) (Q:=λ_=>True) oa (λnext _ i hi _ h=>?_) (λnext _ _=>?_) () trivial).mono λr _=>?_)
 .unfold fL;dsimp only;rw[E2,A6 hi,A7,EY oa];simp_all[trivial,EJ,DP,DO,DN,Tot.mono]
 .simp_all[fL,E2,A9,AA,A8,DO,trivial]
 .cases r<;>exact DO.2 trivial
def AOB(s:DM)(m:Int)(h:s.length<=1048576):Tot (fR (s,m)) (λ_=>True):=by
 unfold fR;refine DN.2 ((F3 (r:=fQ) s.length (λ_ i=>(s,(s.length:Int),i)) (λ_ _=>True) (Q:=λ_=>True) oa (λnext _ i hi _ hn=>?_) (λnext _ _=>?_) () trivial).mono λr _=>?_)
 .unfold fQ;dsimp only;rw[E2,A6 hi,A7,EY oa]
  repeat' first
   |exact hn () trivial
   |exact EJ.2 ⟨⟨oa,oa⟩,λ_ _=>trivial⟩
   |exact(A6W.1 _ ⟨oa,by grind[E4]⟩).mono λ_ _=>trivial
   |(with_reducible first|refine DP.2 ⟨λ_=>?_,λ_=>?_⟩|refine DO.2 trivial|refine DN.2 (Tot.mono (P:=λ_=>True) ?_ λ_ _=>?_))
 .simp_all[fQ,E2,A9,AA,A8,DO,trivial]
 .cases r<;>exact DO.2 trivial
def AOC(l:List (DM×DM))(a:∀x∈l,x.2.length<=1048576):Tot (fT l) (λ_=>True):=by
 unfold fT;refine DP.2 ⟨λ_=>DO.2 trivial,λh=>?_⟩;have h:=AG h;refine DN.2 ((F3 (r:=fS) l.length (λ_ i=>(l,l,(l.length:Int),i)) (λ_ _=>True) (Q:=λ_=>True) oa (λnext _ i hi _ d=>?_) (λnext _ _=>?_) () trivial).mono λr _=>?_)
 .unfold fS;dsimp only;rw[E2,A6 hi,A7,ET (A1 hi),A0,EY oa];unfold uM;dsimp only;refine DN.2 (Tot.mono (P:=λ_=>True) (DP.2 ⟨λ_=>DO.2 trivial,λ_=>DO.2 trivial⟩) λn _=>DP.2 ⟨λ_=>DO.2 trivial,λ_=>?_⟩);refine DN.2 ((AOB _ _ (a _ (AK hi))).mono λb _=>DP.2 ⟨λ_=>DO.2 trivial,λ_=>?_⟩);refine DN.2 (Tot.mono (P:=λ_=>True) (DP.2 ⟨λh=>?_,λ_=>DO.2 trivial⟩) λ_ _=>DP.2 ⟨λ_=>DO.2 trivial,λ_=>d () trivial⟩);have h:=AC h;rw[EI oa oa];exact EJ.2 ⟨⟨oa,oa⟩,λ_ _=>trivial⟩
 .simp_all[fS,E2,A9,AA,A8,DO,trivial]
 .cases r<;>exact DO.2 trivial
def AOD(k:Bool×List (DM×Bool))(l:List DM)(a:∀x∈l,x.length<=1048576):Tot (YW (k,l)) (λ_=>True):=by
 unfold YW;refine DP.2 ⟨λ_=>DO.2 trivial,λh=>?_⟩;have h:=AG h;refine DN.2 ((F3 (r:=fU) l.length (λ_ i=>(l,k,l,(l.length:Int),i)) (λ_ _=>True) (Q:=λ_=>True) oa (λnext _ i hi _ d=>?_) (λnext _ _=>?_) () trivial).mono λr _=>?_)
 .unfold fU;dsimp only;rw[E2,A6 hi,A7,ET (A1 hi),A0,EY oa];refine DN.2 ((A7a _ _ (a _ (AK hi))).mono λb _=>DP.2 ⟨λ_=>DO.2 trivial,λ_=>?_⟩);refine DN.2 (Tot.mono (P:=λ_=>True) (DP.2 ⟨λh=>?_,λ_=>DO.2 trivial⟩) λ_ _=>DP.2 ⟨λ_=>DO.2 trivial,λ_=>d () trivial⟩);have h:=AC (CV.1 h).2;rw[EI oa oa];exact EJ.2 ⟨⟨oa,oa⟩,λ_ _=>trivial⟩
 .simp_all[fU,E2,A9,AA,A8,DO,trivial]
 .cases r<;>exact DO.2 trivial
structure BlB(b:JM):Prop where
 n:b.1.length<=1048576
 v:b.2.1.length<=1048576
 c:∀c∈b.2.2.2.1,c.1.length<=1048576/\c.2.1.2.2.2.2.1.length<=1048576/\(∀x∈c.2.2.1,x.2.length<=1048576)/\c.2.2.2.1.length<=1048576/\∀x∈c.2.2.2.2,x.length<=1048576
def AOE(k:Bool×List (DM×Bool))(c:FU)(h1:c.1.length<=1048576)(d:c.2.1.2.2.2.2.1.length<=1048576)(j:∀x∈c.2.2.1,x.2.length<=1048576)(w:c.2.2.2.1.length<=1048576)(z:∀x∈c.2.2.2.2,x.length<=1048576):
 Tot (fW (k,c)) (λe=>e=0->KQ c.2.1=some 0):=by
 unfold fW;dsimp only;refine DN.2 ((A7a _ _ h1).mono λA _=>DP.2 ⟨λ_=>DO.2 λh=>absurd h oi,λ_=>?_⟩);have⟨e,a,_⟩:=bB c.2.1 d;have p:e=0->KQ c.2.1=some 0:=λh=>h▸a;refine DN.2 ⟨e,a,DP.2 ⟨λh=>DO.2 λh0=>(oc),λh=>?_⟩⟩;have a:=p (L6 h);refine DN.2 ((AOC _ j).mono λB _=>DP.2 ⟨λ_=>DO.2 λ_=>a,λ_=>?_⟩);refine DN.2 (Tot.mono (P:=λq:Sum FU Int=>match q with| .inl y=>y=c| .inr _=>True) ?_ λq b=>?_)
 .refine F3 (r:=fV) (σ:=Unit) c.2.2.2.1.length (λ_ i=>(c,(c.2.2.2.1.length:Int),i)) (λ_ _=>True) oa (λnext _ i hi _ l=>?_) (λnext _ _=>?_) () trivial
  .unfold fV;dsimp only;rw[E2,A6 hi,A7,EY oa];refine DN.2 (EJ.2 ⟨⟨oa,oa⟩,λs _=>DN.2 (Tot.mono (P:=λ_=>True) (DP.2 ⟨λ_=>EJ.2 ⟨⟨oa,oa⟩,λ_ _=>trivial⟩,λ_=>DO.2 trivial⟩) λ_ _=>DP.2 ⟨λ_=>DO.2 trivial,λ_=>l () trivial⟩)⟩)
  .unfold fV;dsimp only;rw[E2,A9 (AA _),A8];exact DO.2 rfl
 .cases q with
  |inr y=>grind[DO]
  |inl y=>
   have b:y=c:=b;subst b;dsimp only;have⟨C,m⟩:=AHy y.2.2.2.1;simp_all[DP,DN,AOD,DO,A0]
structure BlOk(b:JM):Prop where
 few:b.2.2.2.1.length<=3000
 edges:b.2.2.2.2.length<=20000
 purl:∀c∈b.2.2.2.1,KQ c.2.1=some 0
 asc:b.2.2.2.1.Pairwise λa c=>a.1<c.1
 root:b.2.2.1∈b.2.2.2.1.map (·.1)
 ends:∀e∈b.2.2.2.2,e.1∈b.2.2.2.1.map (·.1)/\e.2.1∈b.2.2.2.1.map (·.1)
def AOF{α:Type}{R:α->α->Prop}(A:∀a b c,R a b->R b c->R a c){l:List α}{i:Nat}(h:(l.take i).Pairwise R)(hi:i<l.length)(s:0<i->∀y,l[i-1]?=some y->R y l[i]):(l.take (i+1)).Pairwise R:=by
 rw[GW (A1 hi)];refine List.pairwise_append.2 ⟨h,DH _ _,λa m b d=>?_⟩;rw[AP]at d;subst d;obtain⟨j,w,rfl⟩:=List.mem_take_iff_getElem.1 m;have p:j<i:=oa
 have z:=s oa l[i-1] (A1 oa);by_cases e:j=i-1
 .grind
 .have x:=(C7.1 h) j (i-1) oc oc oa;grind
def A0A(b:JM)(x:BlB b):Tot (VK b) (λe=>e=0->BlOk b):=by
 unfold VK;refine DN.2 (Tot.mono (P:=λe=>e=0->BlOk b) ?_ λe p=>DO.2 p);unfold uO;dsimp only;refine DN.2 (Tot.mono (P:=λ_=>True) (DP.2 ⟨λ_=>A7_ _ x.n,λ_=>DO.2 trivial⟩) λr1 _=>?_);refine DN.2 (Tot.mono (P:=λ_=>True) (DP.2 ⟨λ_=>A7_ _ x.v,λ_=>DO.2 trivial⟩) λr2 _=>?_);refine DP.2 ⟨λ_=>DO.2 λh=>absurd h oi,λ_=>DP.2 ⟨λ_=>DO.2 λh=>absurd h oi,λB=>?_⟩⟩;rw[BL]at B;have D:=AG B.1;have X:=AG B.2
 refine DN.2 (Tot.mono (P:=λq:Sum ((Bool×List (DM×Bool))×JM) Int=>match q with
  | .inl y=>y.2=b/\y.1.1=false/\OV y.1.2 (b.2.2.2.1.map (·.1))/\(∀c∈b.2.2.2.1,KQ c.2.1=some 0)/\b.2.2.2.1.Pairwise (λa c=>a.1<c.1)
  | .inr e=>e≠0) ?_ λq G=>?_)
 .refine F3 (r:=gA) (σ:=List (DM×Bool)) b.2.2.2.1.length (λm i=>((false,m),b,b.2.2.2.1,(b.2.2.2.1.length:Int),i)) (λi m=>OV m ((b.2.2.2.1.take i).map (·.1))/\(∀c∈b.2.2.2.1.take i,KQ c.2.1=some 0)/\(b.2.2.2.1.take i).Pairwise (λa c=>a.1<c.1)) oa (λnext m i hi s C=>?_) (λnext m s=>?_) [] ⟨A07,λc h=>(oq),List.Pairwise.nil⟩
  .obtain⟨Z,j2,O⟩:=s;unfold gA;dsimp only;have l:=A1 hi;have⟨Q,R,T,U,V⟩:=x.c _ (AK hi);rw[E2,A6 hi,A7,ET l,A0,EY oa];refine DN.2 ((AOE (false,m) b.2.2.2.1[i] Q R T U V).mono λe p=>DP.2 ⟨λh=>DO.2 λh0=>(by have h0:e=0:=h0;rw[h0]at h;cases h),λh=>?_⟩);have p:=p (L6 h);refine DN.2 (Tot.mono (P:=λy=>0<i->b.2.2.2.1[i-1]?=some y) (DP.2 ⟨λh=>?_,λh=>DO.2 λh0=>?_⟩) λy Y=>DP.2 ⟨λ_=>DO.2 (show(10:Int)≠0 by decide),λM=>?_⟩)
   .have h:=AC (CV.1 h).2;rw[EI oa oa];refine EJ.2 ⟨⟨oa,oa⟩,λz N _=>?_⟩;simp_all
   .grind
   .refine C _ ⟨?_,λc A=>?_,AOF (R:=λa c:FU=>a.1<c.1) (λa b c h1 L=>bD h1 L) O hi λh0 z N=>?_⟩
    .grind[WR,A06]
    .rw[GW l]at A;grind
    simp_all[D8,BZ,A6,A7N]
  .unfold gA;dsimp only;rw[E2,A9 (AA _),A8];rw[AW]at s;exact DO.2 ⟨rfl,rfl,s⟩
 .cases q with
  |inr e=>grind[DO,absurd]
  |inl y=>
   obtain⟨⟨lo,m⟩,d⟩:=y;obtain⟨H,I,w,J,K⟩:=G;dsimp only at H I w J K ⊢;subst H I;rw[bM w];refine DP.2 ⟨λ_=>DO.2 λh=>absurd h oi,λj=>?_⟩;have j:d.2.2.1∈d.2.2.2.1.map (·.1):=by simpa using j
   refine DN.2 (Tot.mono (P:=λe=>e=0->∀e∈d.2.2.2.2,e.1∈d.2.2.2.1.map (·.1)/\e.2.1∈d.2.2.2.1.map (·.1)) ?_ λe p=>DO.2 λh=>⟨oa,oa,J,K,j,p h⟩);unfold uN;dsimp only
   refine DN.2 (Tot.mono (P:=λq:Sum Unit Int=>match q with
    | .inl _=>∀e∈d.2.2.2.2,e.1∈d.2.2.2.1.map (·.1)/\e.2.1∈d.2.2.2.1.map (·.1)
    | .inr e=>e≠0) ?_ λq G=>?_)
   .refine F3 (r:=f_) (σ:=Unit) d.2.2.2.2.length (λ_ i=>(d.2.2.2.2,(false,m),d.2.2.2.2,(d.2.2.2.2.length:Int),i)) (λi _=>∀e∈d.2.2.2.2.take i,e.1∈d.2.2.2.1.map (·.1)/\e.2.1∈d.2.2.2.1.map (·.1)) oa (λnext _ i hi s C=>?_) (λnext _ s=>?_) () (λe h=>oq)
    .unfold f_;dsimp only;have l:=A1 hi;rw[E2,A6 hi,A7,ET l,A0,EY oa,bM w,bM w];refine DP.2 ⟨λ_=>DO.2 (show(9:Int)≠0 by decide),λ_=>DP.2 ⟨λ_=>DO.2 (show(4:Int)≠0 by decide),λE=>DP.2 ⟨λ_=>DO.2 (show(2:Int)≠0 by decide),λ_=>?_⟩⟩⟩;refine DN.2 (Tot.mono (P:=λ_=>True) (DP.2 ⟨λh=>?_,λ_=>DO.2 trivial⟩) λW _=>DN.2 (Tot.mono (P:=λ_=>True) (DP.2 ⟨λ_=>?_,λ_=>DO.2 trivial⟩) λr5 _=>DP.2 ⟨λ_=>DO.2 (show(10:Int)≠0 by decide),λ_=>C () λe p=>?_⟩))
     .have h:=AC (CV.1 h).2;rw[EI oa oa];exact EJ.2 ⟨⟨oa,oa⟩,λ_ _=>trivial⟩
     .obtain⟨c,D,_⟩:=ANl W d.2.2.2.2[i];exact⟨c,D,trivial⟩
     .rw[GW l]at p;grind
    .unfold f_;dsimp only;rw[E2,A9 (AA _),A8];grind[List.take_length,DO]
   grind[DO,absurd]
def A7b(i j:Nat)(h:i+j<=4398046511104):shr? IntKind.u64 (IntKind.u64.wrap (IntKind.i64.wrap ((i:Int)+(j:Int)))) 1=some (((i+j) / 2:Nat):Int):=by
 rw[EI oa oa]
 have e:IntKind.u64.wrap ((i:Int)+(j:Int))=(i:Int)+(j:Int):=by
  simp only[IntKind.wrap,IntKind.bits,IntKind.signed];simp;omega
 simp_all[shr?,A9,A8,min,Int.toNat,IntKind.bits,DA]
structure Srch{α:Type}(nm:α->DM)(l:List α)(t:DM)(r:Int×Bool):Prop where
 rng:0<=r.1/\r.1<=l.length
 is:r.2=true->∃y,l[r.1.toNat]?=some y/\nm y=t
 all:(l.Pairwise λa b=>nm a<nm b)->∀y∈l,nm y=t->r.2=true
def A0B{α:Type}(nm:α->DM)(t:DM)(f:α×DM->Option Int):Prop:=∀y,∃c,f (y,t)=some c/\(c<0<->nm y<t)/\(c=0<->nm y=t)
section
variable{α:Type}{nm:α->DM}{t:DM}{f:α×DM->Option Int}(hf:A0B nm t f)
include hf
structure BsI(nm:α->DM)(l:List α)(t:DM)(i j:Nat):Prop where
 le:i<=j/\j<=l.length
 lo:(l.Pairwise λa b=>nm a<nm b)->∀k y,k<i->l[k]?=some y->nm y<t
 hi:(l.Pairwise λa b=>nm a<nm b)->∀k y,j<=k->l[k]?=some y->¬nm y<t
theorem A7c{l:List α}{i j:Nat}(h:BsI nm l t i j)(m:i<j){y:α}(w:l[(i+j) / 2]?=some y):(nm y<t->BsI nm l t ((i+j) / 2+1) j)/\(¬nm y<t->BsI nm l t i ((i+j) / 2)):=by
 obtain⟨⟨h1,x⟩,d,e⟩:=h;obtain⟨p,rfl⟩:=A4.1 w;refine⟨λg=>⟨oa,λs k z hk b=>?_,e⟩,λg=>⟨oa,d,λs k z hk b=>?_⟩⟩
 .obtain⟨a,rfl⟩:=A4.1 b;grind[List.lt_trans,List.pairwise_iff_getElem]
 .obtain⟨a,rfl⟩:=A4.1 b;grind[List.lt_trans,List.pairwise_iff_getElem]
end
def AOG(l:List (DM×DM))(t:DM)(R:l.length<=1048576)(f:(DM×DM)×DM->Option Int)(w:A0B (λy:DM×DM=>y.1) t f):Tot (kN (l,t,f)) (Srch (λy:DM×DM=>y.1) l t):=by
 unfold kN;dsimp only;refine DN.2 (Tot.mono (P:=λr=>∃i:Nat,r=(i:Int)/\BsI (λy:DM×DM=>y.1) l t i i) ?_ λr M=>?_)
 .refine ES (R:=λr=>∃i:Nat,r=(i:Int)/\BsI (λy:DM×DM=>y.1) l t i i) (λx=>x.1=l/\x.2.1=t/\x.2.2.1=f/\∃i j:Nat,x.2.2.2=((i:Int),(j:Int))/\BsI (λy:DM×DM=>y.1) l t i j) (λx=>(x.2.2.2.2-x.2.2.2.1).toNat)
   (λnext x L A=>?_) _ _ ⟨rfl,rfl,rfl,0,l.length,rfl,⟨oa,λ_ k y h=>absurd h oa,λ_ k y h1 Q=>oc⟩⟩ (by grind[fuel])
  obtain⟨J,V,N,T,U⟩:=x;obtain⟨D,E,G,i,j,H,b⟩:=L;dsimp only at D E G H A;subst D E G;cases H;have z:=b.le;unfold A4r;dsimp only;refine DP.2 ⟨λs=>?_,λs=>DO.2 ⟨i,rfl,?_⟩⟩
  .have s:=AC s;have a:(i+j) / 2<J.length:=oa
   rw[A7b i j oa,A0,EI (n:=(((i+j) / 2:Nat):Int)) oa oa,ET (A1 a),A0];have⟨c,p,C,_⟩:=w J[(i+j) / 2];rw[p,A0];have d:=A7c w b oa (A1 a);refine DP.2 ⟨λh=>?_,λh=>?_⟩
   .rw[EY oa];exact A _ ⟨rfl,rfl,rfl,(i+j) / 2+1,j,rfl,d.1 (C.1 (AC h))⟩ oc
   .exact A _ ⟨rfl,rfl,rfl,i,(i+j) / 2,rfl,d.2 (λg=>AG h (C.2 g))⟩ oc
  grind
 .obtain⟨i,rfl,b⟩:=M;have z:=b.le;by_cases h:i<l.length
  .rw[E2,A6 h,A7,ET (A1 h),A0];have⟨c,p,_,K⟩:=w l[i];rw[A7,p,A0];refine DO.2 ⟨⟨oa,oa⟩,λI=>?_,λm y B e=>?_⟩
   .simp_all[BZ,DU,A1,AC]
   .dsimp only;rw[BZ,DU];refine A6 (K.2 ?_);obtain⟨k,hk,rfl⟩:=List.mem_iff_getElem.1 B
    have:k=i:=by
     rcases Nat.lt_trichotomy k i with g|g|g
     .exact absurd (b.lo m k _ g (A1 hk)) oc
     .exact g
     .have O:=b.hi m i _ (AD _) (A1 h);grind[List.pairwise_iff_getElem,absurd]
    grind
  .rw[E2,A9 h,A8,A0,A8,A0];refine DO.2 ⟨⟨oa,oa⟩,λI=>(by cases I),λm y B e=>?_⟩;obtain⟨k,hk,rfl⟩:=List.mem_iff_getElem.1 B;exact absurd (b.lo m k _ oa (A1 hk)) oc
def AOH(l:List FU)(t:DM)(R:l.length<=1048576)(f:FU×DM->Option Int)(w:A0B (λy:FU=>y.1) t f):Tot (lY (l,t,f)) (Srch (λy:FU=>y.1) l t):=by
 unfold lY;dsimp only;refine DN.2 (Tot.mono (P:=λr=>∃i:Nat,r=(i:Int)/\BsI (λy:FU=>y.1) l t i i) ?_ λr M=>?_)
 .refine ES (R:=λr=>∃i:Nat,r=(i:Int)/\BsI (λy:FU=>y.1) l t i i) (λx=>x.1=l/\x.2.1=t/\x.2.2.1=f/\∃i j:Nat,x.2.2.2=((i:Int),(j:Int))/\BsI (λy:FU=>y.1) l t i j) (λx=>(x.2.2.2.2-x.2.2.2.1).toNat)
   (λnext x L A=>?_) _ _ ⟨rfl,rfl,rfl,0,l.length,rfl,⟨oa,λ_ k y h=>absurd h oa,λ_ k y h1 Q=>oc⟩⟩ (by grind[fuel])
  obtain⟨J,V,N,T,U⟩:=x;obtain⟨D,E,G,i,j,H,b⟩:=L;dsimp only at D E G H A;subst D E G;cases H;have z:=b.le;unfold A5M;dsimp only;refine DP.2 ⟨λs=>?_,λs=>DO.2 ⟨i,rfl,?_⟩⟩
  .have s:=AC s;have a:(i+j) / 2<J.length:=oa
   rw[A7b i j oa,A0,EI (n:=(((i+j) / 2:Nat):Int)) oa oa,ET (A1 a),A0];have⟨c,p,C,_⟩:=w J[(i+j) / 2];rw[p,A0];have d:=A7c w b oa (A1 a);refine DP.2 ⟨λh=>?_,λh=>?_⟩
   .rw[EY oa];exact A _ ⟨rfl,rfl,rfl,(i+j) / 2+1,j,rfl,d.1 (C.1 (AC h))⟩ oc
   .exact A _ ⟨rfl,rfl,rfl,i,(i+j) / 2,rfl,d.2 (λg=>AG h (C.2 g))⟩ oc
  grind
 .obtain⟨i,rfl,b⟩:=M;have z:=b.le;by_cases h:i<l.length
  .rw[E2,A6 h,A7,ET (A1 h),A0];have⟨c,p,_,K⟩:=w l[i];rw[A7,p,A0];refine DO.2 ⟨⟨oa,oa⟩,λI=>?_,λm y B e=>?_⟩
   .simp_all[BZ,DU,A1,AC]
   .dsimp only;rw[BZ,DU];refine A6 (K.2 ?_);obtain⟨k,hk,rfl⟩:=List.mem_iff_getElem.1 B
    have:k=i:=by
     rcases Nat.lt_trichotomy k i with g|g|g
     .exact absurd (b.lo m k _ g (A1 hk)) oc
     .exact g
     .have O:=b.hi m i _ (AD _) (A1 h);grind[List.pairwise_iff_getElem,absurd]
    grind
  .rw[E2,A9 h,A8,A0,A8,A0];refine DO.2 ⟨⟨oa,oa⟩,λI=>(by cases I),λm y B e=>?_⟩;obtain⟨k,hk,rfl⟩:=List.mem_iff_getElem.1 B;exact absurd (b.lo m k _ oa (A1 hk)) oc
abbrev IC:=JN×List (DM×Int)×List (DM×Int)×List (DM×List Int)×List (DM×Bool)×Bool
def A7d(t:T_)(n:DM)(b:t.2.length<=1048576):∃r,VV (t,n)=some r:=by
 unfold VV;dsimp only;refine II.1 (DN.2 ((AOG t.2 n b _ ?_).mono λr a=>?_))
 .intro y;grind[WJ,WO,xI,bE]
 .refine DP.2 ⟨λ_=>DO.2 trivial,λh=>?_⟩;have⟨y,d,_⟩:=a.is (by simpa using h);have e:r.1=((r.1.toNat:Nat):Int):=by have:=a.rng;omega
  rw[e,ET d];exact DO.2 trivial
def AOI(t:T_)(x:WQ)(h:t.2.length<=1048576)(d:x.2.length<=1048576):∃b,kP (t,x)=some b:=by
 unfold kP;refine II.1 (DN.2 ((F3 (r:=kO) (σ:=Unit) x.2.length (λ_ i=>(t,x.2,(x.2.length:Int),i)) (λ_ _=>True) (Q:=λ_=>True) oa (λnext b i hi _ a=>?_) (λnext _ _=>?_) () trivial).mono λq _=>?_))
 .unfold kO;dsimp only;rw[E2,A6 hi,A7,ET (A1 hi),A0,EY oa];exact DN.2 ((II.2 (A7d t _ h)).mono λr _=>DP.2 ⟨λ_=>DO.2 trivial,λ_=>a () trivial⟩)
 .simp_all[kO,E2,A9,AA,A8,DO,trivial]
 .cases q<;>exact DO.2 trivial
def OW(m:List (DM×Int))(l:List DM):Prop:=(∀s i,DZ DR s m=some i->0<=i/\l[i.toNat]?=some s)/\∀s∈l,∃i,DZ DR s m=some i
def A0C:OW [] []:=⟨λs i h=>(oq),λs h=>(oq)⟩
theorem A0D{m:List (DM×Int)}{l:List DM}(h:OW m l)(s:DM):OW (ED DR s (l.length:Int) m) (l++[s]):=by
 refine⟨λk i hk=>?_,λk hk=>?_⟩
 .rw[U0]at hk;by_cases e:k=s
  .grind
  .rw[if_neg e]at hk;have⟨h1,a⟩:=h.1 k i hk;grind
 .rw[U0];by_cases e:k=s
  .simp_all
  .rw[if_neg e];rcases AZ.1 hk with hk|hk
   .exact h.2 k hk
   grind
def GI(m:List (DM×Int))(s:DM):Int:=(DZ DR s m).getD 0
def SC{m:List (DM×Int)}{l:List DM}(h:OW m l)(s:DM)(a:0<l.length):0<=GI m s/\GI m s<l.length:=by
 unfold GI;cases e:DZ DR s m with
 |none=>grind
 |some i=>
  have⟨h1,b⟩:=h.1 s i e;grind
def IT(w:IC)(s:DM):List Int:=(DZ DR s w.2.2.2.1).getD []
structure WoOk(g:JN)(how:Int)(w:IC):Prop where
 gr:w.1=g
 fn:OW w.2.1 (g.2.2.1.map (·.1))
 ty:OW w.2.2.1 (g.2.1.map (·.1))
 fit:∀s,(IT w s).length<=g.1.length*g.2.1.length/\∀t∈IT w s,0<=t/\t<g.2.1.length
 made:w.2.2.2.2.2=DQ how 2
theorem AOJ{b:Type}(k a:DM)(v d:b)(m:List (DM×b)):(DZ DR k (ED DR a v m)).getD d=if k=a then v else(DZ DR k m).getD d:=by
 rw[U0];grind
def zd{p:Prop}(h:p:=by grind[List.getElem?_eq_some_iff,A0D,List.length_map,List.length_take,Nat.min_eq_left,WR]):p:=h
def AOK{g:JN}(E:GB g)(hi:g.1.length<=200)(x:g.2.1.length<=500)(a:Int)(fs:List DM)(h4:fs.length<=1048576):Tot (kQ (g,a,fs)) (λr=>∃w,r=some w/\WoOk g a w):=by
 have h2:=E.f0;unfold kQ;dsimp only
 refine DN.2 ((SB (σ:=IC) (α:=N7) g.2.2.1 (λs i=>(s,g.2.2.1,(g.2.2.1.length:Int),i)) (λw i y=>(w.1,ED DR y.1 (i:Int) w.2.1,w.2.2)) (λw=>w)
  (λi w=>w.1=g/\w.2.2.1=[]/\w.2.2.2.1=[]/\w.2.2.2.2.2=DQ a 2/\OW w.2.1 ((g.2.2.1.take i).map (·.1))) oa (λnext s i y h=>?_) (λnext s=>?_) _ ⟨rfl,rfl,rfl,rfl,A0C⟩
  (λw i y h j=>⟨j.1,j.2.1,j.2.2.1,j.2.2.2.1,?_⟩)).mono λz h3=>?_)
 .have l:=(A4.1 h).1;unfold xJ;dsimp only;rw[E2,A6 l,A7,ET h,A0,EY oa]
 .simp_all[xJ,E2,A9,AA,A8]
 .exact zd
 obtain⟨w3,rfl,L,M,N,O,Q⟩:=h3;rw[AW]at Q
 refine DN.2 ((SB (σ:=IC) (α:=T_) g.2.1 (λs i=>(s,g.2.1,(g.2.1.length:Int),i)) (λw i y=>(w.1,w.2.1,ED DR y.1 (i:Int) w.2.2.1,w.2.2.2)) (λw=>w)
  (λi w=>w.1=g/\w.2.1=z.2.1/\w.2.2.2.1=[]/\w.2.2.2.2.2=DQ a 2/\OW w.2.2.1 ((g.2.1.take i).map (·.1))) oa (λnext s i y h=>?_) (λnext s=>?_) _ ⟨L,rfl,N,O,by rw[M];exact A0C⟩
  (λw i y h j=>⟨j.1,j.2.1,j.2.2.1,j.2.2.2.1,?_⟩)).mono λd h5=>?_)
 .have l:=(A4.1 h).1;unfold xK;dsimp only;rw[E2,A6 l,A7,ET h,A0,EY oa]
 .simp_all[xK,E2,A9,AA,A8]
 .exact zd
 obtain⟨w5,rfl,R,T,U,V,W⟩:=h5;rw[AW]at W
 have key:Tot (xN (g,(d.1,(d.2.1,(d.2.2.1,(d.2.2.2.1,(d.2.2.2.2.1,d.2.2.2.2.2))))),g.1,(g.1.length:Int),0))
  (λw=>w.1=g/\w.2.1=z.2.1/\w.2.2.1=d.2.2.1/\w.2.2.2.2.2=DQ a 2/\∀s,(IT w s).length<=g.1.length*g.2.1.length/\∀t∈IT w s,0<=t/\t<g.2.1.length):=by
  refine F3 (σ:=IC) g.1.length (λw i=>(g,w,g.1,(g.1.length:Int),i)) (λi w=>w.1=g/\w.2.1=z.2.1/\w.2.2.1=d.2.2.1/\w.2.2.2.2.2=DQ a 2/\∀s,(IT w s).length<=i*g.2.1.length/\∀t∈IT w s,0<=t/\t<g.2.1.length) oa (λnext w i m p B=>?_) (λnext w p=>?_) _ ⟨R,T,rfl,V,λs=>?_⟩
  .unfold xM;dsimp only;rw[E2,A6 m,A7,ET (A1 m),A0,EY oa];obtain⟨j1,j2,j3,j4,j5⟩:=p;have⟨x1,x2,x3⟩:=E.i1 _ (AK m);have H:(i+1)*g.2.1.length=i*g.2.1.length+g.2.1.length:=C5 _ _;have h7:i*g.2.1.length<=200*500:=Nat.mul_le_mul oa x;refine DN.2 (Tot.mono (P:=λw=>w.1=g/\w.2.1=z.2.1/\w.2.2.1=d.2.2.1/\w.2.2.2.2.2=DQ a 2/\∀s,(IT w s).length<=(i+1)*g.2.1.length/\∀t∈IT w s,0<=t/\t<g.2.1.length) ?_ λh8 C=>B _ C);refine F3 (σ:=IC) g.2.1.length (λw k=>(w,g.1[i],g.2.1,(g.2.1.length:Int),k)) (λk w=>w.1=g/\w.2.1=z.2.1/\w.2.2.1=d.2.2.1/\w.2.2.2.2.2=DQ a 2/\∀s,(IT w s).length<=i*g.2.1.length+k/\∀t∈IT w s,0<=t/\t<g.2.1.length) oa (λnext w k hk p B=>?_) (λnext w p=>?_) _ ⟨j1,j2,j3,j4,j5⟩
   .unfold xL;dsimp only;rw[E2,A6 hk,A7,ET (A1 hk),A0,EY oa];obtain⟨k1,I,J,K,A⟩:=p;refine DN.2 ((II.2 (AOI _ _ (E.t1 _ (AK hk)).2.1 x2)).mono λb _=>DP.2 ⟨λ_=>?_,λ_=>B w ⟨k1,I,J,K,λs=>⟨oc,(A s).2⟩⟩⟩);have h6:=(A g.1[i].1).1;refine DN.2 (F9.2 ⟨by grind[IT,List.length_singleton],?_⟩);rw[E1,A6 rfl,A7,A0];refine B _ ⟨k1,I,J,K,λs=>?_⟩;show((DZ DR s (ED DR _ _ _)).getD []).length<=_/\∀t∈(DZ DR s (ED DR _ _ _)).getD [],_;rw[AOJ];by_cases e:s=g.1[i].1
    .rw[if_pos e];refine⟨by grind[List.length_append,List.length_singleton,IT],λt x=>?_⟩;rcases AZ.1 x with x|x
     .exact(A g.1[i].1).2 t x
     grind
    .rw[if_neg e];exact⟨by have:=(A s).1;grind[IT],(A s).2⟩
   .unfold xL;dsimp only;rw[E2,A9 (AA _),A8];grind[DO,IT]
  .unfold xM;dsimp only;rw[E2,A9 (AA _),A8];exact DO.2 p
  .unfold IT;rw[show(d.2.2.2.1:List (DM×List Int))=[]from U];exact⟨AR _,λt h=>oq⟩
 refine DN.2 (key.mono λG ⟨X,Y,Z,c4,c5⟩=>?_)
 refine DN.2 ((SB (σ:=IC) (α:=DM) fs (λs i=>(s,fs,(fs.length:Int),i)) (λw i y=>(w.1,w.2.1,w.2.2.1,w.2.2.2.1,ED DR y true w.2.2.2.2.1,w.2.2.2.2.2)) (λw=>w)
  (λi w=>w.1=g/\w.2.1=z.2.1/\w.2.2.1=d.2.2.1/\w.2.2.2.2.2=DQ a 2/\w.2.2.2.1=G.2.2.2.1) oa (λnext s i y h=>?_) (λnext s=>?_) _ ⟨X,Y,Z,c4,rfl⟩
  (λw i y h j=>j)).mono λh9 D=>DO.2 ⟨_,rfl,?_⟩)
 .have l:=(A4.1 h).1;unfold xO;dsimp only;rw[E2,A6 l,A7,ET h,A0,EY oa]
 .simp_all[xO,E2,A9,AA,A8]
 obtain⟨x0,rfl,d1,d2,d3,d4,d5⟩:=D;refine⟨d1,oc,oc,λs=>?_,d4⟩;have:=c5 s;grind[IT]
abbrev L7:=Option IC×List Bool×List Bool×List ((DM×DM)×Bool)×List (DM×DM)×List Int×List Int
theorem A7e(l:List Int)(v:Int)(e:l.length<=1099511627776):ZZ (l,v)=some (decide (v∈l)):=by
 unfold ZZ xP;dsimp only
 refine L5 (DN.2 (Tot.mono (P:=λr=>(0<=r<->v∈l)) (DN.2 ((F3 (r:=kR) (σ:=Unit) l.length (λ_ i=>(l,v,(l.length:Int),i)) (λi _=>v ∉ l.take i)
  (Q:=λq=>match q with| .inl _=>v ∉ l| .inr n=>0<=n/\v∈l) oa (λnext _ i hi a b=>?_) (λnext _ a=>?_) () oh).mono λq j=>?_)) λr d=>DO.2 (decide_eq_decide.2 d)))
 .unfold kR;dsimp only;rw[E2,A6 hi,A7,ET (A1 hi),A0,EY oa,DU];refine DP.2 ⟨λh=>DO.2 ⟨oa,?_⟩,λh=>b () ?_⟩
  .grind
  .rw[GW (A1 hi)];grind
 .simp_all[kR,E2,A9,AA,A8,AW,DO]
 grind[DO,absurd]
noncomputable def QG(w:IC)(m:DM)(t:Int):Int:=match w.1.2.1[t.toNat]? with
 |some y=>GI w.2.1 ((VV (y,m)).getD ([],false)).1
 |none=>0
def OX(w:IC)(c:LX):Bool:=(DZ DR c.2.2.2 w.2.2.2.2.1).getD false
def Goes(w:IC)(md:List Bool)(c:LX)(j:Int):Prop:=
 if c.1=1 then j=GI w.2.1 c.2.1 else ∃t∈IT w c.2.1,(w.2.2.2.2.2=false\/md[t.toNat]?=some true)/\j=QG w c.2.2.1 t
inductive Rch (w:IC) (fs md:List Bool):Int->Prop where
 |entry (e:DM) (h:e∈w.1.2.2.2):Rch w fs md (GI w.2.1 e)
 |step (i:Nat) (f:N7) (c:LX) (j:Int) (h1:Rch w fs md (i:Int)) (h2:fs[i]?=some true) (h3:w.1.2.2.1[i]?=some f) (h4:c∈f.2.2.1) (h5:OX w c=true) (h6:Goes w md c j):Rch w fs md j
def Mor(a b:List Bool):Prop:=∀i:Nat,a[i]?=some true->b[i]?=some true
theorem Mor.refl(a:List Bool):Mor a a:=λ_ h=>h
theorem Mor.trans{a b c:List Bool}(h:Mor a b)(k:Mor b c):Mor a c:=λi g=>k i (h i g)
def A7f(a:List Bool)(j:Nat):Mor a (a.set j true):=λi h=>by
 grind
theorem Goes.mono{w:IC}{a m:List Bool}{c:LX}{j:Int}(h:Goes w a c j)(k:Mor a m):Goes w m c j:=by
 unfold Goes at h ⊢;by_cases e:c.1=1
 .rwa[if_pos e]at h ⊢
 .rw[if_neg e]at h ⊢;obtain⟨t,h1,b,d⟩:=h;exact⟨t,h1,b.imp id (k _),d⟩
def Rch.mono{w:IC}{fs b a m:List Bool}{j:Int}(h:Rch w fs b j)(k1:Mor fs a)(z:Mor b m):Rch w a m j:=by
 induction h with
 |entry e h=>exact .entry e h
 |step i f c j _ d l p s x y=>exact .step i f c j y (k1 i d) l p s (x.mono z)
theorem AOL{l:List Bool}:∀{i:Nat},l[i]?=some false->(l.set i true).countP id=l.countP id+1:=by
 grind
structure SpI(w:IC)(s:L7)(p k:Nat):Prop where
 w0:s.1=some w
 fl:s.2.1.length=w.1.2.2.1.length
 ml:s.2.2.1.length=w.1.2.1.length
 cnt:s.2.1.countP id=p+s.2.2.2.2.2.2.length
 q:∀j∈s.2.2.2.2.2.2,0<=j/\s.2.1[j.toNat]?=some true
 r:∀i:Nat,s.2.1[i]?=some true->Rch w s.2.1 s.2.2.1 (i:Int)
 o:∀x∈s.2.2.2.2.1,∃(i:Nat) (f:N7) (c:LX),s.2.1[i]?=some true/\w.1.2.2.1[i]?=some f/\c∈f.2.2.1/\OX w c=true/\c.1≠1/\c.2.1=x.1/\c.2.2.1=x.2
 ol:s.2.2.2.2.1.length<=k
def SpI.few{w:IC}{s:L7}{p k:Nat}(h:SpI w s p k):p+s.2.2.2.2.2.2.length<=w.1.2.2.1.length:=by
 rw[<-h.cnt,<-h.fl];grind
section
variable{g:JN}{how:Int}{w:IC}(hw:WoOk g how w)(hg:GB g)(ho:GrOk g)
include hw hg
theorem pB(c:LX){t:Int}(h0:0<=t)(h1:t<g.2.1.length):TL (some w,c,t)=some (QG w c.2.2.1 t):=by
 have e:t=((t.toNat:Nat):Int):=oa
 have h:t.toNat<g.2.1.length:=oa
 have b:=A1 h;have⟨r,a⟩:=A7d g.2.1[t.toNat] c.2.2.1 (hg.t1 _ (AK h)).2.1;unfold TL;dsimp only;rw[A0,hw.gr,e,ET b,A0,a,A0,A0];unfold QG;rw[hw.gr,BR,b];dsimp only;rw[a];rfl
omit hg in
theorem A0E(m:DM)(t:Int)(h:0<g.2.2.1.length):0<=QG w m t/\QG w m t<g.2.2.1.length:=by
 unfold QG;split
 .have:=SC hw.fn;grind
 .omega
omit hg in
theorem pC{s:L7}{p k:Nat}(h:SpI w s p k){j:Int}(E:Rch w s.2.1 s.2.2.1 j)(h0:0<=j)(h1:j<g.2.2.1.length)(H:g.2.2.1.length<=1048576):
 Tot (TK (s,j)) (λz=>SpI w z p k/\z.2.2.1=s.2.2.1/\z.2.2.2.2.1=s.2.2.2.2.1/\Mor s.2.1 z.2.1/\z.2.1[j.toNat]?=some true):=by
 have l:=h.few;have m:=hw.gr;rw[m]at l;have C:=h.fl;rw[m]at C;obtain⟨b,B⟩:∃b,s.2.1[j.toNat]?=some b:=⟨_,A1 oa⟩;have D:s.2.1.getD j.toNat false=b:=by rw[AF,B];rfl
 unfold TK;dsimp only;refine DN.2 (EV.2 ⟨⟨h0,oa⟩,?_⟩);rw[D];cases b with
 |true=>exact DO.2 ⟨h,rfl,rfl,Mor.refl _,B⟩
 |false=>
  refine DN.2 (EV.2 ⟨⟨h0,oa⟩,?_⟩);refine DN.2 (F9.2 ⟨oc,DO.2 ?_⟩);have A:=A7f s.2.1 j.toNat;have y:(s.2.1.set j.toNat true)[j.toNat]?=some true:=by rw[List.getElem?_set,if_pos rfl,if_pos oa]
  refine⟨⟨h.w0,oc,h.ml,?_,λa d=>?_,λi hi=>?_,λx G=>?_,h.ol⟩,rfl,rfl,A,y⟩
  .dsimp only;rw[AOL B,h.cnt,AI,List.length_singleton];omega
  .rcases AZ.1 d with d|d
   .exact⟨(h.q a d).1,A _ (h.q a d).2⟩
   grind
  .dsimp only at hi ⊢;by_cases e:i=j.toNat
   .have:((i:Nat):Int)=j:=oa
    rw[this];exact E.mono A (Mor.refl _)
   .rw[List.getElem?_set,if_neg (λh=>e h.symm)]at hi;exact(h.r i hi).mono A (Mor.refl _)
  .obtain⟨i,f,c,k1,I⟩:=h.o x G;grind
theorem AOM{s:L7}{p k:Nat}(h:SpI w s p k){t:Int}(h0:0<=t)(h1:t<g.2.1.length)(hn:g.2.2.1.length<=3000)(hp:k<=1000000)(b:g.1.length*g.2.1.length<=1099511627776)(z:0<g.2.2.1.length):
 Tot (kT (s,t)) (λa=>SpI w a p k/\Mor s.2.1 a.2.1):=by
 have j:=hw.gr;have y:=h.ml;rw[j]at y;have T:=h.ol;have e:=h.few;rw[j]at e;unfold kT;dsimp only;refine DN.2 (EV.2 ⟨⟨h0,oa⟩,DP.2 ⟨λ_=>DO.2 ⟨h,Mor.refl _⟩,λ_=>?_⟩⟩);refine DN.2 (EV.2 ⟨⟨h0,oa⟩,?_⟩);rw[h.w0,A0];have R:=A7f s.2.2.1 t.toNat;have J:(s.2.2.1.set t.toNat true)[t.toNat]?=some true:=by rw[List.getElem?_set,if_pos rfl,if_pos oa]
 have H:SpI w (some w,(s.2.1,((s.2.2.1.set t.toNat true),(s.2.2.2.1,(s.2.2.2.2.1,(s.2.2.2.2.2.1,s.2.2.2.2.2.2)))))) p k:=
  ⟨rfl,h.fl,oc,h.cnt,h.q,λi hi=>(h.r i hi).mono (Mor.refl _) R,h.o,h.ol⟩
 refine DP.2 ⟨λ_=>DO.2 ⟨H,Mor.refl _⟩,λ_=>?_⟩;refine DN.2 (Tot.mono (P:=λa=>SpI w a p k/\Mor s.2.1 a.2.1) ?_ λa A=>DO.2 A)
 refine F3 (r:=kS) (σ:=L7) s.2.2.2.2.1.length (λa i=>(a,t,s.2.2.2.2.1,(s.2.2.2.2.1.length:Int),i)) (λ_ a=>SpI w a p k/\Mor s.2.1 a.2.1/\a.2.2.1=s.2.2.1.set t.toNat true/\a.2.2.2.2.1=s.2.2.2.2.1) oa
  (λnext a i hi G m=>?_) (λnext a G=>?_) _ ⟨H,Mor.refl _,rfl,rfl⟩
 .obtain⟨d,D,E,x⟩:=G;unfold kS;dsimp only;rw[E2,A6 hi,A7,ET (A1 hi),A0,d.w0,A0,EY oa];have I:=A7e (IT w s.2.2.2.2.1[i].1) t (AM (hw.fit _).1 b);unfold IT at I;rw[I,A0];have l:(a.1,a.2.1,a.2.2.1,a.2.2.2.1,a.2.2.2.2.1,a.2.2.2.2.2.1,a.2.2.2.2.2.2)=a:=rfl;rw[d.w0]at l;refine DP.2 ⟨λQ=>?_,λ_=>m _ ⟨oc,D,E,x⟩⟩;rw[pB hw hg _ h0 h1,A0,l];have⟨B,C⟩:=A0E hw s.2.2.2.2.1[i].2 t z;have U:s.2.2.2.2.1[i]∈a.2.2.2.2.1:=x.symm▸AK hi;have⟨K,f,c,k1,V,W,X,Y,Z,k7⟩:=d.o _ U;refine DN.2 ((pC hw d (j:=QG w s.2.2.2.2.1[i].2 t) ?_ B C oa).mono λs2 ⟨L,M,N,O,_⟩=>m s2 ⟨L,D.trans O,M.trans E,N.trans x⟩);refine .step K f c _ (d.r K k1) k1 V W X ?_;unfold Goes;rw[if_neg Y];refine⟨t,?_,.inr oc,by rw[k7]⟩;rw[Z];exact AC Q
 .unfold kS;dsimp only;rw[E2,A9 (AA _),A8];grind[DO]
theorem AON{s:L7}{p k:Nat}(h:SpI w s p k)(hn:g.2.2.1.length<=3000)(hp:k<1000000)(K:g.1.length*g.2.1.length<=1099511627776){i:Nat}{f:N7}{c:LX}(hi:s.2.1[i]?=some true)(hf:g.2.2.1[i]?=some f)(T:c∈f.2.2.1)(D:OX w c=true):
 Tot (kV (s,c)) (λa=>SpI w a p (k+1)/\Mor s.2.1 a.2.1):=by
 have e:=hw.gr;have B:0<g.2.2.1.length:=by have:=(A4.1 hf).1;omega
 have L:=h.ml;rw[e]at L;have h2:=h.ol;have m:=h.few;rw[e]at m;have z:(s.1,s.2.1,s.2.2.1,s.2.2.2.1,s.2.2.2.2.1,s.2.2.2.2.2.1,s.2.2.2.2.2.2)=s:=rfl;have up:∀{a},SpI w a p k->SpI w a p (k+1):=λh=>⟨h.w0,h.fl,h.ml,h.cnt,h.q,h.r,h.o,by have:=h.ol;omega⟩;unfold kV;dsimp only;rw[h.w0]at z ⊢;rw[DU];refine DP.2 ⟨λG=>?_,λG=>?_⟩
 .rw[A0,z];have U:=SC hw.fn c.2.1;rw[AX]at U;have⟨r0,r1⟩:=U B;refine DN.2 ((pC hw h (j:=GI w.2.1 c.2.1) ?_ r0 r1 oa).mono λV ⟨I,W,X,J,_⟩=>DO.2 ⟨up I,J⟩);refine .step i f c _ (h.r i hi) hi oc T D ?_;unfold Goes;grind
 .have G:=AG G;refine DP.2 ⟨λ_=>DO.2 (by grind[Mor.refl]),λ_=>?_⟩;refine DN.2 (F9.2 ⟨oc,?_⟩);rw[A0]
  have Y:SpI w (some w,(s.2.1,(s.2.2.1,((ED (λ(x y:DM×DM)=>DR x.1 y.1&&DR x.2 y.2) (c.2.1,c.2.2.1) true s.2.2.2.1),(s.2.2.2.2.1++[(c.2.1,c.2.2.1)],(s.2.2.2.2.2.1,s.2.2.2.2.2.2)))))) p (k+1):=by
   refine⟨rfl,h.fl,h.ml,h.cnt,h.q,h.r,λx H=>?_,oc⟩;rcases AZ.1 H with H|H
   .exact h.o x H
   .grind
  have⟨fl,Q⟩:=hw.fit c.2.1;unfold IT at fl Q;refine DN.2 (Tot.mono (P:=λa=>SpI w a p (k+1)/\Mor s.2.1 a.2.1) ?_ λa M=>DO.2 M)
  refine F3 (r:=kU) (σ:=L7) ((DZ DR c.2.1 w.2.2.2.1).getD []).length (λa i=>(a,c,(DZ DR c.2.1 w.2.2.2.1).getD [],(((DZ DR c.2.1 w.2.2.2.1).getD []).length:Int),i)) (λ_ a=>SpI w a p (k+1)/\Mor s.2.1 a.2.1) oa
   (λnext a n j R C=>?_) (λnext a R=>?_) _ ⟨Y,Mor.refl _⟩
  .obtain⟨l,E⟩:=R;unfold kU;dsimp only;have d:=AK j;have⟨t0,t1⟩:=Q _ d;have A:=l.ml;rw[e]at A;rw[E2,A6 j,A7,ET (A1 j),A0,l.w0,A0,EY oa];have b:(a.1,a.2.1,a.2.2.1,a.2.2.2.1,a.2.2.2.2.1,a.2.2.2.2.2.1,a.2.2.2.2.2.2)=a:=rfl;rw[l.w0]at b;refine DN.2 (Tot.mono (P:=λ_=>True) (DP.2 ⟨λ_=>EV.2 ⟨⟨t0,oa⟩,trivial⟩,λ_=>DO.2 trivial⟩) λ_ _=>?_);refine DP.2 ⟨λZ=>?_,λ_=>C _ ⟨oc,E⟩⟩;rw[pB hw hg _ t0 t1,A0,b];have⟨N,O⟩:=A0E hw c.2.2.1 ((DZ DR c.2.1 w.2.2.2.1).getD [])[n] B;refine DN.2 ((pC hw l ?_ N O oa).mono λV ⟨I,W,X,J,_⟩=>C V ⟨I,E.trans J⟩);refine .step i f c _ (l.r i (E i hi)) (E i hi) oc T D ?_;unfold Goes;rw[if_neg G];refine⟨_,d,?_,rfl⟩;grind
  simp_all[kU,E2,A9,AA,A8,DO]
end
structure SpOk(w:IC)(s:L7):Prop where
 w0:s.1=some w
 fl:s.2.1.length=w.1.2.2.1.length
 ml:s.2.2.1.length=w.1.2.1.length
 r:∀i:Nat,s.2.1[i]?=some true->Rch w s.2.1 s.2.2.1 (i:Int)
section
variable{g:JN}{how:Int}{w:IC}(hw:WoOk g how w)(hg:GB g)(ho:GrOk g)
include hw hg ho
theorem A7g:Tot (Z_ (some w,-1)) (λr=>∃s,r=some s/\SpOk w s):=by
 have d:=hw.gr;have X:=ho.f;have hm:=ho.t
 have A:g.1.length*g.2.1.length<=1099511627776:=by
  have:=Nat.mul_le_mul ho.i ho.t;omega
 have h6:=hg.e0;unfold Z_;dsimp only;rw[A0,d]
 have mk:∀n:Nat,n<=3000->mks? 24 (n:Int) (n:Int) false=some (List.replicate n false):=λn h=>by
  grind[mks?,decide_eq_true]
 rw[mk _ X,A0,A0,d,mk _ oa,A0,A0,d]
 have hS:SpI w (some w,(List.replicate g.2.2.1.length false,(List.replicate g.2.1.length false,(([]:List ((DM×DM)×Bool)),(([]:List (DM×DM)),(([]:List Int),([]:List Int))))))) 0 0:=by
  refine⟨rfl,oc,oc,oh,λj h=>(oq),λi h=>?_,λx h=>(oq),AD _⟩;dsimp only at h;rw[D3]at h;split at h<;>cases h
 refine DN.2 (Tot.mono (P:=λs=>SpI w s 0 0) ?_ λr9 T=>?_)
 .refine F3 (r:=kW) (σ:=L7) g.2.2.2.length (λs i=>(some w,s,g.2.2.2,(g.2.2.2.length:Int),i)) (λ_ s=>SpI w s 0 0) oa (λnext s i hi b C=>?_) (λnext s b=>?_) _ hS
  .unfold kW;dsimp only;have B:=AK hi;have⟨y,Z,_⟩:=ho.entries _ B;have K:0<g.2.2.1.length:=List.length_pos_of_mem Z;rw[E2,A6 hi,A7,ET (A1 hi),A0,A0,EY oa];have L:=SC hw.fn g.2.2.2[i];rw[AX]at L;have⟨r0,r1⟩:=L K;exact DN.2 ((pC hw b (j:=GI w.2.1 g.2.2.2[i]) (.entry _ oc) r0 r1 oa).mono λM D=>C M D.1)
  simp_all[kW,E2,A9,AA,A8,DO]
 refine DN.2 (Tot.mono (P:=SpOk w) ?_ λs hs=>DO.2 ⟨_,rfl,hs⟩);refine ES (R:=SpOk w) (λx=>x.1=some w/\x.2.1= -1/\∃p,SpI w x.2.2 p (200*p)) (λx=>(x.2.2.2.1.countP λb=>!b)+x.2.2.2.2.2.2.2.2.length) (λnext x hI C=>?_) _ _ ⟨rfl,rfl,0,T⟩ ?_
 .obtain⟨w',u,s⟩:=x;obtain⟨e1,e2,p,b⟩:=hI;dsimp only at e1 e2 b C;subst e1 e2;have z:=b.few;have E:=b.cnt;have Q:=b.fl;rw[d]at z Q
  have G:∀l:List Bool,l.countP id+l.countP (λb=>!b)=l.length:=λl=>by
   induction l<;>grind
  unfold A54;dsimp only;obtain⟨s1,fs,md,sl,od,ty,R⟩:=s;dsimp only at b z E Q C ⊢;cases R with
  |nil=>
   rw[show decide ((0:Int)<(([]:List Int).length:Int))=false from rfl,A8];exact DO.2 ⟨b.w0,b.fl,b.ml,b.r⟩
  |cons j R=>
   have⟨j0,W⟩:=b.q j AE;dsimp only at W;have h7:=(A4.1 W).1;have ec:((j.toNat:Nat):Int)=j:=oa
   obtain⟨f,U⟩:∃f,g.2.2.1[j.toNat]?=some f:=⟨_,A1 oa⟩;rw[BN]at E z;rw[show decide ((0:Int)<((j::R).length:Int))=true from A6 oh,A7];refine DN.2 (EV.2 ⟨⟨oa,oh⟩,?_⟩);refine DN.2 (I5.2 ⟨⟨oa,oc,oa⟩,?_⟩);rw[show((j::R).getD 0 (0:Int))=j from rfl,BR,AW,show(Int.toNat 1)=1 from rfl,List.drop_one,List.tail_cons,show DQ j (-1)=false from by grind[DU,decide_eq_false],A8,A0,d];have O:at? g.2.2.1 j=some f:=by rw[<-ec];exact ET U
   rw[O,A0];have b':SpI w (s1,(fs,(md,(sl,(od,(ty,R)))))) (p+1) (200*p):=⟨b.w0,b.fl,b.ml,oc,λa ha=>b.q a (AN _ ha),b.r,b.o,b.ol⟩;have I:=AL U;refine DN.2 (Tot.mono (P:=λs=>SpI w s (p+1) (200*p)/\Mor fs s.2.1) ?_ λx3 ⟨c1,c2⟩=>?_)
   .have h8:=(hg.f1 f I).2.2.2.1;refine F3 (r:=kX) (σ:=L7) f.2.2.2.length (λs i=>(some w,s,f.2.2.2,(f.2.2.2.length:Int),i)) (λ_ s=>SpI w s (p+1) (200*p)/\Mor fs s.2.1) oa (λnext s i hi H m=>?_) (λnext s H=>?_) _ ⟨b',Mor.refl _⟩
    .unfold kX;dsimp only;have B:=AK hi;have⟨y,Z,_⟩:=ho.makes f I _ B;have K:0<g.2.1.length:=List.length_pos_of_mem Z;rw[E2,A6 hi,A7,ET (A1 hi),A0,A0,EY oa];have L:=SC hw.ty f.2.2.2[i];rw[AX]at L;have⟨r0,r1⟩:=L K;exact DN.2 ((AOM hw hg H.1 (t:=GI w.2.2.1 f.2.2.2[i]) r0 r1 X oa A oa).mono λM D=>m M ⟨D.1,H.2.trans D.2⟩)
    simp_all[kX,E2,A9,AA,A8,DO]
   rw[A0,d,O,A0];have h5:=ho.calls f I;refine DN.2 (Tot.mono (P:=λr=>∃s,r=Sum.inr s/\∃k,k<=200*(p+1)/\SpI w s (p+1) k/\Mor fs s.2.1) ?_ λx4 L=>?_)
   .refine F3 (r:=kY) (σ:=L7) f.2.2.1.length (λs i=>(some w,-1,s,f.2.2.1,(f.2.2.1.length:Int),i)) (λn s=>∃k,k<=200*p+n/\SpI w s (p+1) k/\Mor fs s.2.1) oa (λnext s n J H m=>?_) (λnext s H=>?_) _ ⟨200*p,AD _,c1,c2⟩
    .obtain⟨k,k1,e,N⟩:=H;unfold kY;dsimp only;rw[E2,A6 J,A7,ET (A1 J),A0,A0,EY oa];refine DP.2 ⟨λ_=>m s ⟨k,oa,e,N⟩,λx2=>?_⟩;refine DN.2 ((AON hw hg e X oa A (N _ W) U (AK J) (by grind[OX])).mono λM D=>?_);rw[show decide ((0:Int)<= -1)=false from oi,A8,A0,C_,A8];exact m M ⟨k+1,oa,D.1,N.trans D.2⟩
    .obtain⟨k,k1,e,N⟩:=H;unfold kY;dsimp only;rw[E2,A9 (AA _),A8];exact DO.2 ⟨s,rfl,k,oa,e,N⟩
   .obtain⟨M,rfl,k,k1,e,N⟩:=L;have Y:=e.ol;have h4:=e.cnt;have V:=e.fl;have x0:=G fs;have x1:=G M.2.1;rw[d]at V;refine C _ ⟨rfl,rfl,p+1,⟨e.w0,e.fl,e.ml,e.cnt,e.q,e.r,e.o,AM Y k1⟩⟩ ?_;grind
 .dsimp only;have h1:=T.few;rw[d]at h1;have D:r9.2.1.countP (λb=>!b)<=r9.2.1.length:=List.countP_le_length;have h3:=T.fl;grind[fuel]
end
def bN(nx:List (List Int)):Prop:=nx.length<=1048576/\∀r∈nx,r.length<=1099511627776/\∀j∈r,0<=j/\j<nx.length
structure Bf(nx:List (List Int))(t:Nat)(D:Int)(o q:List Int)(p cur k:Nat):Prop where
 len:o.length=nx.length
 cnt:o.countP (λx=>decide (0<=x))=p+q.length
 t0:o[t]?=some 0
 qin:∀j∈q,0<=j/\∃x:Int,o[j.toNat]?=some x/\0<=x/\D<=x
 low:∀(j:Nat) (x:Int),o[j]?=some x-> -1<=x/\x<=D+1/\x<p+q.length
 pre:∀(j:Nat) (x:Int),o[j]?=some x->0<=x->(x=0/\j=t)\/∃(i:Nat) (y:Int) (r:List Int),o[i]?=some y/\0<=y/\x=y+1/\nx[i]?=some r/\(j:Int)∈r
 srt:q.Pairwise λa b=>∀x y,o[a.toNat]?=some x->o[b.toNat]?=some y->x<=y
 clo:∀(i:Nat) (y:Int) (r:List Int),o[i]?=some y->0<=y->nx[i]?=some r->(i:Int)∈q\/∀j∈(if i=cur then r.take k else r),∃x:Int,o[j.toNat]?=some x/\0<=x/\x<=y+1
theorem A7h{l:List Int}{P:Int->Bool}:∀{i:Nat} {a b:Int},l[i]?=some a->P a=false->P b=true->(l.set i b).countP P=l.countP P+1:=by
 grind
def AOO{nx:List (List Int)}{t:Nat}{D:Int}{o q r:List Int}{p b k:Nat}{j x:Int}(h:Bf nx t D o q p b k)(m:o[b]?=some D)(J:nx[b]?=some r)(I:r[k]?=some j)
 (L:o[j.toNat]?=some x)(h0:0<=x):Bf nx t D o q p b (k+1):=by
 obtain⟨h1,A,B,C,E,G,H,d⟩:=h;refine⟨h1,A,B,C,E,G,H,λi y K s z w=>?_⟩;rcases d i y K s z w with d|d
 .exact .inl d
 .refine .inr λa l=>?_;by_cases e:i=b
  .subst e;rw[if_pos rfl]at d l;rw[J]at w;cases w;rw[m]at s;cases s;rw[GW I]at l;rcases AZ.1 l with l|l
   .exact d a l
   grind[List.mem_singleton]
  simp_all
def AOP{nx:List (List Int)}{t:Nat}{D:Int}{o q r:List Int}{p l k:Nat}{j x:Int}(h:Bf nx t D o q p l k)(m:o[l]?=some D)(I:0<=D)(L:nx[l]?=some r)(hj:r[k]?=some j)
 (h9:0<=j)(hx:o[j.toNat]?=some x)(h0:x<0):Bf nx t D (o.set j.toNat (D+1)) (q++[j]) p l (k+1):=by
 obtain⟨h1,h2,U,H,V,W,X,A⟩:=h;have E:j.toNat<o.length:=(A4.1 hx).1
 have old:∀(i:Nat) y,o[i]?=some y->0<=y->(o.set j.toNat (D+1))[i]?=some y:=λi y w z=>by
  rw[List.getElem?_set];by_cases e:j.toNat=i<;>grind
 have s:∀(i:Nat) y,(o.set j.toNat (D+1))[i]?=some y->(i=j.toNat/\y=D+1)\/(i≠j.toNat/\o[i]?=some y):=λi y g=>by
  rw[List.getElem?_set]at g;by_cases e:j.toNat=i<;>grind
 have K:(o.set j.toNat (D+1))[j.toNat]?=some (D+1):=by rw[List.getElem?_set,if_pos rfl,if_pos E]
 have Y:=(V _ _ m).2.2;refine⟨oc,?_,old _ _ U (AS _),λa d=>?_,λi y g=>?_,λi y g T=>?_,?_,λi y O w z C=>?_⟩
 .grind[A7h,List.length_append,List.length_singleton]
 .rcases AZ.1 d with d|d
  .obtain⟨a0,y,w,z⟩:=H a d;grind
  .rw[AP]at d;grind
 .rw[AI,List.length_singleton];rcases s i y g with⟨_,rfl⟩|⟨_,g⟩<;>grind
 .rcases s i y g with⟨e,rfl⟩|⟨_,g⟩
  .refine .inr ⟨l,D,r,old _ _ m I,I,rfl,L,?_⟩;have:((i:Nat):Int)=j:=oa
   grind[List.mem_of_getElem?]
  .rcases W i y g T with h|⟨i',Q,O,k1,B,M,k4,k5⟩<;>grind
 .refine List.pairwise_append.2 ⟨?_,DH _ _,λa d b J G Q w z=>?_⟩
  .refine X.imp_of_mem λ{a b} d J Z G Q w z=>?_;have⟨_,u,k1,B,_⟩:=H a d;grind
  .rw[AP]at J;grind
 .rcases s i y w with⟨e,rfl⟩|⟨e,g⟩
  .refine .inl (BP _ ?_);rw[AP];omega
  .rcases A i y O g z C with A|A
   .grind
   .refine .inr λa d=>?_;have N:(∃x,o[a.toNat]?=some x/\0<=x/\x<=y+1)->∃x,(o.set j.toNat (D+1))[a.toNat]?=some x/\0<=x/\x<=y+1:=λ⟨G,k1,B,M⟩=>⟨G,old _ _ k1 B,B,M⟩;by_cases R:i=l
    .subst R;rw[if_pos rfl]at A d;rw[L]at C;cases C;rw[m]at g;cases g;rw[GW hj]at d;rcases AZ.1 d with d|d
     .simp_all
     .rw[AP]at d;grind
    simp_all
def AOQ{nx:List (List Int)}(G:bN nx){t:Nat}{D:Int}{o q r:List Int}{p a:Nat}(h:Bf nx t D o q p a 0)(j:o[a]?=some D)(K:0<=D)(z:nx[a]?=some r):
 Tot (lZ (-1,o,q,(a:Int),r,(r.length:Int),0)) (λy=>Bf nx t D y.1 y.2 p a r.length/\y.1[a]?=some D):=by
 have⟨T,A⟩:=G.2 r (AL z);refine F3 (σ:=List Int×List Int) r.length (λs k=>(-1,s.1,s.2,(a:Int),r,(r.length:Int),k)) (λk s=>Bf nx t D s.1 s.2 p a k/\s.1[a]?=some D) oa (λnext s k hk H l=>?_) (λnext s H=>?_) (o,q) ⟨h,j⟩
 .obtain⟨e,V⟩:=s;obtain⟨b,c⟩:=H;dsimp only at b c;unfold VX;dsimp only;have d:=A1 hk;have⟨C,U⟩:=A _ (AK hk);have w:(r[k]).toNat<e.length:=by rw[b.len];omega
  obtain⟨E,B⟩:∃E,e[(r[k]).toNat]?=some E:=⟨_,A1 w⟩;have M:=(A4.1 c).1;have N:e.countP (λx=>decide (0<=x))<=e.length:=List.countP_le_length;have Q:=b.len;have O:=b.cnt;have L:=(b.low _ _ c).2.2;have R:=G.1;rw[E2,A6 hk,A7,ET d,A0,EY oa];refine DN.2 (EV.2 ⟨⟨C,oa⟩,?_⟩);have I:e.getD (r[k]).toNat 0=E:=by rw[AF,B];rfl
  have J:e.getD ((a:Int)).toNat 0=D:=by rw[AF,BR,c];rfl
  rw[I,J,show DQ r[k] (-1)=false from by grind[DU,decide_eq_false],D8,DK];refine DP.2 ⟨λm=>?_,λm=>?_⟩
  .have m:=AC m;refine DN.2 (EV.2 ⟨⟨oa,oa⟩,?_⟩);refine DN.2 (EV.2 ⟨⟨C,oa⟩,?_⟩);refine DN.2 (F9.2 ⟨oc,?_⟩);rw[EI oa oa];refine l (_,_) ⟨AOP b c K z d C B m,?_⟩;grind
  .exact l (_,_) ⟨AOO b c z d B oc,c⟩
 simp_all[VX,E2,A9,AA,A8,DO]
structure Dist(nx:List (List Int))(t:Nat)(o:List Int):Prop where
 len:o.length=nx.length
 t0:o[t]?=some 0
 low:∀(j:Nat) (x:Int),o[j]?=some x-> -1<=x/\x<nx.length
 pre:∀(j:Nat) (x:Int),o[j]?=some x->0<=x->(x=0/\j=t)\/∃(i:Nat) (y:Int) (r:List Int),o[i]?=some y/\0<=y/\x=y+1/\nx[i]?=some r/\(j:Int)∈r
 clo:∀(i:Nat) (y:Int) (r:List Int),o[i]?=some y->0<=y->nx[i]?=some r->∀j∈r,∃x:Int,o[j.toNat]?=some x/\0<=x/\x<=y+1
def A7i(o:List Int):o.countP (λx=>decide (0<=x))+o.countP (λx=>decide (x<0))=o.length:=by
 induction o<;>grind
def bO(n:Nat)(o:List Int):List Int->Int
 |[]=>n
 |j::_=>o.getD j.toNat 0
def A7j{nx:List (List Int)}(W:bN nx){t:Nat}{o:List Int}(hl:o.length=nx.length)(Y:∀(j:Nat),j<nx.length->o[j]?=some (if j=t then 0 else -1))(ht:t<nx.length):
 Tot (yG (nx,-1,o,[(t:Int)])) (Dist nx t):=by
 have h6:=W.1
 refine ES (R:=Dist nx t) (λx=>x.1=nx/\x.2.1= -1/\∃p,Bf nx t (bO nx.length x.2.2.1 x.2.2.2) x.2.2.1 x.2.2.2 p nx.length 0) (λx=>x.2.2.2.length+(x.2.2.1.countP λv=>decide (v<0)))
  (λnext x hI G=>?_) _ _ ⟨rfl,rfl,0,?_⟩ ?_
 .obtain⟨d,wo,C,q⟩:=x;obtain⟨R,T,p,b⟩:=hI;dsimp only at R T b G;subst R T;unfold aJ;dsimp only;have X:=A7i C;have h5:=b.len;have O:=b.cnt;cases q with
  |nil=>
   rw[show decide ((0:Int)<(([]:List Int).length:Int))=false from rfl,A8];refine DO.2 ⟨b.len,b.t0,λj x hx=>⟨(b.low j x hx).1,?_⟩,b.pre,λi y r w A B=>?_⟩
   .have:=(b.low j x hx).2.2;omega
   .rcases b.clo i y r w A B with h|h<;>grind
  |cons j q=>
   have⟨j0,D,I,J,_⟩:=b.qin j AE;have h4:=(A4.1 I).1;obtain⟨r,Z⟩:∃r,d[j.toNat]?=some r:=⟨_,A1 oa⟩;have U:((j.toNat:Nat):Int)=j:=oa
   rw[show decide ((0:Int)<((j::q).length:Int))=true from A6 oh,A7];refine DN.2 (EV.2 ⟨⟨oa,oh⟩,?_⟩);refine DN.2 (I5.2 ⟨⟨oa,oc,oa⟩,?_⟩);rw[show((j::q).getD 0 (0:Int))=j from rfl,BR,AW,show(Int.toNat 1)=1 from rfl,List.drop_one,List.tail_cons];have K:at? d j=some r:=by rw[<-U];exact ET Z
   rw[K,A0]
   have eD:bO d.length C (j::q)=D:=by
    show C.getD j.toNat 0=D;rw[AF,I];rfl
   rw[eD]at b
   have b':Bf d t D C q (p+1) j.toNat 0:=by
    refine⟨b.len,oc,b.t0,λa l=>b.qin a (AN _ l),λi y g=>?_,b.pre,(List.pairwise_cons.1 b.srt).2,λi y Q w A B=>?_⟩
    .have:=b.low i y g;grind
    .by_cases e:i=j.toNat
     .grind
     .rw[if_neg e];rcases b.clo i y Q w A B with h|h<;>grind
   have m:=AOQ W b' I J Z;rw[U]at m;refine DN.2 (m.mono λy hy=>?_);obtain⟨c,N⟩:=hy;obtain⟨s,E⟩:=y;dsimp only at c N;have L:=c.cnt;have M:=c.len;have h2:=A7i s;have h3:s.countP (λx=>decide (0<=x))<=s.length:=List.countP_le_length;rw[BN]at O;have V:C.countP (λx=>decide (0<=x))<=C.length:=List.countP_le_length;refine G _ ⟨rfl,rfl,p+1,⟨M,L,c.t0,λa l=>?_,λi x g=>?_,c.pre,c.srt,λi x Q w A B=>?_⟩⟩ oc
   .obtain⟨a0,x,k1,k2,k3⟩:=c.qin a l;refine⟨a0,x,k1,k2,?_⟩;dsimp only at l ⊢;cases E with
    |nil=>cases l
    |cons b E=>
     have⟨b0,z,H,m2,m3⟩:=c.qin b AE
     have:bO d.length s (b::E)=z:=by
      show s.getD b.toNat 0=z;rw[AF,H];rfl
     rw[this];rcases B1.1 l with rfl|l
     .grind
     .exact(List.pairwise_cons.1 c.srt).1 a l _ _ H k1
   .obtain⟨k1,k2,k3⟩:=c.low i x g;refine⟨k1,?_,k3⟩;dsimp only;cases E with
    |nil=>show x<=(d.length:Int)+1;omega
    |cons b E=>
     have⟨b0,z,H,m2,m3⟩:=c.qin b AE
     have:bO d.length s (b::E)=z:=by
      show s.getD b.toNat 0=z;rw[AF,H];rfl
     omega
   .rcases c.clo i x Q w A B with h|h<;>grind
 .dsimp only
  have e0:bO nx.length o [(t:Int)]=0:=by
   show o.getD ((t:Int)).toNat 0=0;rw[AF,BR,Y t ht,if_pos rfl];rfl
  rw[e0]
  have hv:∀(j:Nat) x,o[j]?=some x->(j=t/\x=0)\/(j≠t/\x= -1):=λj x g=>by
   grind
  refine⟨hl,?_,by rw[Y t ht,if_pos rfl],λj hj=>?_,λj x g=>?_,λj x g g0=>?_,DH _ _,λi y r w A B=>?_⟩
  .have e:o=(List.replicate nx.length (-1)).set t 0:=by
    refine BJ λi=>?_;rw[List.getElem?_set];by_cases hi:i<nx.length
    .grind
    .rw[CH oa,if_neg oa,CH oc]
   simp_all[A7h,D3,if_pos,List.countP_replicate]
  .grind
  .grind
  .grind
  grind
 grind[decide,List.countP_le_length,fuel,List.length_singleton]
def A7k(z:List Int)(e:z.length<=1048576):yF (z,(z.length:Int),0)=some (List.replicate z.length (-1)):=by
 refine L5 (F3 (σ:=List Int) z.length (λo i=>(o,(z.length:Int),i)) (λi o=>o.length=z.length/\∀j,j<i->o[j]?=some (-1)) oa (λnext o i hi a b=>?_) (λnext o a=>?_) z ⟨rfl,λj h=>absurd h (Nat.not_lt_zero j)⟩)
 .unfold yE;dsimp only;rw[E2,A6 hi,A7,EY oa];refine DN.2 (EV.2 ⟨⟨oa,by rw[a.1];omega⟩,b _ ⟨oc,λj d=>?_⟩⟩);grind
 .unfold yE;dsimp only;rw[E2,A9 (AA _),A8];refine DO.2 (BJ λj=>?_);grind
def AOR{nx:List (List Int)}(h:bN nx){t:Nat}(d:t<nx.length):Tot (l_ (nx,(t:Int),-1)) (Dist nx t):=by
 have a:=h.1;unfold l_;dsimp only;rw[show mks? 24 (nx.length:Int) (nx.length:Int) (0:Int)=some (List.replicate nx.length 0)from ?_,A0]
 .have:=A7k (List.replicate nx.length 0) oc;rw[this,A0,B8,show DQ (t:Int) (-1)=false from by rfl,A8];refine DN.2 (EV.2 ⟨⟨oa,oc⟩,?_⟩);refine DN.2 ((A7j h (by rw[B2,B8]) (λj e=>?_) d).mono λr b=>DO.2 b);grind
 grind[mks?,decide_eq_true]
theorem A0F{l:List Int}{x:Int}:x∈Lib.compact l<->x∈l:=by
 unfold Lib.compact Lib.compactUpTo;have d:∀j (h:j<l.length),l.toArray[j]! =l[j]:=λj h=>oc
 constructor
 .grind
 .intro h;obtain⟨j,m,rfl⟩:=List.mem_iff_getElem.1 h;refine C1.2 ?_
  have:∀(n:Nat) (b:n<l.length),∃a,a∈(List.range l.length).filter (Lib.keeps l.toArray)/\l.toArray[a]! =l[n]:=by
   intro n;induction n with
   |zero=>exact λb=>⟨0,DD.2 ⟨CT.2 b,by simp[Lib.keeps]⟩,d 0 b⟩
   |succ n p=>
    intro b;by_cases e:l[n+1]=l[n]
    .grind
    .refine⟨n+1,DD.2 ⟨CT.2 b,?_⟩,d _ b⟩;refine Lib.keeps_pos ?_;grind
  exact this j m
theorem A0G(l:List Int):(Lib.compact l).length<=l.length:=by
 grind[Lib.compact,Lib.compactUpTo,List.length_map,Nat.le_trans,List.length_filter_le]
section
variable{g:JN}{how:Int}{w:IC}(hw:WoOk g how w)(hg:GB g)(ho:GrOk g)
include hw hg ho
theorem A7l{m:List Bool}(O:m.length=g.2.1.length)(c:LX)(A:0<g.2.2.1.length):
 Tot (aT (some w,c,if w.2.2.2.2.2=true then some m else none)) (λl=>l.length<=100000/\(∀j,j∈l<->Goes w m c j)/\∀j∈l,0<=j/\j<g.2.2.1.length):=by
 have J:=SC hw.fn c.2.1;rw[AX]at J
 have E:g.1.length*g.2.1.length<=100000:=by
  have:=Nat.mul_le_mul ho.i ho.t;omega
 unfold aT;dsimp only;rw[DU];refine DP.2 ⟨λp=>?_,λp=>?_⟩
 .rw[A0];refine DO.2 ⟨oh,λj=>?_,λj z=>?_⟩
  .unfold Goes;rw[if_pos (AC p),AP];rfl
  .rw[AP]at z;subst z;exact J A
 .have p:=AG p;rw[A0];have⟨fl,G⟩:=hw.fit c.2.1;unfold IT at fl G
  have key:Tot (yQ (some w,(if w.2.2.2.2.2=true then some m else none),c,([]:List Int),((DZ DR c.2.1 w.2.2.2.1).getD []),(((DZ DR c.2.1 w.2.2.2.1).getD []).length:Int),0))
   (λl=>l.length<=((DZ DR c.2.1 w.2.2.2.1).getD []).length/\∀j,j∈l<->∃t∈(DZ DR c.2.1 w.2.2.2.1).getD [],(w.2.2.2.2.2=false\/m[t.toNat]?=some true)/\j=QG w c.2.2.1 t):=by
   refine F3 (r:=mR) (σ:=List Int) ((DZ DR c.2.1 w.2.2.2.1).getD []).length (λs i=>(some w,(if w.2.2.2.2.2=true then some m else none),c,s,((DZ DR c.2.1 w.2.2.2.1).getD []),(((DZ DR c.2.1 w.2.2.2.1).getD []).length:Int),i))
    (λi l=>l.length<=i/\∀j,j∈l<->∃t∈((DZ DR c.2.1 w.2.2.2.1).getD []).take i,(w.2.2.2.2.2=false\/m[t.toNat]?=some true)/\j=QG w c.2.2.1 t) oa (λnext l i hi H C=>?_) (λnext l H=>?_) [] ⟨AD _,λj=>⟨λh=>(oq),λ⟨t,h,_⟩=>(oq)⟩⟩
   .obtain⟨T,K⟩:=H;unfold mR;dsimp only;have d:=A1 hi;have⟨t0,t1⟩:=G _ (AK hi);rw[E2,A6 hi,A7,ET d,A0,EY oa];generalize ((DZ DR c.2.1 w.2.2.2.1).getD [])[i]=t at d t0 t1 ⊢;have R:((t.toNat:Nat):Int)=t:=oa
    obtain⟨b,D⟩:∃b,m[t.toNat]?=some b:=⟨_,A1 oa⟩
    have B:nilM? (if w.2.2.2.2.2=true then some m else none)=some (!w.2.2.2.2.2):=by
     cases w.2.2.2.2.2 with
     |false=>rfl
     |true=>
      cases m with
      |nil=>grind
      |cons a m=>rfl
    rw[B,A0]
    have Q:(bif (!(!w.2.2.2.2.2))then at? ((if w.2.2.2.2.2=true then some m else none).getD []) t else some false)=some (w.2.2.2.2.2&&b):=by
     cases w.2.2.2.2.2 with
     |false=>rfl
     |true=>
      grind[at?,ET]
    rw[Q,A0,pB hw hg c t0 t1,A0]
    have I:((!w.2.2.2.2.2)||(w.2.2.2.2.2&&b))=true<->(w.2.2.2.2.2=false\/m[t.toNat]?=some true):=by
     rw[D];cases w.2.2.2.2.2<;>cases b<;>simp
    refine DP.2 ⟨λN=>DN.2 (F9.2 ⟨oc,C _ ⟨oc,λj=>?_⟩⟩),λN=>C _ ⟨oa,λj=>?_⟩⟩
    .rw[GW d,AZ,AP,K];grind
    .rw[GW d,K];grind
   .simp_all[mR,E2,A9,AA,A8,AW,DO]
  refine DN.2 (key.mono λM ⟨U,L⟩=>?_);unfold slices_Sort_int slices_Compact_int;rw[A0,A0]
  have e:∀j,j∈Lib.compact (M.mergeSort λx y=>decide (x<=y))<->j∈M:=λj=>by
   grind[A0F,List.mergeSort_perm]
  refine DO.2 ⟨?_,λj=>?_,λj z=>?_⟩
  .grind[A0G,decide,List.length_mergeSort]
  .rw[e,L];unfold Goes;rw[if_neg p];rfl
  .rw[e,L]at z;obtain⟨t,_,_,rfl⟩:=z;exact A0E hw _ _ A
end
def AOS(k:Nat)(o q:List Int)(i:Int)(t:List Int)(n m:Int):DX mV k (o,q,i,t,n,m)=DX VX k (-1,o,q,i,t,n,m):=by
 have e:∀(next:List Int×List Int×Int×List Int×Int×Int->Option (List Int×List Int)) (a:Int×List Int×List Int×Int×List Int×Int×Int->Option (List Int×List Int)) (o q:List Int) (i:Int) (t:List Int) (n m:Int),
  (∀o q i t n m,next (o,q,i,t,n,m)=a (-1,o,q,i,t,n,m))->mV next (o,q,i,t,n,m)=VX a (-1,o,q,i,t,n,m):=λnext a o q i t n m h=>by
  unfold mV VX;dsimp only;simp only[h];cases decide (m<n)with
  |false=>rfl
  |true=>
   rw[A7,A7];cases at? t m with
   |none=>rfl
   |some y=>
    rw[A0,A0];cases hi:in? o.length y with
    |none=>rfl
    |some u=>
     have h0:0<=y:=by
      have:=(EV (Q:=λ_=>True)).1 ⟨u,hi,trivial⟩;exact this.1.1
     rw[A0,A0,show DQ y (-1)=false from by grind[DU,decide_eq_false],D8,DK];rfl
 induction k generalizing o q i t n m with
 |zero=>rfl
 |succ k b=>exact e _ _ o q i t n m b
theorem AOT(k:Nat)(b:List (List Int))(o q:List Int):DX mW k (b,o,q)=DX aJ k (b,-1,o,q):=by
 have e:∀(next:List (List Int)×List Int×List Int->Option (List Int)) (a:List (List Int)×Int×List Int×List Int->Option (List Int)) (b:List (List Int)) (o q:List Int),(∀b o q,next (b,o,q)=a (b,-1,o,q))->mW next (b,o,q)=aJ a (b,-1,o,q):=λnext a b o q h=>by
  simp_all[mW,aJ,yU,lZ,AOS]
 induction k generalizing b o q with
 |zero=>rfl
 |succ k d=>exact e _ _ b o q d
def Ed(w:IC)(s:L7)(i:Nat)(j:Int):Prop:=s.2.1[i]?=some true/\∃(f:N7) (c:LX),w.1.2.2.1[i]?=some f/\c∈f.2.2.1/\OX w c=true/\Goes w s.2.2.1 c j
def Rws(n:Nat)(b:List (List Int))(P:Nat->Int->Prop)(B:Nat):Prop:=b.length=n/\∀(k:Nat) (r:List Int),b[k]?=some r->r.length<=B/\∀x,x∈r<->P k x
def Rws.mono{n:Nat}{b:List (List Int)}{P Q:Nat->Int->Prop}{B C:Nat}(h:Rws n b P B)(h1:∀k x,k<n->(P k x<->Q k x))(d:B<=C):Rws n b Q C:=
 ⟨h.1,λk r a=>⟨AM (h.2 k r a).1 d,λx=>((h.2 k r a).2 x).trans (h1 k x (by rw[<-h.1];grind))⟩⟩
def A0H{n:Nat}{b:List (List Int)}{P:Nat->Int->Prop}{B:Nat}(h:Rws n b P B)(k:Nat)(hk:k<n)(x:Int):Rws n (b.set k (b.getD k []++[x])) (λj y=>P j y\/(j=k/\y=x)) (B+1):=by
 refine⟨by rw[B2];exact h.1,λj r d=>?_⟩;have a:k<b.length:=by rw[h.1];exact hk
 rw[List.getElem?_set]at d;by_cases e:k=j
 .subst e;rw[if_pos rfl,if_pos a]at d;cases d;have m:b.getD k []=b[k]:=by rw[AF,A1 a];rfl
  have⟨h1,l⟩:=h.2 k _ (A1 a);grind
 .rw[if_neg e]at d;have⟨h1,l⟩:=h.2 j r d;grind
def AOU{n:Nat}(i:Int)(l:List Int)(H:l.length<=100000)(D:∀j∈l,0<=j/\j<n){b:List (List Int)}{P:Nat->Int->Prop}{B:Nat}(G:B+100000<=1099511627776)(h:Rws n b P B):
 Tot (yR (b,i,l,(l.length:Int),0)) (λa=>Rws n a (λk x=>P k x\/(x=i/\(k:Int)∈l)) (B+100000)):=by
 refine F3 (r:=mS) (σ:=List (List Int)) l.length (λs k=>(s,i,l,(l.length:Int),k)) (λm a=>Rws n a (λk x=>P k x\/(x=i/\(k:Int)∈l.take m)) (B+m)) oa (λnext a m w e y=>?_) (λnext a e=>?_) b (h.mono (λk x _=>oh) oa)
 .unfold mS;dsimp only;have d:=A1 w;have⟨z,E⟩:=D _ (AK w);rw[E2,A6 w,A7,ET d,A0,EY oa];generalize l[m]=j at d z E ⊢;have p:j.toNat<a.length:=by rw[e.1];omega
  have A:a.getD j.toNat []=a[j.toNat]:=by rw[AF,A1 p];rfl
  have C:=(e.2 _ _ (A1 p)).1;refine DN.2 (EV.2 ⟨⟨z,oa⟩,DN.2 (F9.2 ⟨oc,DN.2 (EV.2 ⟨⟨z,oa⟩,?_⟩)⟩)⟩);rw[show Nat.beq j.toNat j.toNat=true from CJ _,A7,A0];refine y _ ((A0H e j.toNat oa i).mono (λk x hk=>?_) (AD _));rw[GW d,AZ,AP];grind
 .unfold mS;dsimp only;rw[E2,A9 (AA _),A8];rw[AW]at e;exact DO.2 (e.mono (λ_ _ _=>Iff.rfl) oa)
section
variable{g:JN}{how:Int}{w:IC}(hw:WoOk g how w)(hg:GB g)(ho:GrOk g){s:L7}(hs:SpOk w s)
include hw hg ho hs
omit hw hg ho in
theorem A7m:aS (some w,some s)=some (if w.2.2.2.2.2=true then some s.2.2.1 else none):=by
 unfold aS;grind
theorem AOV{t:Nat}(X:t<g.2.2.1.length):Tot (mX (some w,some s,(t:Int))) (λd=>∃nx,Dist nx t d/\nx.length=g.2.2.1.length/\∀(k:Nat) r x,nx[k]?=some r->(x∈r<->∃i:Nat,x=(i:Int)/\Ed w s i (k:Int))):=by
 have D:=hw.gr;have hn:=ho.f;have N:=hs.fl;have J:=hs.ml;rw[D]at N J;unfold mX;dsimp only;rw[A0,D]
 have mk:∀{α:Type} (z:α),mks? 24 (g.2.2.1.length:Int) (g.2.2.1.length:Int) z=some (List.replicate g.2.2.1.length z):=λz=>by
  grind[mks?,decide_eq_true]
 rw[mk,A0,A0,D]
 have h0:Rws g.2.2.1.length (List.replicate g.2.2.1.length ([]:List Int)) (λ_ _=>False) 0:=⟨B8,λk r L=>by
  grind⟩
 have key:Tot (yS (some w,some s,List.replicate g.2.2.1.length ([]:List Int),g.2.2.1,(g.2.2.1.length:Int),0)) (λb=>Rws g.2.2.1.length b (λk x=>∃i:Nat,x=(i:Int)/\Ed w s i (k:Int)) 60000000000):=by
  refine F3 (r:=mU) (σ:=List (List Int)) g.2.2.1.length (λb i=>(some w,some s,b,g.2.2.1,(g.2.2.1.length:Int),i)) (λm b=>Rws g.2.2.1.length b (λk x=>∃i:Nat,i<m/\x=(i:Int)/\Ed w s i (k:Int)) (20000000*m)) oa (λnext b m Q A a=>?_) (λnext b A=>?_) _ (h0.mono (λk x _=>⟨λh=>h.elim,λ⟨i,h,_⟩=>absurd h (Nat.not_lt_zero _)⟩) oa)
  .unfold mU;dsimp only;have M:=A1 Q;have W:=ho.calls _ (AK Q);obtain⟨U,C⟩:∃b,s.2.1[m]?=some b:=⟨_,A1 oa⟩;rw[E2,A6 Q,A7,ET M,A0,A0,ET C,A0,EY oa];cases U with
   |false=>
    refine a _ (A.mono (λk x _=>⟨λ⟨i,h,V⟩=>⟨i,oa,V⟩,λ⟨i,h1,y,B⟩=>⟨i,?_,y,B⟩⟩) oa);have:i≠m:=λe=>by subst e;rw[B.1]at C;cases C
    omega
   |true=>
    refine DN.2 (Tot.mono (P:=λG=>Rws g.2.2.1.length G (λk x=>(∃i:Nat,i<m/\x=(i:Int)/\Ed w s i (k:Int))\/(x=(m:Int)/\∃c∈g.2.2.1[m].2.2.1,OX w c=true/\Goes w s.2.2.1 c (k:Int))) (20000000*m+20000000)) ?_ λG H=>a G (H.mono (λk x _=>?_) oa))
    .refine F3 (r:=mT) (σ:=List (List Int)) g.2.2.1[m].2.2.1.length (λb i=>(some w,some s,b,(m:Int),g.2.2.1[m].2.2.1,(g.2.2.1[m].2.2.1.length:Int),i)) (λu G=>Rws g.2.2.1.length G (λk x=>(∃i:Nat,i<m/\x=(i:Int)/\Ed w s i (k:Int))\/(x=(m:Int)/\∃c∈g.2.2.1[m].2.2.1.take u,OX w c=true/\Goes w s.2.2.1 c (k:Int))) (20000000*m+100000*u))
      oa (λnext b u T A a=>?_) (λnext b A=>?_) _ (A.mono (λk x _=>oh) oa)
     .unfold mT;dsimp only;have p:=A1 T;rw[E2,A6 T,A7,ET p,A0,A0,EY oa,A7m hs,A0];generalize g.2.2.1[m].2.2.1[u]=c at p ⊢;refine DP.2 ⟨λK=>?_,λK=>a _ (A.mono (λk x _=>?_) oa)⟩
      .refine DN.2 ((A7l hw hg ho J c oa).mono λl ⟨Y,Z,l3⟩=>?_);refine DN.2 ((AOU (m:Int) l Y l3 oa A).mono λG H=>a G (H.mono (λk x _=>?_) oa));rw[Z,GW p];constructor
       .rintro((h|⟨h1,c',y,B⟩)|⟨h1,y⟩)
        .exact .inl h
        .grind
        .exact .inr ⟨h1,c,BP _ (AP.2 rfl),K,y⟩
       grind
      .rw[GW p];simp_all[BU,AZ,AP,OX]
     .unfold mT;dsimp only;rw[E2,A9 (AA _),A8];rw[AW]at A;exact DO.2 (A.mono (λ_ _ _=>Iff.rfl) oa)
    .constructor
     .rintro(⟨i,h1,y⟩|⟨h1,c,y,B,R⟩)
      .grind
      .exact⟨m,oa,h1,C,_,c,oc,y,B,R⟩
     .rintro⟨i,h1,y,B⟩;by_cases e:i=m
      .subst e;obtain⟨_,f,c,R,h5,h6,h7⟩:=B;grind
      grind
  .unfold mU;dsimp only;rw[E2,A9 (AA _),A8];refine DO.2 (A.mono (λk x _=>⟨λ⟨i,_,h⟩=>⟨i,h⟩,λ⟨i,h1,y⟩=>⟨i,?_,h1,y⟩⟩) oa);have:=(A4.1 y.1).1;omega
 refine DN.2 (key.mono λb E=>?_);rw[A0,D,mk,A0]
 have I:yT (List.replicate g.2.2.1.length (0:Int),((List.replicate g.2.2.1.length (0:Int)).length:Int),0)=some (List.replicate g.2.2.1.length (-1)):=by
  have:=A7k (List.replicate g.2.2.1.length 0) oc;rw[B8]at this ⊢;exact this
 rw[I,A0];refine DN.2 (EV.2 ⟨⟨oa,oc⟩,?_⟩)
 have a:bN b:=⟨by rw [E.1]; omega,λr L=>by
  obtain⟨k,hk,rfl⟩:=List.mem_iff_getElem.1 L;have⟨h1,y⟩:=E.2 k _ (A1 hk);refine⟨oa,λj O=>?_⟩;obtain⟨i,rfl,B⟩:=(y j).1 O;have:=(A4.1 B.1).1;rw[E.1];omega⟩
 unfold yV;rw[AOT];refine DN.2 ((A7j a (t:=t) (by rw[B2,B8,E.1]) (λj O=>?_) (by rw[E.1];exact X)).mono λr L=>DO.2 ⟨b,L,E.1,λk r x hk=>(E.2 k r hk).2 x⟩);rw[E.1]at O;grind
end
abbrev bP:=(DM×Int)×DM
abbrev OY:=DM×List bP×List (DM×DM)
def L8{α:Type}{l:List α}{i:Int}(h0:0<=i)(h1:i<l.length):∃x,at? l i=some x/\l[i.toNat]?=some x:=by
 have⟨x,a,b⟩:=EJ (Q:=λx=>l[i.toNat]?=some x).2 ⟨⟨h0,h1⟩,λx h=>h⟩;grind
section
variable{g:JN}{how:Int}{w:IC}(hw:WoOk g how w)(hg:GB g)(ho:GrOk g){s:L7}(hs:SpOk w s)
include hw hg ho hs
theorem AOW{d:List Int}(hd:d.length=g.2.2.1.length){f:Nat}{x:Int}(Y:d[f]?=some x)(hb:-4611686018427387904<=x/\x<=4611686018427387904){i:Nat}(hi:d[i]?=some (x-1))(X:Ed w s f (i:Int)):
 Tot (mZ (some w,some s,d,(f:Int))) (λq=>∃j:Nat,q.2.2=(j:Int)/\d[j]?=some (x-1)):=by
 have e:=hw.gr;have B:=hs.ml;rw[e]at B;obtain⟨_,fn,c0,A,e2,e3,e4⟩:=X;rw[e]at A;have Z:=(A4.1 A).1;have W:=ho.calls fn (AL A);have hn:=ho.f;unfold mZ;dsimp only;rw[A0,e,ET A,A0];refine DN.2 (Tot.mono (P:=λr=>match r with| .inl _=>False| .inr q=>∃j:Nat,q.2.2=(j:Int)/\d[j]?=some (x-1)) ?_ λr O=>?_)
 .refine F3 (r:=yW) (σ:=bP×LX) fn.2.2.1.length (λz u=>(some w,some s,d,(f:Int),z.1,z.2,fn.2.2.1,(fn.2.2.1.length:Int),u)) (λu _=>∀c∈fn.2.2.1.take u,OX w c=true->∀j,Goes w s.2.2.1 c j->d[j.toNat]?≠some (x-1))
   oa (λnext z u Q V C=>?_) (λnext z V=>?_) ((([],0),[]),(0,[],[],[])) (λc h=>oq)
  .unfold yW;dsimp only;have p:=A1 Q;rw[E2,A6 Q,A7,ET p,A0,A0,EY oa];generalize fn.2.2.1[u]=c at p ⊢;refine DP.2 ⟨λK=>C _ λU a E=>?_,λK=>?_⟩
   .rw[GW p]at a;rcases AZ.1 a with a|a
    .grind
    grind[List.mem_singleton,OX]
   .rw[A7m hs,A0];refine DN.2 ((A7l hw hg ho B c oa).mono λl ⟨l1,l2,l3⟩=>?_);refine DN.2 (Tot.mono (P:=λr=>match r with| .inl z=>∀j∈l,d[j.toNat]?≠some (x-1)| .inr q=>∃j:Nat,q.2.2=(j:Int)/\d[j]?=some (x-1)) ?_ λN O=>?_)
    .refine F3 (r:=mY) (σ:=Unit) l.length (λ_ m=>(some w,d,(f:Int),z.1,z.2,(u:Int),c,l,(l.length:Int),m)) (λm _=>∀j∈l.take m,d[j.toNat]?≠some (x-1)) oa (λnext _ m J H D=>?_) (λnext _ H=>?_) () (λj h=>oq)
     .unfold mY;dsimp only;have b:=A1 J;have⟨M,R⟩:=l3 _ (AK J);rw[E2,A6 J,A7,ET b,A0,EY oa];generalize l[m]=j at b M R ⊢;have⟨y,hy,h2⟩:=L8 (l:=d) M oa;rw[hy,A0,ET Y,A0,EI oa oa,DU];refine DP.2 ⟨λG=>?_,λG=>D () λj' I=>?_⟩
      .have G:=AC G;subst G;have⟨y2,L,_⟩:=L8 (l:=g.2.2.1) M R;rw[A0,e,ET A,A0,A0,e,L,A0];grind[DO]
      .rw[GW b]at I;grind
     simp_all[mY,E2,A9,AA,A8,AW,DO]
    .cases N with
     |inl T=>
      refine C (T.1,T.2) λU a E j hj=>?_;rw[GW p]at a;grind
     |inr q=>exact DO.2 O
  grind
 grind[DO]
theorem AOX(c:LX)(j:Int):Tot (nA (some w,some s,c,j)) (λ_=>True):=by
 have h:=hw.gr;have b:=hs.ml;rw[h]at b
 have a:g.1.length*g.2.1.length<=100000:=by
  have:=Nat.mul_le_mul ho.i ho.t;omega
 have⟨fl,e⟩:=hw.fit c.2.1;unfold IT at fl e;unfold nA;dsimp only;rw[A0];refine DN.2 ((F3 (r:=m_) (σ:=Unit) ((DZ DR c.2.1 w.2.2.2.1).getD []).length (λ_ i=>(some w,some s,j,c,((DZ DR c.2.1 w.2.2.2.1).getD []),(((DZ DR c.2.1 w.2.2.2.1).getD []).length:Int),i)) (λ_ _=>True) (Q:=λ_=>True) oa (λnext _ i hi _ d=>?_) (λnext _ _=>?_) () trivial).mono λq _=>?_)
 .unfold m_;dsimp only;have⟨t0,t1⟩:=e _ (AK hi);rw[E2,A6 hi,A7,ET (A1 hi),A0,A0,EY oa];generalize ((DZ DR c.2.1 w.2.2.2.1).getD [])[i]=t at t0 t1 ⊢;have⟨y,l,_⟩:=L8 (l:=s.2.2.1) t0 oa;rw[l,A0,pB hw hg c t0 t1];refine DN.2 (Tot.mono (P:=λ_=>True) (DP.2 ⟨λ_=>DO.2 trivial,λ_=>DO.2 trivial⟩) λr _=>DP.2 ⟨λ_=>?_,λ_=>d () trivial⟩);have⟨p,m,_⟩:=L8 (l:=g.2.1) t0 t1;simp_all[A0,DO,trivial]
 .simp_all[m_,E2,A9,AA,A8,DO,trivial]
 .cases q<;>exact DO.2 trivial
theorem AOY(t:DM):Tot (nC (some w,some s,t)) (λ_=>True):=by
 have h:=hw.gr;have a:=hs.fl;rw[h]at a;have e:=ho.f;unfold nC;dsimp only;rw[A0,h];refine DN.2 ((F3 (r:=nB) (σ:=Unit) g.2.2.1.length (λ_ i=>(some s,t,g.2.2.1,(g.2.2.1.length:Int),i)) (λ_ _=>True) (Q:=λ_=>True) oa (λnext _ i hi _ b=>?_) (λnext _ _=>?_) () trivial).mono λq _=>?_)
 .unfold nB;dsimp only;have⟨y,d,_⟩:=L8 (l:=s.2.1) (i:=(i:Int)) oa oa;rw[E2,A6 hi,A7,ET (A1 hi),A0,A0,d,A0,EY oa];refine DN.2 (Tot.mono (P:=λ_=>True) (DP.2 ⟨λ_=>(oT _ (hg.f1 _ (AK hi)).2.2.2.1).mono λ_ _=>trivial,λ_=>DO.2 trivial⟩) λr _=>DP.2 ⟨λ_=>DO.2 trivial,λ_=>b () trivial⟩)
 .simp_all[nB,E2,A9,AA,A8,DO,trivial]
 .cases q<;>exact DO.2 trivial
theorem AOZ{nx:List (List Int)}{t:Nat}{d:List Int}(l:Dist nx t d)(D:nx.length=g.2.2.1.length)(E:∀(k:Nat) r x,nx[k]?=some r->(x∈r<->∃i:Nat,x=(i:Int)/\Ed w s i (k:Int))){j:Int}(b:Rch w s.2.1 s.2.2.1 j):
 (0<=j/\∃x,d[j.toNat]?=some x/\0<=x)->∃e∈g.2.2.2,∃x,d[(GI w.2.1 e).toNat]?=some x/\0<=x:=by
 have B:=hw.gr;induction b with
 |entry e h=>
  grind
 |step i f c j h1 m p z A I J=>
  rintro⟨K,x,k1,G⟩;have a:=(A4.1 k1).1;rw[l.len]at a;have b:=A1 a;have H:((j.toNat:Nat):Int)=j:=oa
  have C:=((E _ _ (i:Int) b).2 ⟨i,rfl,m,f,c,p,z,A,oc⟩);have⟨y,L,M,_⟩:=l.clo j.toNat x _ k1 G b _ C;simp_all
end
theorem A7n{b:Type}(s:DM)(v:b):∀m:List (DM×b),(ED DR s v m).map (·.1)=if s∈m.map (·.1)then m.map (·.1)else m.map (·.1)++[s]:=by
 intro m;induction m with
 |nil=>rfl
 |cons a m d=>
  simp only[ED];rw[E1];grind
def AO_{a:Type}{s:DM}{v:a}{m:List (DM×a)}(h:(m.map (·.1)).Nodup):((ED DR s v m).map (·.1)).Nodup:=by
 rw[A7n];grind
def AOa{a:Type}(s:DM)(v:a)(m:List (DM×a)):(ED DR s v m).length<=m.length+1:=by
 have h:=congrArg List.length (A7n s v m);grind
def A7o{a b:List (DM×DM)}(m:a.Perm b)(A:(b.map (·.1)).Nodup):∃r,r.length=b.length/\fH (a,(λx=>(S0 x).bind λr=>some r))=some r/\fH (b,(λx=>(S0 x).bind λr=>some r))=some r:=by
 have l:∀x y:DM×DM,(λx=>(S0 x).bind λr=>some r) (x,y)=some (J9 x.1 y.1):=λx y=>by
  grind[S0,bE]
 have⟨w,h1,p1,D⟩:=A6y a (λx=>(S0 x).bind λr=>some r) (λx=>x.1) l;have⟨G,z,p,E⟩:=A6y b (λx=>(S0 x).bind λr=>some r) (λx=>x.1) l
 have s:∀r:List (DM×DM),r.Perm b->r.Pairwise (λa b=>¬b.1<a.1)->r.Pairwise (λa b=>a.1<b.1):=λr C B=>by
  have h:(r.map (·.1)).Nodup:=((C.map (·.1)).nodup_iff).2 A;have h:=List.pairwise_map.1 h
  exact(List.Pairwise.and B h).imp λ{a b} ⟨d,j⟩=>by
   grind
 have e:w=G:=List.Perm.eq_of_pairwise (le:=λx y:DM×DM=>x.1<y.1) (λa b _ _ d j=>absurd j (oM d)) (s _ (p1.trans m) D) (s _ p E) ((p1.trans m).trans p.symm);subst e;exact⟨w,p.length_eq,h1,z⟩
def AOb:∀(o:List (DM×DM)) (a:DM) (h:List bP) (m:List (DM×DM)),m.length+o.length<=1048576->FF V_ o (a,(h,m))=some (.inl (a,(h,m++o))):=by
 intro o;induction o with
 |nil=>grind[FF]
 |cons k o j=>
  intro a h m b;rw[BN]at b;have e:app? 48 m [k]=some (m++[k]):=L5 (F9.2 ⟨oc,rfl⟩)
  have d:V_ k (a,(h,m))=some (.inl (a,(h,m++[k]))):=by
   unfold V_;dsimp only;rw[e,A0]
  unfold FF;grind
abbrev U1:=JM×Int×List (List Int)×List (List Int)
def OZ(b:JM)(sc:Int)(ix:List (DM×Int))(l:List S8)(k x:Int):Prop:=∃e∈l,e.2.2<=sc/\GI ix e.1=k/\GI ix e.2.1=x
structure GpOk(b:JM)(sc:Int)(g:U1):Prop where
 bl:g.1=b
 root:0<=g.2.1/\g.2.1<b.2.2.2.1.length
 ix:∃ix,OW ix (b.2.2.2.1.map (·.1))/\g.2.1=GI ix b.2.2.1/\Rws b.2.2.2.1.length g.2.2.1 (λk x=>OZ b sc ix b.2.2.2.2 (k:Int) x) 20000/\Rws b.2.2.2.1.length g.2.2.2 (λk x=>OZ b sc ix b.2.2.2.2 x (k:Int)) 20000
theorem AOc{n:Nat}{l:List (List Int)}{P:Nat->Int->Prop}{B:Nat}(h:Rws n l P B)(k:Nat)(hk:k<n){r:List Int}(h1:∀x,x∈r<->x∈l.getD k [])(p:r.length<=(l.getD k []).length):Rws n (l.set k r) P B:=by
 refine⟨by rw[B2];exact h.1,λd m b=>?_⟩;have a:k<l.length:=by rw[h.1];exact hk
 rw[List.getElem?_set]at b;by_cases e:k=d
 .subst e;rw[if_pos rfl,if_pos a]at b;cases b;have j:l.getD k []=l[k]:=by rw[AF,A1 a];rfl
  have⟨s,w⟩:=h.2 k _ (A1 a);grind
 .rw[if_neg e]at b;exact h.2 d m b
def AOd(b:JM)(J:BlOk b)(p:Int):Tot (lX (b,p)) (GpOk b p):=by
 have hn:=J.few;have O:=J.edges
 have h5:0<b.2.2.2.1.length:=by
  have:=List.length_pos_of_mem J.root;rwa[AX]at this
 unfold lX;dsimp only
 refine DN.2 ((SB (σ:=List (DM×Int)) (α:=FU) b.2.2.2.1 (λs i=>(s,b.2.2.2.1,(b.2.2.2.1.length:Int),i)) (λm i y=>ED DR y.1 (i:Int) m) (λm=>m)
  (λi m=>OW m ((b.2.2.2.1.take i).map (·.1))) oa (λnext s i y h=>?_) (λnext s=>?_) [] A0C (λm i y h hj=>?_)).mono λix j=>?_)
 .have a:=(A4.1 h).1;unfold x_;dsimp only;rw[E2,A6 a,A7,ET h,A0,EY oa]
 .simp_all[x_,E2,A9,AA,A8]
 .exact zd
 obtain⟨h6,rfl,j⟩:=j;rw[AW]at j
 have mk:mks? 24 (b.2.2.2.1.length:Int) (b.2.2.2.1.length:Int) ([]:List Int)=some (List.replicate b.2.2.2.1.length []):=by
  unfold mks?;rw[A6 (show(0:Int)≤(b.2.2.2.1.length:Int) by omega),A6 (show(b.2.2.2.1.length:Int)≤(b.2.2.2.1.length:Int) by omega),A6 (show(b.2.2.2.1.length:Int).toNat*24≤70368744177664 by omega)];rfl
 rw[mk,A0,A0]
 have h0:∀ P:Nat->Int->Prop,(∀ k x,¬ P k x)->Rws b.2.2.2.1.length (List.replicate b.2.2.2.1.length ([]:List Int)) P 0:=λP hP=>⟨B8,λk r hr=>by
  grind⟩
 have A:∀s,0<=GI ix s/\GI ix s<b.2.2.2.1.length:=λs=>by
  have:=SC j s;grind
 refine DN.2 (Tot.mono (P:=λg:U1=>g.1=b/\g.2.1=GI ix b.2.2.1/\Rws b.2.2.2.1.length g.2.2.1 (λk x=>OZ b p ix b.2.2.2.2 (k:Int) x) 20000/\Rws b.2.2.2.1.length g.2.2.2 (λk x=>OZ b p ix b.2.2.2.2 x (k:Int)) 20000) ?_ λg K=>?_)
 .refine F3 (r:=lV) (σ:=U1) b.2.2.2.2.length (λg i=>(p,ix,g,b.2.2.2.2,(b.2.2.2.2.length:Int),i)) (λi g=>g.1=b/\g.2.1=GI ix b.2.2.1/\Rws b.2.2.2.1.length g.2.2.1 (λk x=>OZ b p ix (b.2.2.2.2.take i) (k:Int) x) i/\Rws b.2.2.2.1.length g.2.2.2 (λk x=>OZ b p ix (b.2.2.2.2.take i) x (k:Int)) i)
   oa (λnext g i hi d E=>?_) (λnext g d=>?_) _ ⟨rfl,rfl,h0 _ λk x ⟨e,h,_⟩=>(oq),h0 _ λk x ⟨e,h,_⟩=>(oq)⟩
  .obtain⟨G,H,B,C⟩:=d;unfold lV;dsimp only;have w:=A1 hi;rw[E2,A6 hi,A7,ET w,A0,EY oa];generalize b.2.2.2.2[i]=e at w ⊢;refine DP.2 ⟨λl=>?_,λl=>?_⟩
   .have l:=AC l;refine E _ ⟨G,H,B.mono (λk x _=>?_) oa,C.mono (λk x _=>?_) oa⟩
    all_goals
     unfold OZ;rw[GW w];constructor
     .rintro⟨D,h1,z⟩;exact⟨D,BU _ h1,z⟩
     .rintro⟨D,h1,z,I⟩;rcases AZ.1 h1 with h1|h1
      .exact⟨D,h1,z,I⟩
      .rw[AP]at h1;subst h1;omega
   .have l:=AG l;have⟨N,a1⟩:=A e.1;have⟨c0,c1⟩:=A e.2.1;have Q:(DZ DR e.1 ix).getD 0=GI ix e.1:=rfl;have R:(DZ DR e.2.1 ix).getD 0=GI ix e.2.1:=rfl;rw[Q,R];have L:=B.1;have M:=C.1
    have Y:(g.2.2.1.getD (GI ix e.1).toNat []).length≤i:=by
     have a:(GI ix e.1).toNat<g.2.2.1.length:=oa
     rw[AF,A1 a];exact(B.2 _ _ (A1 a)).1
    have Z:(g.2.2.2.getD (GI ix e.2.1).toNat []).length<=i:=by
     have a:(GI ix e.2.1).toNat<g.2.2.2.length:=oa
     rw[AF,A1 a];exact(C.2 _ _ (A1 a)).1
    refine DN.2 (EV.2 ⟨⟨N,oa⟩,DN.2 (F9.2 ⟨oc,DN.2 (EV.2 ⟨⟨c0,oa⟩,DN.2 (F9.2 ⟨oc,DN.2 (EV.2 ⟨⟨N,oa⟩,?_⟩)⟩)⟩)⟩)⟩);rw[show Nat.beq (GI ix e.1).toNat (GI ix e.1).toNat=true from CJ _,A7,A0];refine DN.2 (EV.2 ⟨⟨c0,oa⟩,?_⟩);rw[show Nat.beq (GI ix e.2.1).toNat (GI ix e.2.1).toNat=true from CJ _,A7,A0];refine E _ ⟨G,H,(A0H B _ oa _).mono (λk x _=>?_) oa,(A0H C _ oa _).mono (λk x _=>?_) oa⟩
    all_goals
     unfold OZ;rw[GW w];constructor
     .rintro(⟨D,h1,z⟩|⟨h1,z⟩)
      .exact⟨D,BU _ h1,z⟩
      .exact⟨e,BP _ (AP.2 rfl),oa,oa,oa⟩
     .rintro⟨D,h1,z,I,X⟩;rcases AZ.1 h1 with h1|h1
      .exact .inl ⟨D,h1,z,I,X⟩
      .rw[AP]at h1;subst h1;exact .inr ⟨oa,oa⟩
  .unfold lV;dsimp only;rw[E2,A9 (AA _),A8];rw[AW]at d;exact DO.2 ⟨d.1,d.2.1,d.2.2.1.mono (λ_ _ _=>Iff.rfl) O,d.2.2.2.mono (λ_ _ _=>Iff.rfl) O⟩
 .obtain⟨T,U,V,W⟩:=K;refine DN.2 (Tot.mono (P:=GpOk b p) ?_ λg K=>DO.2 K)
  refine F3 (r:=lW) (σ:=U1) b.2.2.2.1.length (λg i=>(g,(b.2.2.2.1.length:Int),i)) (λ_ g=>g.1=b/\g.2.1=GI ix b.2.2.1/\Rws b.2.2.2.1.length g.2.2.1 (λk x=>OZ b p ix b.2.2.2.2 (k:Int) x) 20000/\Rws b.2.2.2.1.length g.2.2.2 (λk x=>OZ b p ix b.2.2.2.2 x (k:Int)) 20000)
   oa (λnext g i hi d E=>?_) (λnext g d=>?_) _ ⟨T,U,V,W⟩
  .obtain⟨G,H,B,C⟩:=d;unfold lW slices_Compact_int;dsimp only;have L:=B.1;have M:=C.1;rw[E2,A6 hi,A7,EY oa];refine DN.2 (EV.2 ⟨⟨oa,oa⟩,?_⟩);rw[A0];refine DN.2 (EV.2 ⟨⟨oa,oa⟩,?_⟩);rw[A0];refine DN.2 (EV.2 ⟨⟨oa,oa⟩,?_⟩);rw[show Nat.beq (i:Int).toNat (i:Int).toNat=true from CJ _,A7,A0];refine DN.2 (EV.2 ⟨⟨oa,oa⟩,?_⟩);rw[A0];grind[AOc,A0F,A0G]
  .unfold lW;dsimp only;rw[E2,A9 (AA _),A8];obtain⟨G,H,B,C⟩:=d;exact DO.2 ⟨G,oc,ix,j,H,B,C⟩
def AOe(l:List Int)(f:Int->Option Bool)(P:Int->Prop)(x:l.length<=1099511627776)(m:∀j∈l,∃c,f j=some c/\(c=true<->P j))(w:∃j∈l,P j):Tot (m6 (l,f)) (λr=>∃n:Nat,r=(n:Int)/\∃j,l[n]?=some j/\P j):=by
 unfold m6;dsimp only;refine DN.2 (Tot.mono (P:=λq:Sum Unit Int=>match q with| .inl _=>False| .inr r=>∃n:Nat,r=(n:Int)/\∃j,l[n]?=some j/\P j) ?_ λq y=>?_)
 .refine F3 (r:=yI) (σ:=Unit) l.length (λ_ i=>(l,f,(l.length:Int),i)) (λi _=>∀j∈l.take i,¬P j) oa (λnext _ i hi e s=>?_) (λnext _ e=>?_) () (λj h=>oq)
  .unfold yI;dsimp only;have a:=A1 hi;have⟨c,b,d⟩:=m _ (AK hi);rw[E2,A6 hi,A7,ET a,A0,EY oa,b,A0];refine DP.2 ⟨λh=>DO.2 ⟨i,rfl,_,a,d.1 h⟩,λh=>s () λj p=>?_⟩;rw[GW a]at p;grind
  grind
 grind[DO]
def AOf{b:JM}{sc:Int}{g:U1}(hg:GpOk b sc g)(hn:b.2.2.2.1.length<=3000){t:Nat}(ht:t<b.2.2.2.1.length):Tot (m7 (g,(t:Int))) (λl=>l.length<=3001/\∀j∈l,0<=j/\j<b.2.2.2.1.length):=by
 obtain⟨h5,E,ix,M,h8,Z,hi⟩:=hg
 have m:∀s,0<=GI ix s/\GI ix s<b.2.2.2.1.length:=λs=>by
  have:=SC M s;grind
 have Q:bN g.2.2.2:=⟨by rw [hi.1]; omega,λr hr=>by
  obtain⟨k,hk,rfl⟩:=List.mem_iff_getElem.1 hr;have⟨h1,h2⟩:=hi.2 k _ (A1 hk);refine⟨oa,λj C=>?_⟩;have⟨e,_,_,h3,_⟩:=(h2 j).1 C;rw[<-h3,hi.1];exact m _⟩
 unfold m7;dsimp only;refine DN.2 ((AOR Q (t:=t) (by rw[hi.1];exact ht)).mono λd G=>?_);have h4:d.length=b.2.2.2.1.length:=G.len.trans hi.1;have er:((g.2.1.toNat:Nat):Int)=g.2.1:=oa
 have⟨x0,T,p⟩:=L8 (l:=d) E.1 oa;rw[T,A0];refine DP.2 ⟨λ_=>DO.2 ⟨oh,λj h=>oq⟩,λw=>?_⟩;have w:=AG w;have H:=(G.low _ _ p).2;rw[hi.1]at H;refine DN.2 (Tot.mono (P:=λl:List Int=>l.length<=3001/\∀j∈l,0<=j/\j<b.2.2.2.1.length) ?_ λl hl=>DO.2 hl)
 refine ES (R:=λl:List Int=>l.length<=3001/\∀j∈l,0<=j/\j<b.2.2.2.1.length) (λz:Int×U1×List Int×List Int×Int=>z.1=(t:Int)/\z.2.1=g/\z.2.2.1=d/\(∀j∈z.2.2.2.1,0<=j/\j<b.2.2.2.1.length)/\∃i:Nat,z.2.2.2.2=(i:Int)/\∃x:Int,d[i]?=some x/\0<=x/\(z.2.2.2.1.length:Int)+x<=3001) (λz=>(d.getD z.2.2.2.2.toNat 0).toNat)
  (λnext z hI D=>?_) fuel ((t:Int),g,d,([g.2.1]:List Int),g.2.1) ⟨rfl,rfl,rfl,λj C=>?_,g.2.1.toNat,oc,x0,p,oa,oc⟩ ?_
 .obtain⟨t',g',d',o,i'⟩:=z;obtain⟨i1,J,K,i4,i,i5,x,I,i7,i8⟩:=hI;dsimp only at i1 J K i4 i5 i8 D;have J:=J.symm;have K:=K.symm;subst i1 J K i5;have U:d.getD (i:Int).toNat 0=x:=by rw[AF,BR,I];rfl
  rw[U]at D;have h6:=(A4.1 I).1;unfold A5P;dsimp only;rw[DU];refine DP.2 ⟨λL=>?_,λL=>DO.2 ⟨oa,i4⟩⟩;have L:¬(i:Int)=(t:Int):=by simpa using L
  rcases G.pre i x I i7 with⟨_,e⟩|⟨k,y,r,p1,p2,p3,p4,p5⟩
  .omega
  .have h7:=(A4.1 p1).1;have hE:=((hi.2 k r p4).2 (i:Int)).1 p5;have R:i<g.2.2.1.length:=by rw[Z.1];omega
   obtain⟨row,A⟩:∃row,g.2.2.1[i]?=some row:=⟨_,A1 R⟩;have⟨o1,X⟩:=Z.2 i row A;have V:=(G.low i x I).2;rw[hi.1]at V;rw[ET A,A0];refine DN.2 ((AOe row _ (λj=>d[j.toNat]?=some (x-1)) oa (λj C=>?_) ⟨(k:Int),(X (k:Int)).2 hE,oc⟩).mono λn ⟨n',O,j,C,B⟩=>?_)
   .obtain⟨e,_,_,_,Y⟩:=(X j).1 C;have:=m e.2.1;rw[Y]at this;have⟨y2,W,x2⟩:=L8 (l:=d) this.1 oa;unfold yH;dsimp only;rw[A0,W,A0,A0,A0,ET I,A0,EI oa oa,A0,DU];grind
   .rw[O,A0,ET C,A0];have⟨e,_,_,_,Y⟩:=(X j).1 (AL C);have N:=m e.2.1;rw[Y]at N;have x1:d.getD j.toNat 0=x-1:=by rw[AF,B];rfl
    have h9:=(G.low _ _ B).1;refine DN.2 (F9.2 ⟨oc,D _ ⟨rfl,rfl,rfl,λa ha=>?_,j.toNat,oc,x-1,B,oa,oc⟩ oc⟩);grind
 .grind
 .dsimp only;rw[AF,p];grind[fuel]
def AOg{b:JM}{g:U1}(h:g.1=b)(l:List Int)(w:l.length<=1048576)(d:∀j∈l,0<=j/\j<b.2.2.2.1.length):Tot (m9 (g,l)) (λr=>r.length=l.length):=by
 unfold m9;dsimp only;refine DN.2 (Tot.mono (P:=λr=>r.length=l.length) ?_ λr e=>DO.2 e);refine F3 (r:=m8) (σ:=List DM) l.length (λo i=>(g,o,l,(l.length:Int),i)) (λi o=>o.length=i) oa (λnext o i hi a x=>?_) (λnext o a=>?_) [] rfl
 .unfold m8;dsimp only;have⟨p,s⟩:=d _ (AK hi);have⟨y,m,_⟩:=L8 (l:=b.2.2.2.1) p s;rw[E2,A6 hi,A7,ET (A1 hi),A0,EY oa,h,m,A0];exact zb
 simp_all[m8,E2,A9,AA,A8,DO]
def AOh(b:JM)(z:BlB b)(w:DM)(s:Int):Tot (mA (b,w,s)) (λr=>r.1.length<=3001):=by
 unfold mA;dsimp only;refine DN.2 (Tot.mono (P:=λr=>r.2.2=0->BlOk b/\GpOk b s r.1/\∃t:Nat,r.2.1=(t:Int)/\t<b.2.2.2.1.length) ?_ λH p=>DP.2 ⟨λ_=>DO.2 oh,λh=>?_⟩)
 .unfold yD;dsimp only;refine DN.2 (Tot.mono (P:=λr=>r.2=0->BlOk b/\GpOk b s r.1) ?_ λr x=>DP.2 ⟨λh=>DO.2 λh0=>(by have h0:r.2=0:=h0;rw[h0]at h;cases h),λh=>?_⟩)
  .unfold yA;dsimp only;refine DN.2 ((A0A b z).mono λe A=>DP.2 ⟨λh=>DO.2 λh0=>(by have h0:e=0:=h0;rw[h0]at h;cases h),λh=>DP.2 ⟨λ_=>DO.2 λh=>absurd h oi,λ_=>?_⟩⟩);have a:=A (L6 h);simp_all[DN,AOd,DO]
  .obtain⟨a,d⟩:=x (L6 h);have D:=a.few;unfold yC;dsimp only;refine DN.2 (Tot.mono (P:=Srch (λy:FU=>y.1) b.2.2.2.1 w) ?_ λq j=>?_)
   .refine DN.2 ((AOH b.2.2.2.1 w oa _ λy=>⟨_,?_,WJ _ _,WO _ _⟩).mono λq j=>DO.2 j);grind[yB,bE]
   .refine DP.2 ⟨λ_=>DO.2 λh=>absurd h oi,λm=>DO.2 λ_=>⟨a,d,q.1.toNat,?_,?_⟩⟩
    .have:=j.rng;grind
    .obtain⟨y,E,_⟩:=j.is (by simpa using m);grind
 .obtain⟨a,d,t,e,B⟩:=p (L6 h);rw[e];refine DN.2 ((AOf d a.few B).mono λl ⟨G,C⟩=>DN.2 ((AOg d.bl l oa C).mono λr x=>DO.2 oc))
def key_ok{p:Pu}(h:KQ p=some 0)(j:p.2.2.2.2.1.length<=1048576):∃k,M9 p=some (k,0):=by
 have e:=ANg (bB p j) h rfl;have⟨l,a,b⟩:=oH p e;have⟨m,d,_⟩:=A6l l b;exact⟨m,by unfold M9;rw[h,A0,show(!(DQ (0:Int) 0))=false from rfl,A8,a,A0,d,A0]⟩
def U2(advs:List FZ)(cs:List FU)(h:IR):Prop:=∃a∈advs,a.1=h.1/\a.2.2.2.2.1=false/\0<=h.2.2/\h.2.2<a.2.2.2.2.2.2.length/\∃c∈cs,c.1=h.2.1
section
variable{cs:List FU}(hn:cs.length<=3000)(hk:∀c∈cs,(∃k,M9 c.2.1=some (k,0))/\(WP c).length<=1048576)
include hn hk
def PlM(n:Nat)(B:Nat)(m:KM):Prop:=∀k,(LW m k).length<=B/\∀x∈LW m k,0<=x/\x<n
theorem AOi:Tot (xV ([],cs,(cs.length:Int),0)) (PlM cs.length cs.length):=by
 refine F3 (r:=lM) (σ:=KM) cs.length (λm i=>(m,cs,(cs.length:Int),i)) (λi m=>PlM cs.length i m) oa (λnext m i hi a j=>?_) (λnext m a=>?_) [] (λk=>⟨AD _,λx h=>oq⟩)
 .unfold lM;dsimp only;have⟨⟨k,k1⟩,_⟩:=hk _ (AK hi);rw[E2,A6 hi,A7,ET (A1 hi),A0,k1,A0,EY oa];have b:=(a k).1;unfold LW at b;refine DN.2 (F9.2 ⟨oc,?_⟩);dsimp only;rw[E1,A6 rfl,A7,A0];refine j _ λl=>?_;unfold LW;rw[ANp];by_cases e:l=k
  .rw[if_pos e,D0];refine⟨oc,λx d=>?_⟩;rcases AZ.1 d with d|d
   .exact(a k).2 x d
   grind
  .rw[if_neg e];exact⟨by have:=(a l).1;grind[LW],(a l).2⟩
 simp_all[lM,E2,A9,AA,A8,DO]
theorem AOj{b:JM}(H:b.2.2.2.1=cs){m:KM}(J:PlM cs.length cs.length m){a:FZ}(G:LV a)(I:QE a=0):
 Tot (lL (a,b,m)) (λq=>q.length<=50*3000/\∀p∈q,0<=p.1/\p.1<cs.length/\0<=p.2/\p.2<a.2.2.2.2.2.2.length):=by
 have⟨h1,O,E,Q⟩:=ANn G I;unfold lL;dsimp only;rw[h1,A0];refine DN.2 (Tot.mono (P:=λq:List (Int×Int)=>q.length<=50*3000/\∀p∈q,0<=p.1/\p.1<cs.length/\0<=p.2/\p.2<a.2.2.2.2.2.2.length) ?_ λo h=>DN.2 ((ANk o).mono λq w=>DO.2 ⟨by rw[w.length_eq];exact h.1,λp C=>h.2 p (w.mem_iff.1 C)⟩));refine F3 (r:=lK) (σ:=List (Int×Int)) a.2.2.2.2.2.2.length (λo i=>(m,b,S9 a,o,a.2.2.2.2.2.2,(a.2.2.2.2.2.2.length:Int),i)) (λi o=>o.length<=i*3000/\∀p∈o,0<=p.1/\p.1<cs.length/\0<=p.2/\p.2<a.2.2.2.2.2.2.length) oa (λnext o i hi h e=>?_) (λnext o h=>?_) [] ⟨oh,oh⟩
 .obtain⟨M,A⟩:=h;unfold lK;dsimp only;rw[E2,A6 hi,A7,ET (A1 hi),A0,EY oa];generalize a.2.2.2.2.2.2[i]=x;have⟨R,L⟩:=J x.1;have j:i<(S9 a).length:=oa
  have K:=A1 j;have z:=E _ (AK j);refine DN.2 (Tot.mono (P:=λq:JM×List (Int×Int)=>q.1=b/\q.2.length<=i*3000+(LW m x.1).length/\∀p∈q.2,0<=p.1/\p.1<cs.length/\0<=p.2/\p.2<a.2.2.2.2.2.2.length) ?_ λq w=>?_)
  .refine F3 (r:=lJ) (σ:=List (Int×Int)) (LW m x.1).length (λo n=>(b,S9 a,o,(i:Int),x,LW m x.1,((LW m x.1).length:Int),n)) (λn o=>o.length<=i*3000+n/\∀p∈o,0<=p.1/\p.1<cs.length/\0<=p.2/\p.2<a.2.2.2.2.2.2.length) oa (λnext o n d h e=>?_) (λnext o h=>?_) o ⟨oa,A⟩
   .obtain⟨M,A⟩:=h;unfold lJ;dsimp only;have⟨D,N⟩:=L _ (AK d);rw[E2,A6 d,A7,ET (A1 d),A0,ET K,A0,EY oa,H];generalize (LW m x.1)[n]=y at D N ⊢;have⟨c,l,s⟩:=L8 (l:=cs) D oa;rw[l,A0];have⟨B,_⟩:=ANo x z x.1 (hk c (AL s)).2;unfold WP at B;rw[B,A0];refine DP.2 ⟨λ_=>DN.2 (F9.2 ⟨oc,e _ ⟨oc,λp C=>?_⟩⟩),λ_=>e _ ⟨oa,A⟩⟩;grind
   .unfold lJ;dsimp only;rw[E2,A9 (AA _),A8];exact DO.2 ⟨rfl,h⟩
  grind
 .unfold lK;dsimp only;rw[E2,A9 (AA _),A8];grind[DO]
theorem AOk{b:JM}(z:b.2.2.2.1=cs){d:List FZ}{a:FZ}(x:a∈d)(A:a.2.2.2.2.1=false)(q:List (Int×Int))(B:∀p∈q,0<=p.1/\p.1<cs.length/\0<=p.2/\p.2<a.2.2.2.2.2.2.length)(C:q.length<=1000000)(out:List IR)(l:out.length<=100000/\∀h∈out,U2 d cs h):
 Tot (xW (b,out,a,q,(q.length:Int),0)) (λr=>match r with| .inl y=>y.1=b/\y.2.length<=100000/\∀h∈y.2,U2 d cs h| .inr y=>y.1.length<=100000/\y.2≠0):=by
 refine F3 (r:=lN) (σ:=List IR) q.length (λo i=>(b,o,a,q,(q.length:Int),i)) (λi o=>o.length<=100000/\∀h∈o,U2 d cs h) oa (λnext o i hi l w=>?_) (λnext o l=>?_) out l
 .unfold lN;dsimp only;have⟨p0,p1,D,E⟩:=B _ (AK hi);rw[E2,A6 hi,A7,ET (A1 hi),A0,EY oa,z];refine DP.2 ⟨λ_=>DO.2 ⟨oh,show(3:Int)≠0 by decide⟩,λe=>?_⟩;rw[DU]at e;have e:=AG e;have⟨c,m,s⟩:=L8 (l:=cs) p0 oa;rw[m,A0];refine DN.2 (F9.2 ⟨oc,w _ ⟨oc,λh j=>?_⟩⟩);rcases AZ.1 j with j|j
  .exact l.2 h j
  .rw[AP]at j;subst j;exact⟨a,x,rfl,A,D,E,c,AL s,rfl⟩
 .unfold lN;dsimp only;rw[E2,A9 (AA _),A8];exact DO.2 ⟨rfl,l⟩
end
def AOl{bs:Bs}(B:BB bs){b:JM}(d:BlB b)(M:∀c∈b.2.2.2.1,c.2.1.2.2.2.1.length<=1048576):Tot (aI (bs,b)) (λq=>q.1.length<=100000/\(q.2=0->WL bs/\BlOk b/\∀h∈q.1,U2 bs.2.1 b.2.2.2.1 h)):=by
 unfold aI;dsimp only;refine DN.2 ((A7O bs B).mono λe w=>DP.2 ⟨λh=>DO.2 ⟨oh,λh0=>(by have h0:e=0:=h0;rw[h0]at h;cases h)⟩,λh=>?_⟩);have D:=w.1 (L6 h);refine DN.2 ((A0A b d).mono λe w=>DP.2 ⟨λh=>DO.2 ⟨oh,λh0=>(oc)⟩,λh=>?_⟩);have l:=w (L6 h)
 have p:∀a∈bs.2.1,LV a/\QE a=0:=λa C=>by
  refine⟨B a C,?_⟩;have⟨j,K,e⟩:=List.mem_iff_getElem.1 C;exact((D.2.2.2 j K).1 a oc).1
 have E:=D.2.1;have x:=l.few;have hk:∀c∈b.2.2.2.1,(∃k,M9 c.2.1=some (k,0))/\(WP c).length<=1048576:=λc s=>⟨key_ok (l.purl c s) (d.c c s).2.1,M c s⟩;refine DN.2 ((AOi x hk).mono λm L=>?_);refine DN.2 (Tot.mono (P:=λq:Sum (List IR) (List IR×Int)=>match q with| .inl o=>o.length<=100000/\∀h∈o,U2 bs.2.1 b.2.2.2.1 h| .inr y=>y.1.length<=100000/\y.2≠0) ?_ λq H=>?_)
 .refine F3 (r:=lO) (σ:=List IR) bs.2.1.length (λo i=>(b,m,o,bs.2.1,(bs.2.1.length:Int),i)) (λi o=>o.length<=100000/\∀h∈o,U2 bs.2.1 b.2.2.2.1 h) oa (λnext o i hi A z=>?_) (λnext o A=>?_) [] ⟨oh,oh⟩
  .unfold lO;dsimp only;have⟨I,J⟩:=p _ (AK hi);rw[E2,A6 hi,A7,ET (A1 hi),A0,EY oa];refine DP.2 ⟨λG=>z o A,λG=>?_⟩;refine DN.2 ((AOj x hk rfl L I J).mono λq H=>?_);obtain⟨Q,N⟩:=H;refine DN.2 ((AOk x hk rfl (AK hi) G q N oa o A).mono λr O=>?_);grind[DO]
  simp_all[lO,E2,A9,AA,A8,DO]
 grind[DO,absurd]
abbrev FM:=DM×DM×DM×Int×Int×Int×Int
def MG(x y:FM):Prop:=x.2.2.2.2.2.2<y.2.2.2.2.2.2\/(x.2.2.2.2.2.2=y.2.2.2.2.2.2/\x.2.2.2.2.2.1<=y.2.2.2.2.2.1)
theorem AOm{x y z:FM}(h:MG x y)(k:MG y z):MG x z:=by unfold MG at *;omega
theorem A7p(x y:FM):MG x y\/MG y x:=by unfold MG;omega
def J1(l:List FM)(ab:FM->Bool)(b:Int):Prop:=(b= -1/\∀x∈l,ab x=false)\/
 ∃(k:Nat) (y:FM),b=(k:Int)/\l[k]?=some y/\ab y=true/\∀(j:Nat) (x:FM),l[j]?=some x->ab x=true->(j<=k->MG x y)/\(k<j->¬MG y x)
def AOn(ab:FM->Bool):J1 [] ab (-1):=.inl ⟨rfl,λx h=>oq⟩
def AOo{α:Type}{l:List α}{x y:α}{j:Nat}(h:(l++[x])[j]?=some y):(j<l.length/\l[j]?=some y)\/(j=l.length/\y=x):=by
 grind
def AOp{l:List FM}{ab:FM->Bool}{b:Int}(h:J1 l ab b){x:FM}(p:ab x=false):J1 (l++[x]) ab b:=by
 rcases h with⟨rfl,h⟩|⟨k,y,rfl,h1,a,e⟩
 .refine .inl ⟨rfl,λz d=>?_⟩;grind
 .refine .inr ⟨k,y,rfl,oc,a,λj z d m=>?_⟩;grind
theorem A7q{l:List FM}{ab:FM->Bool}{b:Int}(h:J1 l ab b){x:FM}(d:ab x=true)(s:b<0\/∃(k:Nat) (y:FM),b=(k:Int)/\l[k]?=some y/\MG y x):J1 (l++[x]) ab (l.length:Int):=by
 refine .inr ⟨l.length,x,rfl,oh,d,λj z a e=>⟨λ_=>?_,λw=>?_⟩⟩
 .rcases AOo a with⟨_,a⟩|⟨_,rfl⟩
  .rcases h with⟨rfl,h⟩|⟨k,y,rfl,h1,m,p⟩
   .grind
   grind[AOm,A7p]
  grind[A7p,id]
 grind
def AOq{l:List FM}{ab:FM->Bool}{k:Nat}(h:J1 l ab (k:Int)){x y:FM}(b:l[k]?=some y)(s:¬MG y x):J1 (l++[x]) ab (k:Int):=by
 rcases h with⟨e,h⟩|⟨d,A,e,h1,a,m⟩
 .omega
 .have:k=d:=oa
  subst this;rw[b]at h1;cases h1;refine .inr ⟨k,y,rfl,oc,a,λj z w p=>?_⟩;grind
def AOr{l:List FM}{ab:FM->Bool}{b c:Int}(h:J1 l ab b)(k:J1 l ab c):b=c:=by
 rcases h with⟨rfl,h⟩|⟨i,y,rfl,h1,d,e⟩
 .rcases k with⟨rfl,_⟩|⟨j,z,rfl,k1,a,_⟩<;>grind
 .rcases k with⟨rfl,k⟩|⟨j,z,rfl,k1,a,m⟩<;>grind
def dn(n:Nat)(b:Int):Int:=if(n:Int)<b then b-1 else b
def AOs{l:List FM}{ab:FM->Bool}{b:Int}(h:J1 l ab b){n:Nat}(s:b≠(n:Int)):J1 (l.eraseIdx n) ab (dn n b):=by
 have d:∀(j:Nat) (x:FM),(l.eraseIdx n)[j]?=some x->l[if j<n then j else j+1]?=some x:=λj x a=>by
  grind
 rcases h with⟨rfl,h⟩|⟨k,y,rfl,h1,m,w⟩
 .refine .inl ⟨by rfl,λx a=>h x (List.mem_of_mem_eraseIdx a)⟩
 .have p:k≠n:=λe=>s oa
  have hk:(l.eraseIdx n)[if n<k then k-1 else k]?=some y:=by
   rw[List.getElem?_eraseIdx];by_cases e:n<k
   .grind
   .grind
  refine .inr ⟨if n<k then k-1 else k,y,?_,hk,m,λj x a z=>?_⟩
  .unfold dn;grind
  grind
section
variable{g:JN}(hg:GB g)(how:Int){fs:List DM}(hf0:fs.length<=1048576)(hf1:∀s∈fs,s.length<=1048576)
include hg hf0 hf1
theorem A7r:Tot (ZY (g,how,fs)) (λr=>r.2=0->∃w,r.1=some w/\WoOk g how w/\GrOk g):=by
 unfold ZY;dsimp only;refine DN.2 ((AO9 hg).mono λe d=>DP.2 ⟨λh=>DO.2 λe0=>(by have e0:e=0:=e0;rw[e0]at h;cases h),λh=>?_⟩);have a:=d (L6 h);refine DN.2 ((AOA fs hf1).mono λe _=>DP.2 ⟨λh=>DO.2 λe0=>(by have e0:e=0:=e0;rw[e0]at h;cases h),λ_=>DP.2 ⟨λ_=>DO.2 λh=>absurd h oi,λ_=>?_⟩⟩);exact DN.2 ((AOK hg a.i a.t how fs hf0).mono λr ⟨w,h1,b⟩=>DO.2 λ_=>⟨w,h1,b,a⟩)
theorem A7s:Tot (VW (g,how,fs)) (λr=>r.1.length<=3000):=by
 unfold VW;dsimp only;refine DN.2 ((A7r hg how hf0 hf1).mono λr m=>DP.2 ⟨λh=>DO.2 oh,λh=>?_⟩);have⟨w,h1,e,d⟩:=m (L6 h);rw[h1];refine DN.2 ((A7g e hg d).mono λB ⟨s,j,p⟩=>?_);subst j;have b:=p.fl;rw[e.gr]at b;have z:=d.f;rw[A0];refine DN.2 ((F3 (r:=kZ) (σ:=List DM) s.2.1.length (λo i=>(g,o,s.2.1,(s.2.1.length:Int),i)) (λi o=>o.length<=i) (Q:=λo=>o.length<=s.2.1.length) oa (λnext o i hi l a=>?_) (λnext o l=>?_) [] (AD _)).mono λq A=>DO.2 oc)
 .unfold kZ;dsimp only;have⟨y,x,_⟩:=L8 (l:=g.2.2.1) (i:=(i:Int)) oa oa;rw[E2,A6 hi,A7,ET (A1 hi),A0,EY oa,x,A0];refine DP.2 ⟨λ_=>DN.2 (F9.2 ⟨oc,a _ oc⟩),λ_=>a _ oa⟩
 simp_all[kZ,E2,A9,AA,A8,DO]
theorem AOt(tg:DM):Tot (aU (g,how,fs,tg)) (λr=>r.1.2.1.length<=3000/\r.1.2.2.length<=3000):=by
 unfold aU;dsimp only;refine DN.2 (Tot.mono (P:=λr=>r.2.2=0->∃w,∃t:Nat,r.1=some w/\WoOk g how w/\GrOk g/\r.2.1=(t:Int)/\t<g.2.2.1.length) ?_ λr1 h8=>?_)
 .unfold yP;dsimp only;refine DN.2 ((A7r hg how hf0 hf1).mono λr hr=>DP.2 ⟨λh=>DO.2 λe0=>(by have e0:r.2=0:=e0;rw[e0]at h;cases h),λh=>?_⟩);have⟨w,h1,A,D⟩:=hr (L6 h);rw[h1,A0];refine DP.2 ⟨λh=>DO.2 λe0=>absurd e0 oi,λh=>DO.2 λ_=>?_⟩;cases e:DZ DR tg w.2.1 with
  |none=>grind
  |some i=>
   have⟨i0,i1⟩:=A.fn.1 _ _ e;grind
 refine DP.2 ⟨λ_=>DO.2 ⟨oh,oh⟩,λh=>?_⟩;have⟨w,t,e1,A,D,e2,ht⟩:=h8 (L6 h);have h6:=A.gr;have hn:=D.f;have y0:=hg.e0;rw[e1,e2];refine DN.2 ((A7g A hg D).mono λr3 ⟨s,h2,G⟩=>?_);subst h2;have h5:=G.fl;have h7:=G.ml;rw[h6]at h5 h7;obtain⟨y,hy⟩:∃y,s.2.1[t]?=some y:=⟨_,A1 oa⟩;rw[A0,ET hy,A0];refine DP.2 ⟨λ_=>DO.2 ⟨oh,oh⟩,λK=>?_⟩;have K:y=true:=by simpa using K
 subst K;refine DN.2 ((AOV A hg D G ht).mono λd ⟨nx,C,O,E⟩=>?_);have h4:d.length=g.2.2.1.length:=C.len.trans O
 have T:∀e,0<=GI w.2.1 e/\GI w.2.1 e<g.2.2.1.length:=λe=>by
  have:=SC A.fn e;grind
 refine DN.2 (Tot.mono (P:=λb=>∃n:Nat,b=(n:Int)/\n<g.2.2.1.length/\∃x,d[n]?=some x/\0<=x) ?_ λy7 Q=>?_)
 .obtain⟨e0,x5,x0,m,H⟩:=AOZ A hg D G C O E (G.r t hy) ⟨oa,0,by rw[BR];exact C.t0,AS _⟩;refine F3 (r:=nD) (σ:=Int) g.2.2.2.length (λb i=>(some w,d,b,g.2.2.2,(g.2.2.2.length:Int),i)) (λi b=>(b= -1/\∀e∈g.2.2.2.take i,∀x,d[(GI w.2.1 e).toNat]?=some x->x<0)\/∃n:Nat,b=(n:Int)/\n<g.2.2.1.length/\∃x,d[n]?=some x/\0<=x) oa (λnext b i hi L a=>?_) (λnext b L=>?_) (-1) (.inl ⟨rfl,λe h=>oq⟩)
  .unfold nD;dsimp only;have p:=A1 hi;rw[E2,A6 hi,A7,ET p,A0,A0,EY oa];generalize g.2.2.2[i]=e at p ⊢;have⟨r0,r1⟩:=T e;unfold GI at r0 r1;have⟨x4,U,J⟩:=L8 (l:=d) r0 oa;rw[U,A0];refine DN.2 (Tot.mono (P:=λ_=>True) (DP.2 ⟨λ_=>DO.2 trivial,λ_=>DO.2 trivial⟩) λy8 _=>?_);refine DN.2 (Tot.mono (P:=λ_=>True) (DP.2 ⟨λhb=>?_,λ_=>DO.2 trivial⟩) λy9 _=>?_)
   .rcases L with⟨rfl,_⟩|⟨n,rfl,y1,x,hx,_⟩
    .grind
    simp_all[EJ,trivial]
   .refine DP.2 ⟨λhb=>a _ (.inr ⟨((DZ DR e w.2.1).getD 0).toNat,oa,oa,x4,J,?_⟩),λhb=>a _ ?_⟩
    .grind
    .rcases L with⟨rfl,L⟩|L
     .refine .inl ⟨rfl,λe' l x hx=>?_⟩;rw[GW p]at l;rcases AZ.1 l with l|l
      .grind
      .rw[AP]at l;subst l;unfold GI at hx;grind
     .exact .inr L
  .unfold nD;dsimp only;rw[E2,A9 (AA _),A8];grind[DO,List.take_length]
 obtain⟨Z,rfl,h3,x0,m,H⟩:=Q;have p:=A1 h3;rw[ET p,A0];refine DN.2 (Tot.mono (P:=λr=>r.1.2.2=[]/\r.1.2.1.length<=3000/\r.2.length<=3000/\(r.2.map (·.1)).Nodup) ?_ λx3 R=>?_)
 .refine ES (R:=λr:OY×List (DM×DM)=>r.1.2.2=[]/\r.1.2.1.length<=3000/\r.2.length<=3000/\(r.2.map (·.1)).Nodup) (λz:Option IC×Int×Option L7×List Int×OY×List (DM×DM)×Int=>z.1=some w/\z.2.1=(t:Int)/\z.2.2.1=some s/\z.2.2.2.1=d/\z.2.2.2.2.1.2.2=[]/\∃ f:Nat,z.2.2.2.2.2.2=(f:Int)/\∃ x:Int,d[f]? = some x/\0<=x /\
   (z.2.2.2.2.1.2.1.length:Int)+x<=3000/\(z.2.2.2.2.2.1.length:Int)+x<=3000/\(z.2.2.2.2.2.1.map (·.1)).Nodup) (λz=>(d.getD z.2.2.2.2.2.2.toNat 0).toNat) (λnext z hI a=>?_) fuel (some w,(t:Int),some s,d,((g.2.2.1[Z]).1,(([]:List bP),([]:List (DM×DM)))),([]:List (DM×DM)),(Z:Int))
   ⟨rfl,rfl,rfl,rfl,rfl,Z,rfl,x0,m,H,?_,?_,AU⟩ ?_
  .obtain⟨w',t',s',d',o,ty,f'⟩:=z;obtain⟨i1,i2,i3,W,X,f,i6,x,Y,i8,i9,x1,B⟩:=hI;dsimp only at i1 i2 i3 W X i6 i9 x1 B a;have W:=W.symm;subst i1 i2 i3 W i6;have y4:=(C.low f x Y).2;have h9:d.getD (f:Int).toNat 0=x:=by rw[AF,BR,Y];rfl
   rw[h9]at a;unfold A5e;dsimp only;rw[DU];refine DP.2 ⟨λhc=>?_,λhc=>DO.2 ⟨X,oc,oc,B⟩⟩;have hc:¬(f:Int)=(t:Int):=by simpa using hc
   rcases C.pre f x Y i8 with⟨_,e⟩|⟨i,y,r,p1,p2,p3,p4,p5⟩
   .omega
   .obtain⟨i',p6,p7⟩:=(E i r (f:Int) p4).1 p5;have p6:f=i':=oa
    subst p6;refine DN.2 ((AOW A hg D G h4 Y oa (i:=i) oc p7).mono λq ⟨j,hj,I⟩=>?_);rw[A0];have y5:d.getD (j:Int).toNat 0=x-1:=by rw[AF,BR,I];rfl
    refine DP.2 ⟨λ_=>?_,λ_=>?_⟩
    .refine DN.2 ((AOX A hg D G q.2.1 q.2.2).mono λV _=>DN.2 ((AOY A hg D G V).mono λx2 _=>DN.2 (F9.2 ⟨oc,?_⟩)));have y2:=AOa V x2 ty;refine a _ ⟨rfl,rfl,rfl,rfl,X,j,hj,x-1,I,oa,?_,?_,AO_ B⟩ ?_
     .grind
     .grind
     grind
    .refine DN.2 (F9.2 ⟨oc,?_⟩);refine a _ ⟨rfl,rfl,rfl,rfl,X,j,hj,x-1,I,oa,?_,oc,B⟩ ?_
     .grind
     grind
  .have:=(C.low _ _ m).2;grind
  .have:=(C.low _ _ m).2;grind
  .dsimp only;have:=(C.low _ _ m).2;rw[AF,BR,m];grind[fuel]
 obtain⟨⟨M,N,y6⟩,ty⟩:=x3;obtain⟨q1,q0,q2,q3⟩:=R;dsimp only at q1 q0 q2 q3 ⊢;subst q1;have⟨r,y3,_,hr⟩:=A7o (List.Perm.refl ty) q3;refine⟨_,A19 (ω:=((M,(N,r)),true,0)) ⟨ty,List.Perm.refl _⟩ λo hp=>?_,q0,oc⟩;have hl:=hp.length_eq;rw[AOb o M N [] oc,A0,CU];dsimp only;have⟨r',_,h1,h2⟩:=A7o hp q3;grind
end
abbrev JA:=JM×Int×Bs×List JN×Int×List DM×List FM
abbrev O2:=JA×List (DM×FZ)×List (DM×FU)×List (DM×Bool)×List ((DM×DM×Int)×Bool)
abbrev WU:=Option O2×IR×FZ×FU×List DM×Int×List DM
abbrev O3:=DM×DM×Int×Int×Int×List DM×DM×List OY×Int
structure PrB(p:JA):Prop where
 bl:BlB p.1
 bv:∀c∈p.1.2.2.2.1,c.2.1.2.2.2.1.length<=1048576
 bs:BB p.2.2.1
 gr:∀g∈p.2.2.2.1,GB g
 f0:p.2.2.2.2.2.1.length<=1048576
 f1:∀s∈p.2.2.2.2.2.1,s.length<=1048576
 s0:p.2.2.2.2.2.2.length<=1048576
 s1:∀s∈p.2.2.2.2.2.2,s.1.length<=1048576/\s.2.1.length<=1048576
def AOu(s:DM)(a:s.length<=1048576):Tot (lA s) (λ_=>True):=by
 unfold lA;refine DN.2 ((F3 (r:=k_) s.length (λ_ i=>(s,(s.length:Int),i)) (λ_ _=>True) (Q:=λ_=>True) oa (λnext _ i hi _ h=>?_) (λnext _ _=>?_) () trivial).mono λr _=>?_)
 .unfold k_;dsimp only;rw[E2,A6 hi,A7,EY oa];simp_all[DN,EJ,DP,DO,trivial]
 .simp_all[k_,E2,A9,AA,A8,DO,trivial]
 .cases r<;>exact DO.2 trivial
def AOv(s:DM)(a:s.length<=1048576):Tot (lC s) (λ_=>True):=by
 unfold lC;refine DN.2 ((F3 (r:=lB) s.length (λ_ i=>(s,(s.length:Int),i)) (λ_ _=>True) (Q:=λ_=>True) oa (λnext _ i hi _ h=>?_) (λnext _ _=>?_) () trivial).mono λr _=>?_)
 .unfold lB;dsimp only;rw[E2,A6 hi,A7,EY oa];simp_all[DN,EJ,Tot.mono,DP,trivial,DO]
 .simp_all[lB,E2,A9,AA,A8,DO,trivial]
 .cases r<;>exact DO.2 trivial
def AOw(s:FM)(h1:s.1.length<=1048576)(h:s.2.1.length<=1048576):∃e,ON s=some e:=by
 unfold ON;refine II.1 (DN.2 ((AOu _ h1).mono λb _=>DN.2 (Tot.mono (P:=λ_=>True) (DP.2 ⟨λ_=>AOv _ h,λ_=>DO.2 trivial⟩) λd _=>DP.2 ⟨λ_=>DO.2 trivial,λ_=>?_⟩)));have⟨j,a⟩:=ANs s.2.2.1;simp_all[A0,DP,DO,trivial]
def A7t(l:List FM)(w:l.length<=1048576)(b:∀s∈l,s.1.length<=1048576/\s.2.1.length<=1048576):Tot (xS (l,(l.length:Int),0)) (λq=>match q with| .inl _=>∀s∈l,ON s=some 0| .inr e=>e≠0/\¬∀s∈l,ON s=some 0):=by
 refine F3 (r:=lF) (σ:=Unit) l.length (λ_ i=>(l,(l.length:Int),i)) (λi _=>∀s∈l.take i,ON s=some 0) oa (λnext _ i hi j p=>?_) (λnext _ j=>?_) () (λs h=>oq)
 .unfold lF;dsimp only;have a:=A1 hi;have⟨h1,d⟩:=b _ (AK hi);have⟨e,m⟩:=AOw _ h1 d;rw[E2,A6 hi,A7,ET a,A0,EY oa,m,A0,DU];refine DP.2 ⟨λh=>?_,λh=>p () λs b=>?_⟩
  .grind[DO,List.getElem_mem,Option.some.inj]
  .have h:e=0:=by simpa using h
   subst h;rw[GW a]at b;grind
 simp_all[lF,E2,A9,AA,A8,AW,DO]
structure PrOk(p:JA):Prop where
 bl:BlOk p.1
 bs:WL p.2.2.1
 gr:p.2.2.2.1.length<=1
 st:p.2.2.2.2.2.2.length<=2000
def AOx(p:JA)(a:PrB p):Tot (aA p) (λe=>e=0->p.2.2.2.1.length<=1):=by
 unfold aA;refine DP.2 ⟨λ_=>DO.2 λh=>absurd h oi,λh=>?_⟩;have h:=AG h;refine DP.2 ⟨λ_=>DP.2 ⟨λ_=>DO.2 λh=>absurd h oi,λ_=>DO.2 λ_=>oa⟩,λh0=>?_⟩;rw[DU]at h0;have h0:=AG h0;refine DN.2 (EJ.2 ⟨⟨oa,oa⟩,λg b=>?_⟩);exact DN.2 ((A7s (a.gr g (AL b)) _ a.f0 a.f1).mono λr _=>DO.2 λ_=>oa)
def AOy(p:JA)(b:PrB p):Tot (TM p) (λe=>e=0->PrOk p/\∀s∈p.2.2.2.2.2.2,ON s=some 0):=by
 unfold TM;refine DN.2 ((A0A p.1 b.bl).mono λe a=>DP.2 ⟨λh=>DO.2 λh0=>(by have h0:e=0:=h0;rw[h0]at h;cases h),λh=>?_⟩);have j:=a (L6 h);refine DP.2 ⟨λ_=>DO.2 λh=>absurd h oi,λ_=>?_⟩;refine DN.2 ((A7O p.2.2.1 b.bs).mono λe a=>DP.2 ⟨λh=>DO.2 λh0=>(by have h0:e=0:=h0;rw[h0]at h;cases h),λh=>?_⟩);have l:=a.1 (L6 h);refine DN.2 ((AOx p b).mono λe a=>DP.2 ⟨λh=>DO.2 λh0=>(oc),λh=>?_⟩);have m:=a (L6 h);refine DP.2 ⟨λ_=>DO.2 λh=>absurd h oi,λd=>?_⟩;have d:=AG d;refine DN.2 ((A7t _ b.s0 b.s1).mono λq w=>?_);cases q with
 |inl u=>exact DO.2 λ_=>⟨⟨j,l,m,oa⟩,w⟩
 |inr e=>grind[DO,absurd]
def GX(p:JA)(l:List FM):JA:=(p.1,p.2.1,p.2.2.1,p.2.2.2.1,p.2.2.2.2.1,p.2.2.2.2.2.1,l)
def AOz{p:JA}(h:TM p=some 0){l:List FM}(A:l.length<=2000)(x:∀s∈l,s.1.length<=1048576/\s.2.1.length<=1048576)(z:∀s∈l,ON s=some 0):TM (GX p l)=some 0:=by
 unfold TM at h ⊢;unfold GX;dsimp only;have⟨C,h1,h⟩:=ME h;rw[h1,A0];rcases OU h with⟨b,h⟩|⟨b,h⟩
 .grind
 rw[b,A8];rcases OU h with⟨_,h⟩|⟨e,h⟩
 .cases h
 rw[e,A8];have⟨D,j,h⟩:=ME h;rw[j,A0];rcases OU h with⟨a,h⟩|⟨a,h⟩
 .grind
 rw[a,A8];have⟨y,m,h⟩:=ME h;rw[show aA (p.1,p.2.1,p.2.2.1,p.2.2.2.1,p.2.2.2.2.1,p.2.2.2.2.2.1,l)=some y from m,A0];rcases OU h with⟨d,h⟩|⟨d,h⟩
 .grind
 rw[d,A8,A9 (show ¬(2000:Int)<(l.length:Int) by omega),A8];have⟨q,B,w⟩:=A7t l oa x;grind
def pD{X R σ α:Type}{r:(X->Option R)->X->Option R}(l:List α)(enc:σ->Int->X)(f:σ->α->σ)(out:σ->R)(d:l.length<=1099511627776)
 (e:∀next s (i:Nat) y,l[i]?=some y->r next (enc s (i:Int))=next (enc (f s y) ((i:Int)+1)))(a:∀next s,r next (enc s (l.length:Int))=some (out s))(s0:σ):DX r fuel (enc s0 0)=some (out (l.foldl f s0)):=by
 refine L5 ((SB l enc (λs _ y=>f s y) out (λi s=>s=(l.take i).foldl f s0) d (λnext s i y h=>e next s i y h) a s0 rfl (λs i y h b=>?_)).mono λq ⟨s,h1,j⟩=>?_)
 .rw[GW h,List.foldl_append,<-b];rfl
 grind
def A7u{j:Type}(d:j->DM):∀(l:List j) (m:List (DM×j)),l.Pairwise (λa b=>d a<d b)->∀a∈l,DZ DR (d a) (l.foldl (λm a=>ED DR (d a) a m) m)=some a:=by
 have p:∀(l:List j) (m:List (DM×j)) (s:DM) (b:j),DZ DR s m=some b->(∀a∈l,d a≠s)->DZ DR s (l.foldl (λm a=>ED DR (d a) a m) m)=some b:=by
  intro l;induction l with
  |nil=>simp
  |cons a l z=>
   intro m s b h y;refine z _ s b ?_ λc x=>y c (AN _ x);rw[U0,if_neg (λe=>y a AE e.symm)];exact h
 intro l;induction l with
 |nil=>simp
 |cons b l z=>
  intro m A a w;have⟨h1,B⟩:=List.pairwise_cons.1 A;rcases B1.1 w with rfl|w
  .exact p l _ _ _ (by rw[U0,if_pos rfl]) λc x e=>by
    grind
  grind
abbrev A7v:DM×DM×Int->DM×DM×Int->Bool:=λ(x y:DM×DM×Int)=>DR x.1 y.1&&(λ(x y:DM×Int)=>DR x.1 y.1&&DQ x.2 y.2) x.2 y.2
def edM(sc:Int)(l:List S8):List ((DM×DM×Int)×Bool):=l.foldl (λm e=>if e.2.2<=sc then ED A7v (e.1,(e.2.1,(0:Int))) true m else m) []
def AP0(q:JA)(l:List FZ)(d:l.length<=1099511627776)(m:List (DM×FZ))(X:List (DM×FU)×List (DM×Bool)×List ((DM×DM×Int)×Bool)):
 xX ((q,(m,X)),l,(l.length:Int),0)=some (q,l.foldl (λm a=>ED DR a.1 a m) m,X):=by
 refine pD (r:=lP) l (λm i=>((q,(m,X)),l,(l.length:Int),i)) (λm a=>ED DR a.1 a m) (λm=>(q,m,X)) d (λnext s i y h=>?_) (λnext s=>?_) m
 .have b:=(A4.1 h).1;unfold lP;dsimp only;rw[E2,A6 b,A7,ET h,A0,EY oa]
 simp_all[lP,E2,A9,AA,A8]
def AP1(q:JA)(l:List FU)(d:l.length<=1099511627776)(m:List (DM×FU))(A:List (DM×FZ))(X:List (DM×Bool)×List ((DM×DM×Int)×Bool)):
 xY ((q,(A,(m,X))),l,(l.length:Int),0)=some (q,A,l.foldl (λm a=>ED DR a.1 a m) m,X):=by
 refine pD (r:=lQ) l (λm i=>((q,(A,(m,X))),l,(l.length:Int),i)) (λm a=>ED DR a.1 a m) (λm=>(q,A,m,X)) d (λnext s i y h=>?_) (λnext s=>?_) m
 .have b:=(A4.1 h).1;unfold lQ;dsimp only;rw[E2,A6 b,A7,ET h,A0,EY oa]
 simp_all[lQ,E2,A9,AA,A8]
def AP2(q:JA)(l:List S8)(b:l.length<=1099511627776)(A:List (DM×FZ))(C:List (DM×FU))(R:List (DM×Bool)):
 xZ (q,(q,(A,(C,(R,[])))),l,(l.length:Int),0)=some (q,q,A,C,R,edM q.2.1 l):=by
 refine pD (r:=lR) l (λm i=>(q,(q,(A,(C,(R,m)))),l,(l.length:Int),i)) (λm e=>if e.2.2<=q.2.1 then ED A7v (e.1,(e.2.1,(0:Int))) true m else m) (λm=>(q,q,A,C,R,m)) b (λnext s i y h=>?_) (λnext s=>?_) []
 .have a:=(A4.1 h).1;unfold lR;dsimp only;rw[E2,A6 a,A7,ET h,A0,EY oa];grind
 simp_all[lR,E2,A9,AA,A8]
def AP3(p:JA)(D:PrB p)(d:PrOk p):∃A C R N,(∀l,lU (GX p l)=some (some (GX p l,A,C,R,N)))/\(∀a∈p.2.2.1.2.1,DZ DR a.1 A=some a)/\∀c∈p.1.2.2.2.1,DZ DR c.1 C=some c:=by
 have J:=d.bs.2.1;have L:=d.bl.few;have M:=d.bl.edges
 have key:∃R,∀(q:JA) (A:List (DM×FZ)) (C:List (DM×FU)) (N:List ((DM×DM×Int)×Bool)),q.2.2.2.1=p.2.2.2.1->q.2.2.2.2.1=p.2.2.2.2.1->q.2.2.2.2.2.1=p.2.2.2.2.2.1->
  (bif (DQ (q.2.2.2.1.length:Int) (1:Int)) then
   (at? q.2.2.2.1 (0:Int)).bind λG=>(VW (G,q.2.2.2.2.1,q.2.2.2.2.2.1)).bind λj=>
   (lT ((q,(A,(C,(([]:List (DM×Bool)),N)))),j.1,(j.1.length:Int),(0:Int))).bind λb=>some (some (b.1,(b.2.1,(b.2.2.1,(b.2.2.2.1,b.2.2.2.2)))))
  else some (some (q,(A,(C,(([]:List (DM×Bool)),N))))))=some (some (q,A,C,R,N)):=by
  by_cases h1:(p.2.2.2.1.length:Int)=1
  .obtain⟨y,T,E⟩:=L8 (l:=p.2.2.2.1) (i:=0) (AS _) oa;have⟨r,O,Q⟩:=A7s (D.gr y (AL E)) p.2.2.2.2.1 D.f0 D.f1;refine⟨r.1.foldl (λm s=>ED DR s true m) [],λq A C N e w x=>?_⟩;rw[e,w,x,DU,A6 h1,A7,T,A0,O,A0];have:=pD (r:=lS) (σ:=List (DM×Bool)) r.1 (λm i=>((q,(A,(C,(m,N)))),r.1,(r.1.length:Int),i)) (λm s=>ED DR s true m) (λm=>(q,(A,(C,(m,N))))) oa (λnext s i y h=>?_) (λnext s=>?_) []
   .simp_all[lT,A0]
   .have B:=(A4.1 h).1;unfold lS;dsimp only;rw[E2,A6 B,A7,ET h,A0,EY oa]
   simp_all[lS,E2,A9,AA,A8]
  .refine⟨[],λq A C N e _ _=>?_⟩;rw[e,DU,A9 h1,A8]
 obtain⟨R,H⟩:=key
 refine ⟨p.2.2.1.2.1.foldl (λm a=>ED DR a.1 a m) [],p.1.2.2.2.1.foldl (λm c=>ED DR c.1 c m) [],R,
  edM p.2.1 p.1.2.2.2.2,λl=>?_,λa I=>?_,λc K=>?_⟩
 .unfold lU;have e:=AP0 (GX p l) p.2.2.1.2.1 oa [] ([],[],[]);have w:=AP1 (GX p l) p.1.2.2.2.1 oa [] (p.2.2.1.2.1.foldl (λm a=>ED DR a.1 a m) []) ([],[]);have x:=AP2 (GX p l) p.1.2.2.2.2 oa (p.2.2.1.2.1.foldl (λm a=>ED DR a.1 a m) []) (p.1.2.2.2.1.foldl (λm c=>ED DR c.1 c m) []) [];refine(congrArg (λz=>Option.bind z _) e).trans ((congrArg (λz=>Option.bind z _) w).trans ((congrArg (λz=>Option.bind z _) x).trans ?_));exact H (GX p l) _ _ _ rfl rfl rfl
 .exact A7u (λa:FZ=>a.1) _ [] (ANq d.bs) a I
 .exact A7u (λc:FU=>c.1) _ [] d.bl.asc c K
noncomputable def cS(l:List DM)(v:DM):Bool:=(OM (l,v)).getD false
theorem A7w(l:List DM)(v:DM)(a:l.length<=1048576):OM (l,v)=some (cS l v):=by
 have⟨r,h,_⟩:=oT (l,v) a;grind[cS]
noncomputable def U3(name:DM)(a:FZ)(c:FU)(x:FM):Bool:=
 (DR x.1 a.1||cS a.2.1 x.1)&&((DR x.2.1 []||DR x.2.1 name)&&((aL (x.2.2.1,c.2.1)).getD (false,0)).1)
def AP4(s:O2)(x:FM)(a:FZ)(c:FU)(b:a.2.1.length<=1048576)(h:c.2.1.2.2.2.2.1.length<=1048576):mJ (some s,x,a,c)=some (U3 s.1.1.1 a c x):=by
 have⟨r,d⟩:=AO3 x.2.2.1 c.2.1 h;grind[mJ,U3,A7w,DR,cS]
theorem A7x(x y:FM):((((DR x.1 y.1)&&((DR x.2.1 y.2.1)&&((DR x.2.2.1 y.2.2.1)&&((DQ x.2.2.2.1 y.2.2.2.1)&&((DQ x.2.2.2.2.1 y.2.2.2.2.1)&&((DQ x.2.2.2.2.2.1 y.2.2.2.2.2.1)&&(DQ x.2.2.2.2.2.2 y.2.2.2.2.2.2)))))))||(decide (y.2.2.2.2.2.2<x.2.2.2.2.2.2)))||((DQ x.2.2.2.2.2.2 y.2.2.2.2.2.2)&&(decide (y.2.2.2.2.2.1<=x.2.2.2.2.2.1))))=true<->MG y x:=by
 unfold MG;simp only[E1,DU,C6,A5,BI];omega
def AP5(s:O2)(a:FZ)(c:FU)(A:a.2.1.length<=1048576)(C:c.2.1.2.2.2.2.1.length<=1048576)(G:s.1.2.2.2.2.2.2.length<=1048576):Tot (mL (some s,a,c)) (λb=>J1 s.1.2.2.2.2.2.2 (U3 s.1.1.1 a c) b):=by
 unfold mL;dsimp only;rw[A0];refine DN.2 (Tot.mono (P:=λb=>J1 s.1.2.2.2.2.2.2 (U3 s.1.1.1 a c) b) ?_ λb l=>DO.2 l);refine F3 (r:=mK) (σ:=Int) s.1.2.2.2.2.2.2.length (λb i=>(some s,a,c,b,s.1.2.2.2.2.2.2,(s.1.2.2.2.2.2.2.length:Int),i)) (λi b=>J1 (s.1.2.2.2.2.2.2.take i) (U3 s.1.1.1 a c) b) oa (λnext b i hi j p=>?_) (λnext b j=>?_) (-1) (AOn _)
 .unfold mK;dsimp only;have e:=A1 hi;rw[E2,A6 hi,A7,ET e,A0,EY oa,AP4 s _ a c A C,A0];rw[GW e]at p;generalize s.1.2.2.2.2.2.2[i]=x at e p ⊢;have w:(s.1.2.2.2.2.2.2.take i).length=i:=by rw[BG];omega
  refine DP.2 ⟨λh=>p b (AOp j (by simpa using h)),λh=>?_⟩;have z:U3 s.1.1.1 a c x=true:=by simpa using h
  refine DP.2 ⟨λl=>?_,λl=>?_⟩
  .have:=A7q j z (.inl (AC l));grind
  .have l:=AG l;rw[A0]
   obtain⟨k,y,rfl,d,D,E⟩:∃(k:Nat) (y:FM),b=(k:Int)/\(s.1.2.2.2.2.2.2.take i)[k]?=some y/\True/\True:=by
    rcases j with⟨rfl,_⟩|⟨k,y,rfl,h1,_⟩<;>grind
   have m:s.1.2.2.2.2.2.2[k]?=some y:=by
    rw[A_]at d;split at d
    .exact d
    .cases d
   rw[ET m,A0];refine DP.2 ⟨λh=>?_,λh=>p _ (AOq j d λB=>?_)⟩
   .have:=A7q j z (.inr ⟨k,y,rfl,d,(A7x x y).1 h⟩);grind
   grind[A7x]
 simp_all[mK,E2,A9,AA,A8,AW,DO]
noncomputable def U4(fs:List DM)(ref:DM)(f:N7):Bool:=DR f.2.1 ref&&(DQ (fs.length:Int) 0||cS fs f.1)
def A7y(s:Option O2)(h:IR)(a:FZ)(c:FU)(pa:List DM)(k:Int)(w:List DM){x:Af}(b:a.2.2.2.2.2.2[h.2.2.toNat]?=some x)(h0:0<=h.2.2):VY (s,h,a,c,pa,k,w)=some x.2.2.2.2:=by
 unfold VY;dsimp only;have e:h.2.2=((h.2.2.toNat:Nat):Int):=oa
 rw[e,ET b,A0]
def AP6(s:Option O2)(h:IR)(a:FZ)(c:FU)(pa:List DM)(k:Int)(d:List DM){x:Af}(C:a.2.2.2.2.2.2[h.2.2.toNat]?=some x)(h0:0<=h.2.2)(y:x.2.2.2.2.length<=1048576)(fs:List N7)(z:d.length+fs.length<=1099511627776):
 yL (h,(s,(h,(a,(c,(pa,(k,d)))))),fs,(fs.length:Int),0)=some (h,s,h,a,c,pa,k,d++(fs.filter (U4 x.2.2.2.2 h.2.1)).map (·.1)):=by
 have key:=F3 (r:=mM) (σ:=List DM) (Q:=λq=>q=(h,s,h,a,c,pa,k,d++(fs.filter (U4 x.2.2.2.2 h.2.1)).map (·.1))) fs.length (λw i=>(h,(s,(h,(a,(c,(pa,(k,w)))))),fs,(fs.length:Int),i))
  (λi w=>w=d++((fs.take i).filter (U4 x.2.2.2.2 h.2.1)).map (·.1)) oa (λnext w i hi l e=>?_) (λnext w l=>?_) d oh
 .exact L5 key
 .unfold mM;dsimp only;have b:=A1 hi;have p:=A7y s h a c pa k w C h0
  have B:w.length<=d.length+i:=by
   rw[l,AI,AX];have:=CY (U4 x.2.2.2.2 h.2.1) (fs.take i);rw[BG]at this;omega
  rw[E2,A6 hi,A7,ET b,A0,EY oa,p];rw[GW b,List.filter_append,DC,<-C8,<-l]at e;generalize fs[i]=f at b e ⊢;have j:U4 x.2.2.2.2 h.2.1 f=(DR f.2.1 h.2.1&&(DQ (x.2.2.2.2.length:Int) 0||cS x.2.2.2.2 f.1)):=rfl;cases A:DR f.2.1 h.2.1 with
  |false=>
   grind
  |true=>
   rw[A7,A0,BZ];rw[A,BZ]at j;cases D:DQ (x.2.2.2.2.length:Int) 0 with
   |true=>
    rw[B_,A8,A0,A8,A0,Bool.true_or,BZ,A7];refine DN.2 (F9.2 ⟨oc,e _ ?_⟩);grind
   |false=>
    rw[D8,A7,A0,A7,A7w _ _ y,A0,CD,BZ];rw[D,CD]at j;refine DP.2 ⟨λm=>DN.2 (F9.2 ⟨oc,e _ ?_⟩),λm=>e _ ?_⟩
    .simp[j,m]
    .simp[j,m]
 simp_all[mM,E2,A9,AA,A8,AW,DO]
noncomputable def O4(fs:List DM)(ref:DM)(gs:List JN):List DM:=gs.flatMap λg=>(g.2.2.1.filter (U4 fs ref)).map (·.1)
def AP7(s:Option O2)(h:IR)(a:FZ)(c:FU)(pa:List DM)(k:Int){x:Af}(A:a.2.2.2.2.2.2[h.2.2.toNat]?=some x)(h0:0<=h.2.2)(j:x.2.2.2.2.length<=1048576)(b:List JN)(y:b.length<=1)(m:∀g∈b,g.2.2.1.length<=1048576):
 yM (h,(s,(h,(a,(c,(pa,(k,([]:List DM))))))),b,(b.length:Int),0)=some (s,h,a,c,pa,k,O4 x.2.2.2.2 h.2.1 b):=by
 have key:=F3 (r:=mN) (σ:=List DM) (Q:=λq=>q=(s,h,a,c,pa,k,O4 x.2.2.2.2 h.2.1 b)) b.length (λw i=>(h,(s,(h,(a,(c,(pa,(k,w)))))),b,(b.length:Int),i))
  (λi w=>w=O4 x.2.2.2.2 h.2.1 (b.take i)/\w.length<=1048576*i) oa (λnext w i hi e z=>?_) (λnext w e=>?_) [] (by simp[O4])
 .exact L5 key
 .unfold mN;dsimp only;have d:=A1 hi;have p:=m _ (AK hi);have l:=CY (U4 x.2.2.2.2 h.2.1) (b[i]).2.2.1;rw[E2,A6 hi,A7,ET d,A0,EY oa,AP6 s h a c pa k w A h0 j _ oa,A0];refine z _ ⟨?_,?_⟩
  .rw[GW d];unfold O4;rw[List.flatMap_append,<-O4,<-e.1];simp
  grind
 simp_all[mN,E2,A9,AA,A8,AW,DO]
def AP8{fs:List DM}{ref:DM}{a:List JN}{s:DM}(h:s∈O4 fs ref a):0<a.length:=by
 have⟨g,b,_⟩:=List.mem_flatMap.1 h;grind
def bQ{m:WU}(k:Nat)(L:List (Int×Option (WU->Option Bool)))(i:Nat){st:Int}{F:WU->Option Bool}{b:Bool}(h:L[i]?=some (st,some F))(d:F m=some b)(hi:i<1000):
 DX R_ (k+1) (m,L,(L.length:Int),(i:Int))=bif b then some (.inr st)else DX R_ k (m,L,(L.length:Int),((i+1:Nat):Int)):=by
 show R_ (DX R_ k) _=_;generalize DX R_ k=next
 unfold R_;dsimp only;have a:=(A4.1 h).1;rw[E2,A6 a,A7,ET h,A0,EY oa];grind
def AP9{m:WU}{d j l p s:Bool}(h1:mO m=some d)(w:aN m=some j)(y:aP m=some l)(z:aQ m=some p)(A:VZ m=some s):
 aR m=some (bif d then 1 else bif j then 2 else bif l then 6 else bif p then 5 else bif s then 3 else 4):=by
 unfold aR yN;rw[A0];unfold yO;obtain⟨k,hk⟩:∃k,fuel=k+1+1+1+1+1+1:=⟨fuel-6,by rfl⟩;rw[hk];have bs:∀{x:Option Bool} {b:Bool},x=some b->(x.bind λr=>some r)=some b:=λh=>by rw[h];rfl
 generalize a:([((1:Int),(some (λx=>(mO x).bind λr=>some r))),((2:Int),(some (λx=>(aN x).bind λr=>some r))),((6:Int),(some (λx=>(aP x).bind λr=>some r))),((5:Int),(some (λx=>(aQ x).bind λr=>some r))),((3:Int),(some (λx=>(VZ x).bind λr=>some r)))]:List (Int×Option (WU->Option Bool)))=L;have e:=bQ (m:=m) (k+1+1+1+1+1) L 0 (by rw[<-a];rfl) (bs h1) oa;have B:=bQ (m:=m) (k+1+1+1+1) L 1 (by rw[<-a];rfl) (bs w) oa;have C:=bQ (m:=m) (k+1+1+1) L 2 (by rw[<-a];rfl) (bs y) oa;have D:=bQ (m:=m) (k+1+1) L 3 (by rw[<-a];rfl) (bs z) oa;have E:=bQ (m:=m) (k+1) L 4 (by rw[<-a];rfl) (bs A) oa;have G:DX R_ (k+1) (m,L,(L.length:Int),((4+1:Nat):Int))=some (.inl ()):=by rw[<-a];rfl
 grind
def I6(l:List FM)(k a b:Int):Bool:=bif decide (k<0)then false else match l[k.toNat]? with
 |some y=>DQ y.2.2.2.1 a||DQ y.2.2.2.1 b
 |none=>false
def A7z(s:O2)(h:IR)(a:FZ)(c:FU)(pa:List DM)(k:Int)(w:List DM)(x y:Int)(hk:k<s.1.2.2.2.2.2.2.length):aM ((some s,h,a,c,pa,k,w),x,y)=some (I6 s.1.2.2.2.2.2.2 k x y):=by
 unfold aM I6;dsimp only;by_cases e:k<0
 .grind
 .rw[A9 e,A8,A8,A0];have⟨z,d,b⟩:=L8 (l:=s.1.2.2.2.2.2.2) (i:=k) oa hk;grind
def JV(R:List (DM×Bool))(wk:List DM):DM:=(wk.find? λf=>(DZ DR f R).getD false).getD []
theorem A80(s:O2)(h:IR)(a:FZ)(c:FU)(pa:List DM)(k:Int)(w:List DM)(z:w.length<=1099511627776):aO (some s,h,a,c,pa,k,w)=some (JV s.2.2.2.1 w):=by
 unfold aO;dsimp only;generalize l:((some s,h,a,c,pa,k,w):WU)=m
 have key:=F3 (r:=mP) (σ:=Unit) (Q:=λq:Sum Unit DM=>match q with| .inl _=>w.find? (λf=>(DZ DR f s.2.2.2.1).getD false)=none| .inr y=>w.find? (λf=>(DZ DR f s.2.2.2.1).getD false)=some y) w.length (λ_ i=>(m,w,(w.length:Int),i))
  (λi _=>(w.take i).find? (λf=>(DZ DR f s.2.2.2.1).getD false)=none) oa (λnext _ i hi d p=>?_) (λnext _ d=>?_) () oh
 .refine L5 (DN.2 (key.mono λq x=>?_));grind[JV,DO]
 .unfold mP;dsimp only;have b:=A1 hi;rw[E2,A6 hi,A7,ET b,A0,EY oa];have j:m.1=some s:=by rw[<-l]
  rw[j,A0];refine DP.2 ⟨λe=>DO.2 ?_,λe=>p () ?_⟩
  .have:w=w.take i++(w[i]::w.drop (i+1)):=by rw[<-BC hi,List.take_append_drop]
   grind
  .rw[GW b,List.find?_append,d,List.find?_cons,e];rfl
 simp_all[mP,E2,A9,AA,A8,AW,DO]
def APA{R:List (DM×Bool)}{w:List DM}(h:JV R w≠[]):JV R w∈w:=by
 unfold JV at h ⊢;cases e:w.find? λf=>(DZ DR f R).getD false<;>grind
def APB(p:JA)(H:PrB p)(ho:PrOk p)(A:List (DM×FZ))(C:List (DM×FU))(R:List (DM×Bool))(N:List ((DM×DM×Int)×Bool))(h:IR)(a:FZ)(c:FU)(pa d:List DM){x:Af}(Z:a.2.2.2.2.2.2[h.2.2.toNat]?=some x)(h0:0<=h.2.2)
 (K:d.length<=1099511627776)(J:∀f∈d,0<p.2.2.2.1.length):
 ∃F:Bool->Bool->Int×Int×DM×List OY,(∀B z,(F B z).2.2.2.length<=1/\∀w∈(F B z).2.2.2,w.2.1.length<=3000/\w.2.2.length<=3000)/\∀(l:List FM) (k:Int),k<l.length->S1 (some (GX p l,A,C,R,N),h,a,c,pa,k,d)=
  some (h.1,h.2.1,h.2.2,(F (I6 l k 3 4) (I6 l k 2 2)).1,(F (I6 l k 3 4) (I6 l k 2 2)).2.1,pa,(F (I6 l k 3 4) (I6 l k 2 2)).2.2.1,(F (I6 l k 3 4) (I6 l k 2 2)).2.2.2,k):=by
 obtain⟨O,I⟩:∃O,∀(s:Option O2) (k:Int),mQ (s,h,a,c,pa,k,d)=some O:=by
  have⟨r,Q,_⟩:=A7K.1 a.2.2.2.2.2.1 trivial;refine⟨bif DR a.2.2.2.2.2.1 []then 100 else r.1,λs k=>?_⟩;grind[mQ,DR]
 obtain⟨m,E⟩:∃m,∀(l:List FM) (k:Int),VZ (some (GX p l,A,C,R,N),h,a,c,pa,k,d)=some m:=by
  refine⟨(DQ (p.2.2.2.1.length:Int) 1&&decide ((0:Int)<(d.length:Int)))&&decide (((bif (DQ (p.2.2.2.1.length:Int) 1&&decide ((0:Int)<(d.length:Int)))then x.2.2.2.2 else []).length:Int)<=(d.length:Int)),λl k=>?_⟩;unfold VZ;dsimp only;rw[A0,A7y _ h a c pa k d Z h0,show(GX p l).2.2.2.1=p.2.2.2.1 from rfl];grind
 have j:∀(l:List FM) (k:Int),k<l.length->aR (some (GX p l,A,C,R,N),h,a,c,pa,k,d)=some (bif DQ (pa.length:Int) 0 then 1 else bif I6 l k 3 4 then 2 else bif !(DR (JV R d) [])then 6 else bif I6 l k 2 2 then 5 else bif m then 3 else 4):=λl k hk=>by
  refine AP9 rfl ?_ ?_ ?_ (E l k)
  .unfold aN;rw[A7z _ h a c pa k d 3 4 hk];rfl
  .grind[aP,A80]
  .unfold aQ;rw[A7z _ h a c pa k d 2 2 hk];rfl
 obtain⟨D,Y,L⟩:∃D:OY,(D.2.1.length<=3000/\D.2.2.length<=3000)/\(DR (JV R d) []=false->∃y b e,at? p.2.2.2.1 (0:Int)=some y/\aU (y,p.2.2.2.2.1,p.2.2.2.2.2.1,JV R d)=some (D,b,e)):=by
  cases e:DR (JV R d) []with
  |true=>exact⟨([],[],[]),⟨oh,oh⟩,λh=>oq⟩
  |false=>
   have G:JV R d≠[]:=by rw[E1]at e;simpa using e
   have V:=J _ (APA G);have⟨y,T,M⟩:=L8 (l:=p.2.2.2.1) (i:=0) (AS _) oa;have⟨⟨D,b,e⟩,Q,W⟩:=AOt (H.gr y (AL M)) p.2.2.2.2.1 H.f0 H.f1 (JV R d);grind
 refine ⟨λB z=>(bif DQ (pa.length:Int) 0 then 1 else bif B then 2 else bif !(DR (JV R d) []) then 6 else bif z then 5 else bif m then 3 else 4,O,
  bif DQ (bif DQ (pa.length:Int) 0 then 1 else bif B then 2 else bif !(DR (JV R d) [])then 6 else bif z then 5 else bif m then 3 else 4) 6 then JV R d else [],
  bif DQ (bif DQ (pa.length:Int) 0 then 1 else bif B then 2 else bif !(DR (JV R d) [])then 6 else bif z then 5 else bif m then 3 else 4) 6 then [D]else []),λB z=>?_,λl k hk=>?_⟩
 .grind
 unfold S1;rw[j l k hk,A0,I,A0];dsimp only;generalize X:(bif DQ (pa.length:Int) 0 then(1:Int)else bif I6 l k 3 4 then 2 else bif !(DR (JV R d) [])then 6 else bif I6 l k 2 2 then 5 else bif m then 3 else 4)=st;cases U:DQ st 6 with
 |false=>rfl
 |true=>
  have hz:DR (JV R d) []=false:=by
   cases hq:DR (JV R d) []with
   |false=>rfl
   |true=>
    exfalso;rw[DU]at U;grind
  have⟨y,b,e,T,Q⟩:=L hz;rw[A7,A80 _ h a c pa k d K,A0,A0,show(GX p l).2.2.2.1=p.2.2.2.1 from rfl,T,A0,A0,A0,show(GX p l).2.2.2.2.1=p.2.2.2.2.1 from rfl,show(GX p l).2.2.2.2.2.1=p.2.2.2.2.2.1 from rfl];grind
abbrev WV:=(FM->Bool)×(Bool->Bool->Int×Int×DM×List OY)×List DM
def IU(h:IR)(d:WV)(l:List FM)(k:Int):O3:=
 (h.1,h.2.1,h.2.2,(d.2.1 (I6 l k 3 4) (I6 l k 2 2)).1,(d.2.1 (I6 l k 3 4) (I6 l k 2 2)).2.1,d.2.2,(d.2.1 (I6 l k 3 4) (I6 l k 2 2)).2.2.1,(d.2.1 (I6 l k 3 4) (I6 l k 2 2)).2.2.2,k)
def WW(f:O3):Prop:=f.2.2.2.2.2.1.length<=1048576/\f.2.2.2.2.2.2.2.1.length<=1/\∀w∈f.2.2.2.2.2.2.2.1,w.2.1.length<=3000/\w.2.2.length<=3000
def A81{l:List FM}{ab:FM->Bool}{b:Int}(h:J1 l ab b):-1<=b/\b<(l.length:Int):=by
 rcases h with⟨rfl,_⟩|⟨k,y,rfl,h1,_⟩<;>grind
section
variable{p:JA}(hp:PrB p)(ho:PrOk p)
include hp ho
theorem APC{A:List (DM×FZ)}{C:List (DM×FU)}{R:List (DM×Bool)}{N:List ((DM×DM×Int)×Bool)}(L:∀a∈p.2.2.1.2.1,DZ DR a.1 A=some a)(M:∀c∈p.1.2.2.2.1,DZ DR c.1 C=some c){h:IR}(U:U2 p.2.2.1.2.1 p.1.2.2.2.1 h):
 ∃d:WV,(∀l k,WW (IU h d l k))/\∀l:List FM,l.length<=1048576->∃k,J1 l d.1 k/\((RZ (some (GX p l,A,C,R,N),h)).bind λX=>S1 X)=some (IU h d l k):=by
 obtain⟨a,G,J,_,i0,i1,c,H,K⟩:=U;obtain⟨x,y⟩:∃x,a.2.2.2.2.2.2[h.2.2.toNat]?=some x:=⟨_,A1 oa⟩;have b:=hp.bs a G;have z:=b.2.2.2.2.2.2 x (AL y);have⟨pr,s,I⟩:=AOh p.1 hp.bl h.2.1 p.2.1;have e:∀g∈p.2.2.2.1,g.2.2.1.length<=1048576:=λg T=>(hp.gr g T).f0
 have w:(O4 x.2.2.2.2 h.2.1 p.2.2.2.1).length<=1099511627776:=by
  have h1:=ho.gr;unfold O4;generalize p.2.2.2.1=E at h1 e;cases E with
  |nil=>simp
  |cons g E=>
   grind
 have⟨F,m,O⟩:=APB p hp ho A C R N h a c pr.1 (O4 x.2.2.2.2 h.2.1 p.2.2.2.1) y i0 w λf Q=>AP8 Q;refine⟨(U3 p.1.1 a c,F,pr.1),λl k=>⟨by show pr.1.length<=_;omega,m _ _⟩,λl V=>?_⟩;have⟨k,hk,j⟩:=AP5 (GX p l,A,C,R,N) a c b.2.1 (hp.bl.c c H).2.1 V;refine⟨k,j,?_⟩
 have W:RZ (some (GX p l,A,C,R,N),h)=some (some (GX p l,A,C,R,N),h,a,c,pr.1,k,O4 x.2.2.2.2 h.2.1 p.2.2.2.1):=by
  have B:=L a G;have D:=M c H;rw[J]at B;rw[K]at D;unfold RZ;dsimp only
  rw [A0,A0,A0,A0,B,D,D0,D0,show (GX p l).1=p.1 from rfl,show (GX p l).2.1=p.2.1 from rfl,s,A0,hk,A0,A0,show (GX p l).2.2.2.1=p.2.2.2.1 from rfl,
   AP7 _ h a c pr.1 k y i0 z.2.2.2.2.2.1 p.2.2.2.1 ho.gr e,A0]
 rw[W,A0];exact O l k (A81 j).2
end
def bR(l:List FM):Prop:=l.length<=2000/\∀s∈l,(s.1.length<=1048576/\s.2.1.length<=1048576)/\ON s=some 0
def APD(p:JA)(x:PrB p):Tot (NY p) (λr=>r.2.2≠0\/(bR p.2.2.2.2.2.2/\∃(a:List IR) (D:IR->WV),a.length<=100000/\(∀h∈a,∀l k,WW (IU h (D h) l k))/\∀l,bR l->∃(K:IR->Int) (s:Option O2),(∀h∈a,J1 l (D h).1 (K h))/\NY (GX p l)=some (s,a.map λh=>IU h (D h) l (K h),0))):=by
 have⟨e,Q,T⟩:=AOy p x;by_cases hz:e=0
 .subst hz;have⟨W,h2⟩:=T rfl;have⟨q,hq,X,Y⟩:=AOl x.bs x.bl x.bv;by_cases j:q.2=0
  .obtain⟨_,_,w⟩:=Y j;have⟨A,C,R,N,Z,hA,hC⟩:=AP3 p x W;have H:∀h∈q.1,∃d:WV,(∀l k,WW (IU h d l k))/\∀l:List FM,l.length<=1048576->∃k,J1 l d.1 k/\((RZ (some (GX p l,A,C,R,N),h)).bind λG=>S1 G)=some (IU h d l k):=λh b=>APC x W hA hC (w h b)
   have L:∃D:IR->WV,∀h∈q.1,(∀l k,WW (IU h (D h) l k))/\∀l:List FM,l.length<=1048576->∃k,J1 l (D h).1 k/\((RZ (some (GX p l,A,C,R,N),h)).bind λG=>S1 G)=some (IU h (D h) l k):=by
    classical
    refine⟨λh=>if b:h∈q.1 then Classical.choose (H h b)else(λ_=>false,λ_ _=>(0,0,[],[]),[]),λh b=>?_⟩;grind
   obtain⟨D,H⟩:=L
   have all:∀l,bR l->∃(K:IR->Int) (s:Option O2),(∀h∈q.1,J1 l (D h).1 (K h))/\NY (GX p l)=some (s,q.1.map λh=>IU h (D h) l (K h),0):=λl J=>by
    have I:∃K:IR->Int,∀h∈q.1,J1 l (D h).1 (K h)/\((RZ (some (GX p l,A,C,R,N),h)).bind λG=>S1 G)=some (IU h (D h) l (K h)):=by
     classical
     have h0:=λh b=>(H h b).2 l (by have:=J.1;omega);refine⟨λh=>if b:h∈q.1 then Classical.choose (h0 h b)else 0,λh b=>?_⟩;grind
    obtain⟨K,I⟩:=I;refine⟨K,some (GX p l,A,C,R,N),λh b=>(I h b).1,?_⟩;have O:=AOz Q J.1 (λs y=>(J.2 s y).1) λs y=>(J.2 s y).2;unfold NY;rw[O,A0,show(!(DQ (0:Int) 0))=false from rfl,A8,show aI ((GX p l).2.2.1,(GX p l).1)=some q from hq,A0,show(!(DQ q.2 0))=false from by rw[j];rfl,A8,Z l,A0];have key:=F3 (r:=nE) (σ:=List O3) (Q:=λr=>r=q.1.map λh=>IU h (D h) l (K h)) q.1.length (λo i=>(some (GX p l,A,C,R,N),o,q.1,(q.1.length:Int),i)) (λi o=>o=(q.1.take i).map λh=>IU h (D h) l (K h)) oa (λnext o i hi M hn=>?_) (λnext o M=>?_) [] oh
    .refine L5 (DN.2 (key.mono λr hr=>DO.2 (by rw[hr])))
    .unfold nE;dsimp only;have z:=A1 hi;have E:=(I _ (AK hi)).2;rw[E2,A6 hi,A7,ET z,A0,EY oa];have h3:o.length=i:=by rw[M,AX,BG];omega
     have⟨m,U,V⟩:=ME E;rw[U,A0,V,A0];refine DN.2 (F9.2 ⟨oc,hn _ ?_⟩);rw[GW z,DC,<-M];rfl
    simp_all[nE,E2,A9,AA,A8,AW,DO]
   have B:bR p.2.2.2.2.2.2:=⟨W.st,λs y=>⟨x.s1 s y,h2 s y⟩⟩;have⟨K,s,_,hf⟩:=all _ B;exact⟨_,hf,.inr ⟨B,q.1,D,X,λh b=>(H h b).1,all⟩⟩
  .refine⟨(none,[],q.2),?_,.inl j⟩;unfold NY;rw[Q,A0,show(!(DQ (0:Int) 0))=false from rfl,A8,hq,A0,show(!(DQ q.2 0))=true from by rw[DU];simp[j],A7]
 .refine⟨(none,[],e),?_,.inl hz⟩;unfold NY;rw[Q,A0,show(!(DQ e 0))=true from by rw[DU];simp[hz],A7]
theorem APE:aV ()=some true:=oe
theorem WX(a:DM):DR a a=true:=by rw[E1];simp
theorem WY(a:Int):DQ a a=true:=by rw[DU];simp
def APF(l:List bP)(h:l.length<=1048576):nM (l,l)=some true:=by
 unfold nM;dsimp only;rw[WY,B_,A8];refine L5 (DN.2 ((F3 (r:=nL) (σ:=Unit) (Q:=λq=>q=.inl ()) l.length (λ_ i=>(l,l,(l.length:Int),i)) (λ_ _=>True) oa (λnext _ i hi _ b=>?_) (λnext _ _=>?_) () trivial).mono λq d=>by subst d;exact DO.2 rfl))
 .unfold nL;dsimp only;have a:=ET (A1 hi);rw[E2,A6 hi,A7,a,A0,A0,EY oa,WX,WY,WX];exact b () trivial
 .unfold nL;dsimp only;rw[E2,A9 (AA _),A8];exact DO.2 rfl
def APG(l:List (DM×DM))(h:l.length<=1048576):nO (l,l)=some true:=by
 unfold nO;dsimp only;rw[WY,B_,A8];refine L5 (DN.2 ((F3 (r:=nN) (σ:=Unit) (Q:=λq=>q=.inl ()) l.length (λ_ i=>(l,l,(l.length:Int),i)) (λ_ _=>True) oa (λnext _ i hi _ b=>?_) (λnext _ _=>?_) () trivial).mono λq d=>by subst d;exact DO.2 rfl))
 .unfold nN;dsimp only;have a:=ET (A1 hi);rw[E2,A6 hi,A7,a,A0,A0,EY oa,WX,WX];exact b () trivial
 .unfold nN;dsimp only;rw[E2,A9 (AA _),A8];exact DO.2 rfl
def APH(w:OY)(h1:w.2.1.length<=3000)(h:w.2.2.length<=3000):TQ (w,w)=some true:=by
 unfold TQ;dsimp only;rw[WX,A7,APF _ oa,A0,Bool.and_self,A7,APG _ oa,A0];rfl
theorem API(l:List OY)(h:l.length<=1)(e:∀w∈l,w.2.1.length<=3000/\w.2.2.length<=3000):aW (l,l,(λx=>(TQ x).bind λr=>some r))=some true:=by
 unfold aW;dsimp only;rw[WY,B_,A8];refine L5 (DN.2 ((F3 (r:=nK) (σ:=Unit) (Q:=λq=>q=.inl ()) l.length (λ_ i=>(l,(λx=>(TQ x).bind λr=>some r),l,(l.length:Int),i)) (λ_ _=>True) oa (λnext _ i hi _ b=>?_) (λnext _ _=>?_) () trivial).mono λq d=>by subst d;exact DO.2 rfl))
 .unfold nK;dsimp only;have a:=ET (A1 hi);have⟨j,m⟩:=e _ (AK hi);rw[E2,A6 hi,A7,a,A0,A0,EY oa,APH _ j m];exact b () trivial
 .unfold nK;dsimp only;rw[E2,A9 (AA _),A8];exact DO.2 rfl
def APJ(f:O3)(h:WW f):WA (f,f)=some true:=by
 obtain⟨h1,a,b⟩:=h;grind[WA,WX,WY,ANK,bind,aW,TQ,API]
def APK(l:List O3)(h:l.length<=1048576)(b:∀f∈l,WW f):nI (l,l,(λx=>(WA x).bind λr=>some r))=some true:=by
 unfold nI;dsimp only;rw[WY,B_,A8];refine L5 (DN.2 ((F3 (r:=nH) (σ:=Unit) (Q:=λq=>q=.inl ()) l.length (λ_ i=>(l,(λx=>(WA x).bind λr=>some r),l,(l.length:Int),i)) (λ_ _=>True) oa (λnext _ i hi _ d=>?_) (λnext _ _=>?_) () trivial).mono λq e=>by subst e;exact DO.2 rfl))
 .unfold nH;dsimp only;have a:=ET (A1 hi);rw[E2,A6 hi,A7,a,A0,A0,EY oa,APJ _ (b _ (AK hi))];exact d () trivial
 .unfold nH;dsimp only;rw[E2,A9 (AA _),A8];exact DO.2 rfl
def O_(n:Int)(f:O3):O3:=if n<=f.2.2.2.2.2.2.2.2 then(f.1,f.2.1,f.2.2.1,f.2.2.2.1,f.2.2.2.2.1,f.2.2.2.2.2.1,f.2.2.2.2.2.2.1,f.2.2.2.2.2.2.2.1,f.2.2.2.2.2.2.2.2+1)else f
def APL(n:Int)(L:List O3)(A:L.length<=1048576)(m:∀f∈L,-1<=f.2.2.2.2.2.2.2.2/\f.2.2.2.2.2.2.2.2<=1048576):y_ (n,L,(L.length:Int),0)=some (L.map (O_ n)):=by
 refine L5 (F3 (r:=nP) (σ:=List O3) L.length (λo i=>(n,o,(L.length:Int),i)) (λi o=>o=(L.take i).map (O_ n)++L.drop i) oa (λnext o i hi d s=>?_) (λnext o d=>?_) L oh)
 .unfold nP;dsimp only;have w:o.length=L.length:=by rw[d,AI,AX,BG,BY];omega
  have e:=A1 hi
  have l:o.getD ((i:Int).toNat) (([]:List UInt8),(([]:List UInt8),((0:Int),((0:Int),((0:Int),(([]:List (List UInt8)),(([]:List UInt8),(([]:List OY),(0:Int)))))))))=L[i]:=by
   rw[BR,AF,d,BA oc,AX,BG,CP oa,Nat.sub_self,BC hi];rfl
  have⟨y,z⟩:=m _ (AK hi);rw[E2,A6 hi,A7,EY oa,l];have a:∀{x:Type} (f:Unit->Option x),((in? o.length (i:Int)).bind f)=f ():=λf=>by grind[A7P]
  rw[a]
  have b:∀f:O3,f=O_ n L[i]->o.set i f=(L.take (i+1)).map (O_ n)++L.drop (i+1):=λf p=>by
   rw[GW e,DC,d,p];rw[List.set_append_right _ _ oc,AX,BG,CP oa,Nat.sub_self,BC hi,List.set_cons_zero,C8];rfl
  refine DP.2 ⟨λh=>?_,λh=>s o ?_⟩
  .have h:=AC h;rw[a,a,EI oa oa,BR];simp_all[O_,if_pos]
  .have h:=AG h;rw[<-b L[i] (by unfold O_;rw[if_neg h])];refine(BJ λj=>?_);rw[List.getElem?_set];grind
 .unfold nP;simp_all[E2,A9,AA,A8,AW,List.drop_length,CN,DO]
def APM(L:List O3)(p:L.length<=1048576):Tot (yX (([]:List Int),L,(L.length:Int),0)) (λo=>o.length<=L.length/\∀k,k∈o<->0<=k/\∃f∈L,f.2.2.2.2.2.2.2.2=k):=by
 refine F3 (r:=nF) (σ:=List Int) L.length (λo i=>(o,L,(L.length:Int),i)) (λi o=>o.length<=i/\∀k,k∈o<->0<=k/\∃f∈L.take i,f.2.2.2.2.2.2.2.2=k) oa (λnext o i hi d b=>?_) (λnext o d=>?_) [] ⟨AD _,oh⟩
 .obtain⟨s,j⟩:=d;unfold nF;dsimp only;have a:=A1 hi;rw[E2,A6 hi,A7,A7P hi,A0,EY oa]
  have m:L.getD ((i:Int).toNat) (([]:List UInt8),(([]:List UInt8),((0:Int),((0:Int),((0:Int),(([]:List (List UInt8)),(([]:List UInt8),(([]:List OY),(0:Int)))))))))=L[i]:=by
   rw[BR,AF,a];rfl
  rw[m];rw[GW a]at b;refine DP.2 ⟨λh=>DN.2 (F9.2 ⟨oc,b _ ⟨oc,λk=>?_⟩⟩),λh=>b _ ⟨oa,λk=>?_⟩⟩
  .have h:=AC h;rw[AZ,AP,j];constructor
   .rintro(⟨h1,f,e,l⟩|rfl)<;>grind
   grind
  .have h:=AG h;rw[j];constructor
   .rintro⟨h1,f,e,l⟩;grind
   grind
 simp_all[nF,E2,A9,AA,A8,AW,DO]
def A82{l:List FM}{n:Nat}{k a b:Int}(d:k≠(n:Int)):I6 (l.eraseIdx n) (dn n k) a b=I6 l k a b:=by
 unfold I6 dn;by_cases h:(n:Int)<k
 .rw[if_pos h,A9 oa,A9 oa,List.getElem?_eraseIdx,if_neg oa,show(k-1).toNat+1=k.toNat by omega]
 .rw[if_neg h];grind
def APN{h:IR}{d:WV}{l:List FM}{n:Nat}{k:Int}(a:k≠(n:Int)):O_ (n:Int) (IU h d (l.eraseIdx n) (dn n k))=IU h d l k:=by
 unfold IU;rw[A82 a,A82 a];unfold O_ dn;grind
def APO(p:JA)(n:Int)(hp:PrB p):nQ (p,n)=some true:=by
 have⟨r,M,m⟩:=APD p hp;have hF:S2 p=some (r.2.1,r.2.2):=by unfold S2;rw[M,A0]
 unfold nQ;dsimp only;rw[hF,A0,APE];by_cases X:r.2.2=0
 .obtain⟨w,a,D,h4,h3,l⟩:=m.resolve_left (λh=>h X);have⟨K,s,hK,d⟩:=l _ w;have d:NY p=some (s,a.map λh=>IU h (D h) p.2.2.2.2.2.2 (K h),0):=d;rw[M]at d;have J:=A2 d;have A:(a.map λh=>IU h (D h) p.2.2.2.2.2.2 (K h)).length<=1048576:=by rw[AX];omega
  have⟨o,ho,U,V⟩:=APM _ A
  have hN:W0 p=some (Lib.compact (o.mergeSort λx y=>decide (x<=y)),0):=by
   unfold W0 slices_Sort_int slices_Compact_int;rw[M,A0,J,show(!(DQ ((0:Int)) 0))=false from rfl,A8,ho,A0,A0,A0]
  rw[hN,A0,J];dsimp only;rw[show DQ (0:Int) 0=true from rfl,B_,CD,CD]
  have E:(Lib.compact (o.mergeSort λx y=>decide (x<=y))).length<=1099511627776:=by
   have h1:=A0G (o.mergeSort λx y=>decide (x<=y));rw[List.length_mergeSort]at h1;rw[AX]at U;omega
  refine L5 (DN.2 (Tot.mono (P:=λb=>b=true\/(decide (n<0)||decide ((p.2.2.2.2.2.2.length:Int)<=n))=true\/n ∉ Lib.compact (o.mergeSort λx y=>decide (x<=y))) (DP.2 ⟨λ_=>?_,λh=>DO.2 (.inr (.inl oc))⟩) λb B=>DP.2 ⟨λ_=>DN.2 (DO.2 (DO.2 rfl)),λC=>?_⟩))
  .grind[A7e,DO,Lib.compact,decide,decide_eq_true]
  rw[BL,BL]at C;obtain⟨⟨Y,Z⟩,c3⟩:=C
  have T:n ∉ Lib.compact (o.mergeSort λx y=>decide (x<=y)):=by
   rcases B with B|B|B
   .grind
   .grind
   .exact B
  have Y:=AG Y;have Z:=AG Z;have en:((n.toNat:Nat):Int)=n:=oa
  have h5:∀ h∈a,K h≠n:=λh j e=>T (by
   rw[A0F,(List.mergeSort_perm _ _).mem_iff,V];exact⟨oa,_,List.mem_map_of_mem j,e⟩)
  have W:=w.1
  have E:nG p.2.2.2.2.2.2=some p.2.2.2.2.2.2:=by
   unfold nG yY;refine L5 (DN.2 (F9.2 ⟨oc,DO.2 (CU _)⟩))
  have G:fG (p.2.2.2.2.2.2,n,IntKind.i64.wrap (n+1))=some (p.2.2.2.2.2.2.eraseIdx n.toNat):=by
   unfold fG fF;dsimp only;rw[EI oa oa,if_pos ⟨oa,oa,oa⟩,List.eraseIdx_eq_take_drop_succ,show(n+1).toNat=n.toNat+1 by omega]
  have L:bR (p.2.2.2.2.2.2.eraseIdx n.toNat):=⟨AM (List.length_eraseIdx_le _ _) W,λs hs=>w.2 s (List.mem_of_mem_eraseIdx hs)⟩;have⟨K',s',z,H⟩:=l _ L;have O:∀h∈a,K' h=dn n.toNat (K h):=λh j=>AOr (z h j) (AOs (hK h j) oc)
  have N:S2 (p.1,(p.2.1,(p.2.2.1,(p.2.2.2.1,(p.2.2.2.2.1,(p.2.2.2.2.2.1,p.2.2.2.2.2.2.eraseIdx n.toNat))))))=some (a.map λh=>IU h (D h) (p.2.2.2.2.2.2.eraseIdx n.toNat) (K' h),0):=by
   unfold S2;rw[show NY (p.1,(p.2.1,(p.2.2.1,(p.2.2.2.1,(p.2.2.2.2.1,(p.2.2.2.2.2.1,p.2.2.2.2.2.2.eraseIdx n.toNat))))))=_ from H,A0]
  rw[E,A0,G,A0,N,A0];dsimp only
  have R:=APL n (a.map λh=>IU h (D h) (p.2.2.2.2.2.2.eraseIdx n.toNat) (K' h)) oc (λf Q=>by
   obtain⟨h,j,rfl⟩:=C1.1 Q;have h1:=A81 (z h j);have h2:=List.length_eraseIdx_le p.2.2.2.2.2.2 n.toNat;show -1<=K' h/\K' h<=1048576;omega)
  have I:(a.map λh=>IU h (D h) (p.2.2.2.2.2.2.eraseIdx n.toNat) (K' h)).map (O_ n)=a.map λh=>IU h (D h) p.2.2.2.2.2.2 (K h):=by
   rw[List.map_map];refine List.map_congr_left λh j=>?_;show O_ n (IU h (D h) _ (K' h))=_;rw[O h j,<-en];exact APN oc
  rw [R,I,A0,show DQ (0:Int) 0=true from rfl,A7,APK _ A λf Q=>by
   obtain⟨h,j,rfl⟩:=C1.1 Q;grind]
  exact DO.2 rfl
 .obtain⟨x,hx⟩:∃x,W0 p=some x:=by
   refine⟨([],r.2.2),?_⟩;unfold W0;rw[M,A0,show(!(DQ r.2.2 0))=true from by rw[DU];simp[X],A7]
  rw[hx,A0,show(!(DQ r.2.2 0))=true from by rw[DU];simp[X]];rfl
end Go.Ev.Pv
