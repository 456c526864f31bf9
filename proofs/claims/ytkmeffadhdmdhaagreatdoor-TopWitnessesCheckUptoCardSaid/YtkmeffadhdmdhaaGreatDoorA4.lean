/-
  The law as plain Lean, third part: reaching, the findings, and the law.
-/
import Derived.Test.YtkmeffadhdmdhaaGreatDoorA2
set_option linter.all false
set_option maxRecDepth 100000
namespace Go.Ev.Pv
variable{α β:Type}{n i k:Nat}{l:KX DO}{m:KX (DO×Int)}{j:Int}{md:KX X5}{P:Nat->Int->Prop}{nx:KX (KX Int)}{o q r:KX Int}
abbrev UT:=DO×Int×Int
abbrev I3:=DO×KX (Int×Int)×Int
abbrev J3:=Int×X5
abbrev FN:=KX (J3×X5)
def A8Q{d:Type}{f:α->β->X1 (Sum β d)}(J:β->Prop)(Q:d->Prop):∀(l:KX α),(∀a∈l,∀u,J u->Z1 (f a u) (λz=>match z with| .inl v=>J v| .inr c=>Q c))->∀u,J u->Z1 (FI f l u) (λz=>match z with| .inl v=>J v| .inr c=>Q c):=by
 intro l;induction l with
 |nil=>intro _ u b;exact DQ.2 b
 |cons a l j=>intro h u b;refine DP.2 ((h a AF u b).mono λz e=>?_);grind[List.mem_cons_of_mem,DQ]
theorem pS(r:UT)(h:0<=r.2.1):Z1 (LG (some r)) (λc=>c=0\/r.2.1<r.1.length):=
 (UN.1 (some r) ⟨r,rfl,h⟩).mono λc a=>a.2.imp id λ⟨y,b,d⟩=>oc
def ItR(s:DO)(a:Int)(q:Sum (UT×KX (Int×Int)) (UT×KX (Int×Int)×X5)):Prop:=match q with
 | .inl y=>y.1.1=s/\a<=y.1.2.1/\y.1.2.1<=s.length/\(y.2.length:Int)+a<=y.1.2.1
 | .inr y=>y.1.1=s/\a<=y.1.2.1/\y.1.2.1<=s.length/\y.2.1=[]/\(y.2.2=true->a+1<=y.1.2.1)
def PtR(s:DO)(q:Sum (UT×I3×I3) (UT×I3)):Prop:=match q with
 | .inl y=>y.1.1=s/\0<=y.1.2.1/\y.1.2.1<=s.length/\(y.2.2.2.1.length:Int)<=y.1.2.1
 | .inr y=>y.2.2.1.length<=s.length
def zh{p:Prop}(h:p:=by grind[DP,FF,List.length_singleton,List.length_append]):p:=h
def A8R(s:DO)(a b:Int)(V:s.length<=1048576)(h0:0<=a)(O:a<=s.length)(I:X5):
 Z1 (aZ ((s,(a,b)),I)) (λq=>q.2.2.1=s/\a<=q.2.2.2.1/\q.2.2.2.1<=s.length/\(q.1.length:Int)+a<=q.2.2.2.1/\(q.2.1=true->a+1<=q.2.2.2.1)):=by
 unfold aZ;dsimp only;refine DP.2 (Z1.mono (P:=ItR s a) ?_ λq p=>?_)
 .refine EV (R:=ItR s a) (λx:UT×X5×KX (Int×Int)=>x.1.1=s/\a<=x.1.2.1/\x.1.2.1<=s.length/\(x.2.2.length:Int)+a<=x.1.2.1) (λx=>((s.length:Int)-x.1.2.1).toNat) (λnext x Q U=>?_) fuel ((s,(a,b)),I,[]) ⟨rfl,AV _,O,oh⟩ (by grind[fuel]);obtain⟨⟨m,at_,d⟩,I,l⟩:=x;obtain⟨i1,M,H,N⟩:=Q;dsimp only at i1 M H N U;subst i1;unfold A6B;dsimp only;refine DR.2 ⟨λ_=>?_,λ_=>DQ.2 ⟨rfl,M,H,N⟩⟩;refine DP.2 ((pS (m,(at_,d)) oc).mono λc K=>?_);dsimp only at K;rw[DX];refine DR.2 ⟨λ_=>?_,λA=>?_⟩
  .refine DP.2 ((A7T.1 (m,(at_,d)) ⟨V,oc,H⟩).mono λq p=>?_);obtain⟨j,w,C,E⟩:=p;dsimp only at j w C E;refine DR.2 ⟨λ_=>DQ.2 ⟨j,oc,C,oc⟩,λR=>?_⟩;exact zh
  .have A:c=42:=by simpa using A
   have T:at_<m.length:=K.resolve_left oa;rw[EJ (n:=at_+1) oa oa];refine DP.2 ((pS (m,(at_+1,d)) oc).mono λW B=>?_);dsimp only at B;rw[DX];refine DR.2 ⟨λJ=>?_,λ_=>?_⟩
   .have J:=AC J;have L:at_+1<m.length:=B.resolve_left oa;refine DP.2 (Z1.mono (P:=λz=>z.length+(at_+1).toNat<=m.length\/z=[]) (DR.2 ⟨λ_=>HY.2 ⟨⟨oa,oa,AV _⟩,.inl oc⟩,λ_=>DQ.2 (.inr rfl)⟩) λz G=>?_);refine DP.2 (Z1.mono (P:=λr=>r=true->2<=z.length) (DR.2 ⟨λ_=>(A7k.1 (z,[42,47]) trivial).mono λr D h=>by simpa using D h,λ_=>DQ.2 λh=>om⟩) λr D=>?_);refine DR.2 ⟨λ_=>?_,λR=>?_⟩
    .refine DP.2 ((QY.1 ((m,(at_+1,d)),at_+1) trivial).mono λq p=>DQ.2 ?_);obtain⟨j,w,_⟩:=p;dsimp only at j w;exact⟨j,oc,oc,rfl,λh=>om⟩
    .have D:=D (by grind);rw[EJ oa oa];have:z≠[]:=λe=>oc;have G:=G.resolve_right this;exact DQ.2 ⟨rfl,oc,oc,rfl,λ_=>oc⟩
   .refine DP.2 (FF.2 ⟨oc,?_⟩);grind
 .cases q with
  |inl y=>obtain⟨j,w,C,E⟩:=p;dsimp only;refine DR.2 ⟨λ_=>?_,λ_=>DQ.2 ⟨j,w,C,E,λh=>om⟩⟩;refine DP.2 ((QY.1 (y.1,y.1.2.1) trivial).mono λz G=>DQ.2 ?_);grind
  |inr y=>obtain⟨j,w,C,E,X⟩:=p;grind[DQ,List.length_nil]
def AOx(s:DO)(I:s.length<=1048576)(b:Int):Z1 (m8 (s,(0,b))) (λq=>q.1.2.1.length<=s.length+1):=by
 unfold m8;refine DP.2 ((A7R.1 ((s,(0,b)),true) ⟨I,AV _,oh⟩).mono λr1 H=>?_);obtain⟨k,s1,T,U⟩:=r1;obtain⟨M,N,O,_⟩:=H;dsimp only at M N O ⊢;subst M;refine DP.2 (Z1.mono (P:=PtR s1) ?_ λq p=>?_)
 .refine EV (R:=PtR s1) (λx:UT×I3×I3=>x.1.1=s1/\0<=x.1.2.1/\x.1.2.1<=s1.length/\(x.2.2.2.1.length:Int)<=x.1.2.1) (λx=>((s1.length:Int)-x.1.2.1).toNat) (λnext x V W=>?_) fuel ((s1,(T,U)),([],([],0)),(k,([],0))) ⟨rfl,N,O,by assumption⟩ (by grind[fuel]);obtain⟨⟨s',at_,E⟩,t2,Y,R,X⟩:=x;obtain⟨i1,J,K,Q⟩:=V;dsimp only at i1 J K Q W;subst i1;unfold A6D;dsimp only;refine DR.2 ⟨λ_=>?_,λ_=>DQ.2 ⟨rfl,J,K,Q⟩⟩;refine DP.2 ((A8R s' at_ E I J K true).mono λq p=>?_);obtain⟨l,dp,d,a,A⟩:=q;obtain⟨w,C,D,L,Z⟩:=p;dsimp only at w C D L Z ⊢;subst w;refine DR.2 ⟨λ_=>DQ.2 (by show R.length<=_;omega),λ_=>?_⟩;refine DP.2 (Z1.mono (P:=λz=>(z.2.1.length:Int)<=a) ?_ λz B=>?_)
  .unfold yZ;dsimp only;refine DR.2 ⟨λh=>DP.2 (FF.2 ⟨oc,DQ.2 ?_⟩),λh=>DP.2 (FF.2 ⟨oa,DQ.2 ?_⟩)⟩
   .grind
   grind
  .refine DP.2 ((pS (d,(a,A)) oc).mono λc m=>?_);dsimp only at m;rw[DX];refine DR.2 ⟨λ_=>DQ.2 ⟨rfl,oc,D,B⟩,λe=>?_⟩;have e:c=47:=by simpa using e
   have G:a<d.length:=m.resolve_left oa;rw[EJ (n:=a+1) oa oa];refine DR.2 ⟨λ_=>DP.2 (FF.2 ⟨oc,?_⟩),λ_=>?_⟩
   .grind
   grind
 .cases q with
  |inr y=>exact DQ.2 (Nat.le_succ_of_le p)
  |inl y=>
   obtain⟨⟨d,a,A⟩,t2,Y,R,X⟩:=y;obtain⟨w,C,D,L⟩:=p;dsimp only at w C D L ⊢;subst w;refine DP.2 (Z1.mono (P:=λz=>z.2.2.1.length<=d.length+1) ?_ λz B=>?_)
   .unfold y_;dsimp only;refine DR.2 ⟨λ_=>DQ.2 oc,λ_=>DR.2 ⟨λ_=>DP.2 (FF.2 ⟨oc,DQ.2 oc⟩),λ_=>?_⟩⟩;refine DP.2 ((pS (d,(a,A)) C).mono λc m=>?_);dsimp only at m;rw[DX];refine DR.2 ⟨λj=>?_,λ_=>DQ.2 oc⟩;have j:=AC j;have G:a<d.length:=m.resolve_left oa;rw[EJ (n:=a+1) oa oa];refine DP.2 ((A8R d (a+1) A I oa oa false).mono λq p=>?_);grind[DP,FF,List.length_singleton,List.length_append,DQ]
   .refine DR.2 ⟨λ_=>DP.2 ((QY.1 _ trivial).mono λ_ _=>DQ.2 B),λ_=>DQ.2 B⟩
def A8S(s:DO):Z1 (a_ s) (λq=>q.1.2.1.length<=3001):=by unfold a_;refine DR.2 ⟨λ_=>DQ.2 oh,λh=>?_⟩;have h:=AI h;refine DP.2 ((AOx s oa (-1)).mono λr a=>DR.2 ⟨λ_=>DQ.2 oh,λ_=>?_⟩);refine DP.2 (Z1.mono (P:=λ_=>True) (DR.2 ⟨λ_=>(A7_.1 _ trivial).mono λ_ _=>trivial,λ_=>DQ.2 trivial⟩) λz _=>?_);exact DR.2 ⟨λ_=>DQ.2 oh,λ_=>DR.2 ⟨λ_=>DQ.2 oh,λ_=>DQ.2 oc⟩⟩
def AOy(s:DO):∃r,m9 s=some r:=by have⟨r,h,_⟩:=A8S s;simp_all[m9,A0]
def GJ(x y:J3):X5:=DT x.1 y.1&&IE x.2 y.2
theorem SY(x y:J3):GJ x y=decide (x=y):=by grind[GJ,DX,IE]
def A0v [DecidableEq α]{eq:α->α->X5}(h:∀x y,eq x y=decide (x=y))(k:α)(v:β):∀m:KX (α×β),(EE eq k v m).map (·.1)=if k∈m.map (·.1)then m.map (·.1)else m.map (·.1)++[k]:=by
 intro m;induction m with
 |nil=>rfl
 |cons a m b=>simp only[EE];grind
def AOz{eq:α->α->X5}{k:α}{v:β}:∀{m:KX (α×β)} {e:α×β},e∈EE eq k v m->e=(k,v)\/e∈m:=by
 intro m;induction m with
 |nil=>intro e h;exact .inl (AO.1 h)
 |cons a m b=>intro e h;simp only[EE]at h;grind
structure Sp(n:Nat)(l:FN):Prop where
 tr:∀e∈l,e.2=true/\0<=e.1.1/\e.1.1<=n
 nd:(l.map (·.1)).Nodup
def Sp.nil:Sp n []:=⟨λe h=>(om),AW⟩
def Sp.put{l:FN}(h:Sp n l){x:J3}(h0:0<=x.1)(j:x.1<=n):Sp n (EE GJ x true l):=by
 refine⟨λe d=>?_,?_⟩
 .rcases AOz d with rfl|d
  .grind
  .exact h.tr e d
 .rw[A0v SY];by_cases e:x∈l.map (·.1)
  .rw[if_pos e];exact h.nd
  .rw[if_neg e];exact B2.2 ⟨h.nd,oh,λa m b p=>oc⟩
def Sp.few{l:FN}(h:Sp n l):l.length<=2*(n+1):=by
 have:=List.Nodup.length_le_of_subset h.nd (l₂:=(List.range (n+1)).flatMap λi:Nat=>[((i:Int),false),((i:Int),true)]) λx m=>by obtain⟨e,j,rfl⟩:=BP.1 m;have⟨_,h0,s⟩:=h.tr e j;refine List.mem_flatMap.2 ⟨e.1.1.toNat,CC.2 oa,?_⟩;have d:((e.1.1.toNat:Nat):Int)=e.1.1:=oa;rw[d];obtain⟨⟨a,b⟩,c⟩:=e;cases b<;>simp
 rw[AZ,List.length_flatMap]at this;have p:((List.range (n+1)).map λi:Nat=>[((i:Int),false),((i:Int),true)].length).sum=2*(n+1):=by simp[List.map_const',D0]
 omega
def K8(o:FN)(u:FN):FN:=o.foldl (λm e=>EE GJ e.1 true m) u
theorem pT:∀(o u:FN),FI SM o u=some (.inl (K8 o u)):=by
 intro o;induction o with
 |nil=>intro u;rfl
 |cons k o a=>intro u;exact a _
theorem A8T:∀(o u:FN) (x:J3),x∈(K8 o u).map (·.1)<->x∈o.map (·.1)\/x∈u.map (·.1):=by
 intro o;induction o with
 |nil=>intro u x;exact⟨.inr,λh=>h.elim (λh=>(om)) id⟩
 |cons k o a=>intro u x;show x∈(K8 o (EE GJ k.1 true u)).map (·.1)<->_;rw[a,A0v SY,CT,B1];grind
def AP0:∀{o u:FN},(∀e∈o,0<=e.1.1/\e.1.1<=n)->Sp n u->Sp n (K8 o u):=by
 intro o;induction o with
 |nil=>intro u _ h;exact h
 |cons k o d=>intro u a h;exact d (λe b=>a e (AP _ b)) (h.put (a k AF).1 (a k AF).2)
theorem A8U(l:FN)(x:J3):mZ (l,x)=some (K8 l [(x,true)]):=by unfold mZ;dsimp only;rw[show(EE (λ(x y:Int×X5)=>DT x.1 y.1&&IE x.2 y.2) x true ([]:KX ((Int×X5)×X5)))=[(x,true)]from rfl,pT,A0]
def A8V{l:FN}(h:Sp n l){x:J3}(h0:0<=x.1)(b:x.1<=n):Sp n (K8 l [(x,true)]):=
 AP0 (λe a=>(h.tr e a).2) ⟨λe a=>oc,oh⟩
def AP1{l:FN}(h:Sp n l){x:J3}(h0:0<=x.1)(a:x.1<=n)(e:x ∉ l.map (·.1)):(K8 l [(x,true)]).length=l.length+1:=by
 have d:=A8V h h0 a;have b:((K8 l [(x,true)]).map (·.1)).Perm (x::l.map (·.1)):=by refine(List.perm_ext_iff_of_nodup d.nd (AY.2 ⟨e,h.nd⟩)).2 λy=>?_;rw[A8T,B1];simp[or_comm]
 have:=b.length_eq;grind
def AP2{l:FN}{x:J3}(h:∀e∈l,e.2=true):(DY GJ x l).getD false=decide (x∈l.map (·.1)):=by
 induction l with
 |nil=>rfl
 |cons a l b=>simp only[DY];rw[SY,CT];grind
section
variable(p:I3)(hn:p.2.1.length<=100000)
include hn
theorem A8W(l:FN)(h:Sp p.2.1.length l):Z1 (bE (p,l)) (λr=>Sp p.2.1.length r):=by
 unfold bE;dsimp only;refine DP.2 (Z1.mono (P:=λr=>Sp p.2.1.length r) ?_ λr K=>DQ.2 K);refine EV (R:=λr=>Sp p.2.1.length r) (λx:FN×I3×X5=>Sp p.2.1.length x.1/\x.2.1=p) (λx=>if x.2.2=true then 2*(p.2.1.length+1)+1-x.1.length else 0) (λnext x H d=>?_) fuel (l,p,true) ⟨h,rfl⟩ (by unfold fuel;grind);obtain⟨l,T,G⟩:=x;obtain⟨i1,y⟩:=H;have y:=y.symm;dsimp only at i1 y d;subst y;unfold A6T;dsimp only;refine DR.2 ⟨λa=>?_,λ_=>DQ.2 i1⟩;have a:G=true:=a;subst a;rw[if_pos rfl]at d;have key:=A8Q (f:=M5) (λu:FN×I3×X5=>Sp p.2.1.length u.1/\u.2.1=p/\l.length<=u.1.length/\(u.2.2=true->l.length<u.1.length)) (λ_=>False) l (λk hk u L=>?_) (l,p,false) ⟨i1,rfl,AD _,λh=>om⟩
 .refine DP.2 (key.mono λz E=>?_);cases z with
  |inr c=>exact E.elim
  |inl v=>obtain⟨N,O,Y,Z⟩:=E;refine d _ ⟨N,O⟩ ?_;dsimp only;have R:=i1.few;grind
 .obtain⟨M,U,V⟩:=u;obtain⟨j,A,C,D⟩:=L;have A:=A.symm;dsimp only at j A C D;subst A;have⟨_,k0,k1⟩:=i1.tr k hk;unfold M5;dsimp only;have m:∀(b:X5),(b=true->k.1.1<p.2.1.length)->Z1 (bif b then at? p.2.1 k.1.1 else some ((0:Int),(0:Int))) (λ_=>True):=λb w=>DR.2 ⟨λh=>EL.2 ⟨⟨k0,w h⟩,λ_ _=>trivial⟩,λ_=>DQ.2 trivial⟩;refine DP.2 ((m _ λh=>?_).mono λW _=>DP.2 ((m _ λh=>?_).mono λX _=>DR.2 ⟨λ_=>DQ.2 ⟨j,rfl,C,D⟩,λw=>?_⟩))
  .grind
  .grind
  .rw[BQ,BQ]at w;have J:=AI w.1.2;rw[EJ (n:=k.1.1+1) oa oa];have s:=AP2 (x:=(k.1.1+1,false)) λe I=>(j.tr e I).1;unfold GJ at s;rw[s];refine DR.2 ⟨λB=>?_,λ_=>DQ.2 ⟨j,rfl,C,D⟩⟩;have B:(k.1.1+1,false) ∉ M.map (·.1):=by simpa using B
   rw[A8U,A0];have Q:=AP1 j (x:=(k.1.1+1,false)) oa oa B;exact DQ.2 ⟨A8V j oa oa,rfl,oc,λ_=>oc⟩
theorem AP3(x:J3)(h0:0<=x.1)(sg:Int):Z1 (OC (p,x,sg)) (λr=>0<=r.1.1/\(r.1.1:Int)<=p.2.1.length):=by
 unfold OC;dsimp only;refine DR.2 ⟨λ_=>DQ.2 ⟨AV _,oh⟩,λh=>?_⟩;have h:=AI h;rw[EJ (n:=x.1+1) oa oa];refine DP.2 (EL.2 ⟨⟨h0,oa⟩,λy _=>?_⟩)
 repeat' first
  |(with_reducible first|refine DR.2 ⟨λ_=>?_,λ_=>?_⟩|refine DQ.2 ?_)
 all_goals exact⟨oq,oq⟩
theorem AP4(l:FN)(h:Sp p.2.1.length l)(sg:Int):Z1 (nE (p,l,sg)) (λr=>Sp p.2.1.length r):=by
 unfold nE;dsimp only;have key:=A8Q (f:=M6) (λu:Int×I3×FN=>u.2.1=p/\Sp p.2.1.length u.2.2) (λ_=>False) l (λk hk u d=>?_) (sg,p,[]) ⟨rfl,Sp.nil⟩
 .refine DP.2 (key.mono λz m=>?_);grind[DP,A8W,DQ]
 .obtain⟨e,s,w⟩:=u;obtain⟨j,a⟩:=d;have j:=j.symm;dsimp only at j a;subst j;unfold M6;dsimp only;refine DP.2 ((AP3 p hn k.1 (h.tr k hk).2.1 e).mono λr b=>DR.2 ⟨λ_=>DQ.2 ⟨rfl,a.put b.1 b.2⟩,λ_=>DQ.2 ⟨rfl,a⟩⟩)
theorem AP5:Z1 (m_ p) (λr=>Sp p.2.1.length r):=by unfold m_;exact DP.2 ((A8W p hn _ (Sp.nil.put (x:=(0,false)) (AV _) oa)).mono λr h=>DQ.2 h)
end
def AP6(o:KX Int)(s:DO)(e:s.length<=1000)(d:o.length<=10000000):Z1 (zV (o,s,(s.length:Int),0)) (λr=>r.length<=o.length+1000):=by
 refine E_ (r:=nA) (σ:=KX Int) s.length (λo i=>(o,s,(s.length:Int),i)) (λi a=>a.length=o.length+i) oa (λnext a i hi h b=>?_) (λnext a h=>?_) o rfl
 .unfold nA;dsimp only;rw[E4,A6 hi,A4,ET (A1 hi),A0,EW oa];exact zh
 simp_all[nA,E4,A9,AA,A8,DQ]
def AP7(p:Pu)(w:p.2.1.length<=200)(x:p.2.2.1.length<=200)(y:p.2.2.2.1.length<=200):Z1 (nD p) (λr=>r.length<=1000000):=by
 unfold nD;refine DP.2 ((pA.1 p.2.1 oa).mono λr ⟨D,E⟩=>DP.2 (FF.2 ⟨oc,?_⟩));have h:∀z∈r++[p.2.2.1],z.length<=1000:=λz C=>by grind
 have d:(r++[p.2.2.1]).length<=203:=by rw[AL,List.length_singleton];omega
 generalize r++[p.2.2.1]=l at h d ⊢;refine DP.2 (Z1.mono (P:=λo=>o.length<=203*1001) ?_ λo A=>?_)
 .refine E_ (r:=nB) (σ:=KX Int) l.length (λo i=>(o,l,(l.length:Int),i)) (λi o=>o.length<=i*1001) oa (λnext o i hi j e=>?_) (λnext o j=>?_) [] (AD _)
  .unfold nB;dsimp only;rw[E4,A6 hi,A4,ET (A1 hi),A0,EW oa];refine DP.2 (Z1.mono (P:=λa=>a.length<=i*1001+1) ?_ λa m=>?_)
   .unfold zU;dsimp only;refine DR.2 ⟨λ_=>DP.2 (FF.2 ⟨oc,DQ.2 oc⟩),λ_=>DQ.2 oa⟩
   .exact DP.2 ((AP6 a _ (h _ (AG hi)) oa).mono λq B=>e q oa)
  .unfold nB;dsimp only;rw[E4,A9 (AA _),A8];exact DQ.2 oa
 .refine DR.2 ⟨λ_=>DP.2 (FF.2 ⟨oc,?_⟩),λ_=>DQ.2 oa⟩;have b:(o++[(257:Int)]).length<=203*1001+1:=by rw[AL,List.length_singleton];omega
  generalize o++[(257:Int)]=l10 at b ⊢;refine DP.2 (Z1.mono (P:=λr=>r.length<=1000000) ?_ λr s=>DQ.2 s);refine E_ (r:=nC) (σ:=KX Int) p.2.2.2.1.length (λo i=>(p,o,(p.2.2.2.1.length:Int),i)) (λi a=>a.length=l10.length+i) oa (λnext a i hi j e=>?_) (λnext a j=>?_) l10 rfl
  .unfold nC;dsimp only;rw[E4,A6 hi,A4,ET (A1 hi),A0,EW oa];exact zh
  .unfold nC;dsimp only;rw[E4,A9 (AA _),A8];exact DQ.2 oa
def AP8(p:I3)(x:J3)(h0:0<=x.1)(a:x.1<=p.2.1.length):∃b,UE (p,x)=some b:=by
 unfold UE;dsimp only;refine JC.1 (DP.2 (Z1.mono (P:=λ_=>True) (DR.2 ⟨λh=>?_,λ_=>DQ.2 trivial⟩) λ_ _=>DQ.2 trivial));rw[DX]at h;have h:¬x.1=p.2.1.length:=by simpa using h
 exact EL.2 ⟨⟨h0,oa⟩,λ_ _=>trivial⟩
def AP9(s:DO)(p:Pu)(C:p.2.2.2.2.1.length<=1048576):∃r,bF (s,p)=some r:=by
 unfold bF;dsimp only;refine JC.1 (DP.2 ((A8S s).mono λa V=>DR.2 ⟨λ_=>DQ.2 trivial,λ_=>?_⟩));refine DP.2 ((bW p C).mono λe z=>DR.2 ⟨λ_=>DQ.2 trivial,λh=>?_⟩);have z:=z (by grind[DX]);refine DP.2 ((pB p z).mono λY D=>DR.2 ⟨λ_=>DQ.2 trivial,λ_=>?_⟩);obtain⟨_,K,L,M,_⟩:=D;have J:a.1.2.1.length<=100000:=oa;refine DP.2 ((AP5 a.1 J).mono λX N=>DP.2 ((AP7 Y K L M).mono λH W=>?_));refine DP.2 (Z1.mono (P:=λq:Sum (I3×FN) (X5×Int)=>match q with| .inl y=>y.1=a.1/\Sp a.1.2.1.length y.2| .inr _=>True) ?_ λq C=>?_)
 .refine E_ (r:=nF) (σ:=FN) H.length (λl i=>(a.1,l,H,(H.length:Int),i)) (λ_ l=>Sp a.1.2.1.length l) oa (λnext l i hi x U=>?_) (λnext l x=>?_) X N
  .unfold nF;dsimp only;rw[E4,A6 hi,A4,ET (A1 hi),A0,EW oa];refine DP.2 ((AP4 a.1 J l x _).mono λG O=>?_);have I:=O.few;have T:len? G.length=some (G.length:Int):=by unfold len?;rw[show Nat.ble G.length 281474976710656=true from CH oa];rfl
   simp_all[A0,DR,DQ,trivial]
  .unfold nF;dsimp only;rw[E4,A9 (AA _),A8];exact DQ.2 ⟨rfl,x⟩
 .cases q with
  |inr y=>exact DQ.2 trivial
  |inl y=>
   obtain⟨Z,y2⟩:=C;dsimp only;rw[Z];have A:∃g:J3×X5->X5,∀k∈y.2,UE (a.1,k.1)=some (g k):=by refine⟨λk=>(UE (a.1,k.1)).getD false,λk hk=>?_⟩;have⟨_,k0,k1⟩:=y2.tr k hk;have⟨b,R⟩:=AP8 a.1 k.1 k0 k1;simp only[R,C5]
   obtain⟨g,A⟩:=A;have e:RR (λo:FN=>o.Perm y.2) (λo=>(FI UF o a.1).bind λE=>match E with
    | .inl _=>some (false,(0:Int))
    | .inr d=>some (d.1,d.2))=some (y.2.any g,0):=by
    refine A2A ⟨y.2,List.Perm.refl _⟩ λo j=>?_;have B:∀k∈o,UE (a.1,k.1)=some (g k):=λk hk=>A k (j.mem_iff.1 hk);have I:FI UF o a.1=some (if o.any g=true then .inr (true,0)else .inl a.1):=by
     clear j;induction o with
     |nil=>rfl
     |cons k o ih=>
      unfold FI;have e1:UF k a.1=some (bif g k then .inr (true,0)else .inl a.1):=by unfold UF;rw[B k AF,A0];cases g k<;>rfl
      grind
    have Q:o.any g=y.2.any g:=by rw[Bool.eq_iff_iff,List.any_eq_true,List.any_eq_true];exact⟨λ⟨k,m,w⟩=>⟨k,j.mem_iff.1 m,w⟩,λ⟨k,m,w⟩=>⟨k,j.mem_iff.2 m,w⟩⟩
    rw[I,Q];cases y.2.any g<;>rfl
   exact JC.2 ⟨_,e⟩
abbrev IQ:=Int×DO×DO×DO
abbrev J4:=DO×DO×KX IQ×KX DO
abbrev SZ:=DO×KX (DO×DO)
abbrev XO:=DO×KX DO
abbrev I7:=KX XO×KX SZ×KX J4×KX DO
abbrev QZ:=X5×KX (DO×XO)×KX (DO×X5)×KX (DO×X5)
structure GB(g:I7):Prop where
 i0:g.1.length<=1048576
 i1:∀x∈g.1,x.1.length<=1048576/\x.2.length<=1048576/\∀s∈x.2,s.length<=1048576
 t0:g.2.1.length<=1048576
 t1:∀x∈g.2.1,x.1.length<=1048576/\x.2.length<=1048576/\∀s∈x.2,s.1.length<=1048576/\s.2.length<=1048576
 f0:g.2.2.1.length<=1048576
 f1:∀x∈g.2.2.1,x.1.length<=1048576/\x.2.1.length<=1048576/\x.2.2.1.length<=1048576/\x.2.2.2.length<=1048576/\(∀c∈x.2.2.1,c.2.2.2.length<=1048576)
 e0:g.2.2.2.length<=1048576
def S_{X R σ:Type}{r:(X->X1 R)->X->X1 R}(l:KX α)(enc:σ->Int->X)(f:σ->Nat->α->σ)(out:σ->R)(J:Nat->σ->Prop)(d:l.length<=1099511627776)
 (j:∀next s (i:Nat) y,l[i]?=some y->r next (enc s (i:Int))=next (enc (f s i y) ((i:Int)+1)))(a:∀next s,r next (enc s (l.length:Int))=some (out s))(s0:σ)(h0:J 0 s0)
 (b:∀s (i:Nat) y,l[i]?=some y->J i s->J (i+1) (f s i y)):Z1 (E0 r fuel (enc s0 0)) (λq=>∃s,q=out s/\J l.length s):=by
 refine E_ l.length enc J oa (λnext s i hi h e=>?_) (λnext s h=>?_) s0 h0
 .simp_all
 .rw[a];exact DQ.2 ⟨s,rfl,h⟩
def NR(m:KX (DO×X5))(l:KX DO):Prop:=∀s,DY DU s m=if s∈l then some true else none
theorem UU(k a:DO)(v:β)(m:KX (DO×β)):DY DU k (EE DU a v m)=if k=a then some v else DY DU k m:=XL E3 k a v m
theorem pU{m:KX (DO×X5)}(h:NR m l)(s:DO):NR (EE DU s true m) (l++[s]):=λk=>by rw[UU,h k];grind
def A0w:NR [] []:=λk=>rfl
def XP{m:KX (DO×X5)}(h:NR m l)(s:DO):(DY DU s m).getD false=decide (s∈l):=by rw[h s];grind
theorem T0{l:KX α}{y:α}(f:α->β)(h:l[i]?=some y):(l.take (i+1)).map f=(l.take i).map f++[f y]:=by rw[GO h,D2];rfl
def APA{g:I7}(d:GB g)(lo:X5):Z1 (kY (g,lo)) (λk=>k.1=lo/\(∀s x,DY DU s k.2.1=some x->x∈g.1)/\NR k.2.2.1 (g.2.1.map (·.1))/\NR k.2.2.2 (g.2.2.1.map (·.1))):=by
 unfold kY;dsimp only
 refine DP.2 ((S_ (σ:=QZ) (α:=XO) g.1 (λs i=>(s,g.1,(g.1.length:Int),i)) (λk _ y=>(k.1,EE DU y.1 y k.2.1,k.2.2.1,k.2.2.2)) (λk=>k)
  (λ_ k=>k.1=lo/\k.2.2=([],[])/\∀s x,DY DU s k.2.1=some x->x∈g.1) (by have:=d.i0;omega) (λnext s i y h=>?_) (λnext s=>?_) _ ⟨rfl,rfl,λs x h=>om⟩ (λk i y h b=>⟨b.1,?_,λs x G=>?_⟩)).mono λj z=>?_)
 .have a:=(A3.1 h).1;unfold yN;dsimp only;rw[E4,A6 a,A4,ET h,A0,EW (by have:=d.i0;omega)]
 .simp_all[yN,E4,A9,AA,A8]
 .exact b.2.1
 .grind[DY,DU,EE,UU]
 obtain⟨H,rfl,l,e,C⟩:=z
 refine DP.2 ((S_ (σ:=QZ) (α:=SZ) g.2.1 (λs i=>(s,g.2.1,(g.2.1.length:Int),i)) (λk _ y=>(k.1,k.2.1,EE DU y.1 true k.2.2.1,k.2.2.2)) (λk=>k)
  (λi k=>k.1=lo/\k.2.1=j.2.1/\k.2.2.2=[]/\NR k.2.2.1 ((g.2.1.take i).map (·.1))) (by have:=d.t0;omega) (λnext s i y h=>?_) (λnext s=>?_) _ ⟨l,rfl,by rw[e],by rw[e];exact A0w⟩
  (λk i y h b=>⟨b.1,b.2.1,b.2.2.1,by grind[T0,pU]⟩)).mono λB A=>?_)
 .have a:=(A3.1 h).1;unfold yO;dsimp only;rw[E4,A6 a,A4,ET h,A0,EW (by have:=d.t0;omega)]
 .simp_all[yO,E4,A9,AA,A8]
 obtain⟨I,rfl,m,p,w,D⟩:=A
 refine DP.2 ((S_ (σ:=QZ) (α:=J4) g.2.2.1 (λs i=>(s,g.2.2.1,(g.2.2.1.length:Int),i)) (λk _ y=>(k.1,k.2.1,k.2.2.1,EE DU y.1 true k.2.2.2)) (λk=>k)
  (λi k=>k.1=lo/\k.2.1=j.2.1/\k.2.2.1=B.2.2.1/\NR k.2.2.2 ((g.2.2.1.take i).map (·.1))) (by have:=d.f0;omega) (λnext s i y h=>?_) (λnext s=>?_) _ ⟨m,p,rfl,by rw[w];exact A0w⟩
  (λk i y h b=>⟨b.1,b.2.1,b.2.2.1,by grind[T0,pU]⟩)).mono λJ E=>DQ.2 ?_)
 .have a:=(A3.1 h).1;unfold yP;dsimp only;rw[E4,A6 a,A4,ET h,A0,EW (by have:=d.f0;omega)]
 .simp_all[yP,E4,A9,AA,A8]
 grind
def A0x(s:DO)(j:s.length<=1048576):∃b,P0 s=some b:=by
 unfold P0;refine JC.1 (DP.2 ((E_ (r:=WU) s.length (λ_ i=>(s,(s.length:Int),i)) (λ_ _=>True) (Q:=λ_=>True) oa (λnext _ i hi _ e=>?_) (λnext _ _=>?_) () trivial).mono λr _=>?_))
 .unfold WU;dsimp only;have h:=ET (A1 hi);rw[E4,A6 hi,A4,h,A0,EW oa];refine DP.2 (Z1.mono (P:=λ_=>True) (DR.2 ⟨λ_=>JC.2 ⟨_,rfl⟩,λ_=>DQ.2 trivial⟩) λa _=>?_);refine DP.2 (Z1.mono (P:=λ_=>True) (DR.2 ⟨λ_=>JC.2 ⟨_,rfl⟩,λ_=>DQ.2 trivial⟩) λd _=>?_);simp_all[DR,DQ,trivial]
 .simp_all[WU,E4,A9,AA,A8,DQ,trivial]
 .cases r<;>exact DQ.2 trivial
def A0y(s b:DO)(f:X5)(d:s.length<=1048576):Z1 (P1 (s,b,f)) (λe=>e=0->f=true\/b<s):=by have⟨r,a⟩:=A0x s d;unfold P1;dsimp only;rw[a,A0,pQ];refine DR.2 ⟨λ_=>DQ.2 λh=>absurd h oi,λ_=>DR.2 ⟨λ_=>DQ.2 λh=>absurd h oi,λh=>DQ.2 λ_=>?_⟩⟩;grind
def pV(s b:DO)(f:X5)(h:s.length<=1048576):∃e,P1 (s,b,f)=some e:=JC.1 ((A0y s b f h).mono λ_ _=>trivial)
def AscN(l:KX DO)(b:DO):Prop:=l.Pairwise (· < ·)/\∀s∈l,s<b\/s=b
def AscN.snoc{b s:DO}(h:AscN l b)(e:l=[]\/b<s):AscN (l++[s]) s:=by
 have key:∀a∈l,a<s:=λa d=>by
  rcases e with rfl|e
  .cases d
  .rcases h.2 a d with j|rfl<;>grind
 refine⟨DF.2 ⟨h.1,C_ _ _,λa d b m=>?_⟩,λa d=>?_⟩
 .grind
 grind
theorem A8X{l:KX α}{a:α->DO}{b s:DO}(h:DT (i:Int) 0=true\/b<s):(l.take i).map a=[]\/b<s:=h.imp (λh=>by simp_all[DX]) id
def AscN.nodup{b:DO}(h:AscN l b):l.Nodup:=List.Pairwise.imp (λ{a b} (d:a<b)=>λe:a=b=>MR b (e▸d)) h.1
def A8Y(k:QZ)(l:KX DO)(m:KX (DO×X5))(p:l.length<=1048576):Z1 (aW (k,l,m)) (λe=>k.1=false->e=0->∀s∈l,(DY DU s m).getD false=true):=by
 unfold aW
 refine DP.2 ((E_ (r:=lF) l.length (λ_ i=>(l,m,k,l,(l.length:Int),i)) (λi _=>k.1=false->∀ s∈l.take i,(DY DU s m).getD false=true)
  (Q:=λq=>match q with| .inl _=>k.1=false->∀s∈l,(DY DU s m).getD false=true| .inr e=>e≠0) oa (λnext _ i hi a b=>?_) (λnext _ a=>?_) () (λ_ s h=>om)).mono λr w=>?_)
 .unfold lF;dsimp only;rw[E4,A6 hi,A4,ET (A1 hi),A0,EW oa];refine DR.2 ⟨λ_=>DQ.2 (show(4:Int)≠0 by decide),λj=>?_⟩;refine DP.2 (Z1.mono (P:=λ_=>True) (DR.2 ⟨λh=>?_,λ_=>DQ.2 trivial⟩) λy _=>?_)
  .have h:=AC h;rw[EJ oa oa];exact EL.2 ⟨⟨oa,oa⟩,λ_ _=>trivial⟩
  .refine DR.2 ⟨λ_=>DQ.2 (show(10:Int)≠0 by decide),λ_=>b () λhk s d=>?_⟩;rw[GO (A1 hi)]at d;grind
 .simp_all[lF,E4,A9,AA,A8,AR,DQ]
 grind[DQ,hk,absurd]
def APB(k:QZ)(c:IQ)(d:c.2.2.2.length<=1048576)(hk:∀s x,DY DU s k.2.1=some x->x.2.length<=1048576):∃e,lE (k,c)=some e:=by
 have⟨r,l⟩:=A0x c.2.2.2 d;have a:∀b:X5,∃y,(bif b then P0 c.2.2.2 else some false)=some y:=λb=>match b with|true=>⟨_,l⟩|false=>⟨_,rfl⟩
 unfold lE;dsimp only;refine JC.1 (DR.2 ⟨λ_=>DR.2 ⟨λ_=>DQ.2 trivial,λ_=>DR.2 ⟨λ_=>DQ.2 trivial,λ_=>?_⟩⟩,λ_=>DR.2 ⟨λ_=>?_,λ_=>DQ.2 trivial⟩⟩)
 .refine DP.2 ((JC.2 (a _)).mono λy _=>DR.2 ⟨λ_=>DQ.2 trivial,λ_=>DQ.2 trivial⟩)
 .refine DP.2 (Z1.mono (P:=λ_=>True) (DR.2 ⟨λh=>?_,λ_=>DQ.2 trivial⟩) λy _=>DR.2 ⟨λ_=>DQ.2 trivial,λ_=>?_⟩)
  .have m:((DY DU c.2.1 k.2.1).getD (([]:DO),([]:KX DO))).2.length<=1048576:=by
    cases j:DY DU c.2.1 k.2.1 with
    |none=>simp
    |some x=>exact hk _ _ j
   simp_all[A0s,trivial]
  .refine DP.2 ((JC.2 (a _)).mono λy _=>DR.2 ⟨λ_=>DQ.2 trivial,λ_=>DQ.2 trivial⟩)
def APC(k:QZ)(l:KX XO)(y:l.length<=1048576)(p:∀x∈l,x.1.length<=1048576/\x.2.length<=1048576/\∀s∈x.2,s.length<=1048576):Z1 (lA (k,l)) (λ_=>True):=by
 unfold lA;dsimp only;refine DP.2 ((E_ (r:=k_) (σ:=DO) l.length (λb i=>(b,l,(l.length:Int),i)) (λ_ _=>True) (Q:=λ_=>True) oa (λnext b i hi _ z=>?_) (λnext _ _=>?_) [] trivial).mono λq _=>?_)
 .unfold k_;dsimp only;have⟨e,w,m⟩:=p _ (AG hi);rw[E4,A6 hi,A4,ET (A1 hi),A0,EW oa];refine DP.2 ((JC.2 (pV _ _ _ e)).mono λr _=>DR.2 ⟨λ_=>DQ.2 trivial,λ_=>DR.2 ⟨λ_=>DQ.2 trivial,λ_=>DR.2 ⟨λ_=>DQ.2 trivial,λ_=>?_⟩⟩⟩);refine DP.2 ((E_ (r:=kZ) (σ:=DO) l[i].2.length (λb j=>(b,l[i].2,(l[i].2.length:Int),j)) (λ_ _=>True) (Q:=λ_=>True) oa (λa b j h _ d=>?_) (λa _ _=>?_) [] trivial).mono λq _=>?_)
  .unfold kZ;dsimp only;rw[E4,A6 h,A4,ET (A1 h),A0,EW oa];exact DP.2 ((JC.2 (pV _ _ _ (m _ (AG h)))).mono λr _=>DR.2 ⟨λ_=>DQ.2 trivial,λ_=>d _ trivial⟩)
  .simp_all[kZ,E4,A9,AA,A8,DQ,trivial]
  .cases q<;>simp_all[trivial,DQ]
 .simp_all[k_,E4,A9,AA,A8,DQ,trivial]
 .cases q<;>exact DQ.2 trivial
def zf{p:Prop}(h:p:=by grind[DQ,absurd]):p:=h
def APD(k:QZ)(l:KX SZ)(G:l.length<=1048576)(C:∀x∈l,x.1.length<=1048576/\x.2.length<=1048576/\∀s∈x.2,s.1.length<=1048576/\s.2.length<=1048576):Z1 (lD (k,l)) (λe=>e=0->(l.map (·.1)).Nodup):=by
 unfold lD;dsimp only;refine DP.2 ((E_ (r:=lC) (σ:=DO) l.length (λb i=>(k,b,l,(l.length:Int),i)) (λi b=>AscN ((l.take i).map (·.1)) b) (Q:=λq=>match q with| .inl _=>(l.map (·.1)).Nodup| .inr e=>e≠0) oa (λnext b i hi d B=>?_) (λnext b d=>?_) [] ⟨.nil,λs h=>om⟩).mono λq w=>?_)
 .unfold lC;dsimp only;have⟨z,E,A⟩:=C _ (AG hi);rw[E4,A6 hi,A4,ET (A1 hi),A0,EW oa];refine DP.2 ((A0y _ _ _ z).mono λr y=>DR.2 ⟨λh=>DQ.2 (λe=>by rw[e]at h;cases h),λh0=>DR.2 ⟨λ_=>DQ.2 (show(3:Int)≠0 by decide),λ_=>?_⟩⟩);have y:=y (by grind[DX]);refine DP.2 ((E_ (r:=lB) (σ:=DO) l[i].2.length (λb j=>(k,b,l[i].2,(l[i].2.length:Int),j)) (λ_ _=>True) (Q:=λq=>match q with| .inl D=>D=k| .inr e=>e≠0) oa (λa b j m _ p=>?_) (λa _ _=>?_) [] trivial).mono λq w=>?_)
  .unfold lB;dsimp only;rw[E4,A6 m,A4,ET (A1 m),A0,EW oa];exact DP.2 ((JC.2 (pV _ _ _ (A _ (AG m)).1)).mono λr _=>DR.2 ⟨λh=>DQ.2 (λe=>by rw[e]at h;cases h),λ_=>DR.2 ⟨λ_=>DQ.2 (show(4:Int)≠0 by decide),λ_=>p _ trivial⟩⟩)
  .unfold lB;dsimp only;rw[E4,A9 (AA _),A8];exact DQ.2 rfl
  .cases q with
   |inl u=>cases w;refine B _ ?_;rw[T0 _ (A1 hi)];exact d.snoc (A8X y)
   |inr e=>exact DQ.2 w
 .have:=d.nodup;simp_all[lC,E4,A9,AA,A8,AR,DQ]
 .exact zf
def A0z(k:QZ)(x:J4):Prop:=x.2.2.1.length<=200/\∀s∈x.2.2.2,(DY DU s k.2.2.1).getD false=true
def APE(k:QZ)(hk:k.1=false)(l:KX J4)(L:l.length<=1048576)(d:∀x∈l,x.1.length<=1048576/\x.2.1.length<=1048576/\x.2.2.1.length<=1048576/\x.2.2.2.length<=1048576/\(∀c∈x.2.2.1,c.2.2.2.length<=1048576))
 (hi:∀s x,DY DU s k.2.1=some x->x.2.length<=1048576):Z1 (lI (k,l)) (λe=>e=0->(∀x∈l,A0z k x)/\(l.map (·.1)).Nodup):=by
 unfold lI;dsimp only;refine DP.2 ((E_ (r:=lH) (σ:=DO) l.length (λb i=>(k,b,l,(l.length:Int),i)) (λi b=>(∀x∈l.take i,A0z k x)/\AscN ((l.take i).map (·.1)) b) (Q:=λq=>match q with| .inl _=>(∀x∈l,A0z k x)/\(l.map (·.1)).Nodup| .inr e=>e≠0) oa (λnext b i a p I=>?_) (λnext _ p=>?_) [] ⟨λx h=>(om),.nil,λs h=>om⟩).mono λq z=>?_)
 .unfold lH;dsimp only;have⟨C,D,K,E,G⟩:=d _ (AG a);rw[E4,A6 a,A4,ET (A1 a),A0,EW oa];refine DP.2 ((A0y _ _ _ C).mono λr A=>DR.2 ⟨λh=>DQ.2 (λe=>by rw[e]at h;cases h),λh0=>?_⟩);have A:=A (by grind[DX]);refine DP.2 ((JC.2 (A0x _ D)).mono λr _=>DR.2 ⟨λh=>DQ.2 (show(8:Int)≠0 by decide),λ_=>DR.2 ⟨λ_=>DQ.2 (show(3:Int)≠0 by decide),λB=>?_⟩⟩);have B:=AI B;refine DP.2 ((E_ (r:=lG) (σ:=Unit) l[i].2.2.1.length (λ_ j=>(k,l[i].2.2.1,(l[i].2.2.1.length:Int),j)) (λ_ _=>True) (Q:=λq=>match q with| .inl J=>J=k| .inr e=>e≠0) oa (λm b j w _ y=>?_) (λm _ _=>?_) () trivial).mono λq z=>?_)
  .unfold lG;dsimp only;rw[E4,A6 w,A4,ET (A1 w),A0,EW oa];exact DP.2 ((JC.2 (APB k _ (G _ (AG w)) hi)).mono λr _=>DR.2 ⟨λh=>DQ.2 (λe=>by rw[e]at h;cases h),λ_=>y () trivial⟩)
  .unfold lG;dsimp only;rw[E4,A9 (AA _),A8];exact DQ.2 rfl
  .cases q with
   |inl u=>
    cases z;refine DP.2 ((A8Y k l[i].2.2.2 k.2.2.1 E).mono λe H=>DR.2 ⟨λh=>DQ.2 (λe=>by rw[e]at h;cases h),λh=>I _ ⟨λx d=>?_,?_⟩⟩)
    rotate_left
    .rw[T0 _ (A1 a)];exact p.2.snoc (A8X A)
    rw[GO (A1 a)]at d;rcases AX.1 d with d|d
    .exact p.1 x d
    .rw[AO]at d;subst d;refine⟨oa,H hk ?_⟩;grind[DX]
   |inr e=>exact DQ.2 z
 .have:=p.2.nodup;simp_all[lH,E4,A9,AA,A8,AR,DQ]
 exact zf
structure GrOk(g:I7):Prop where
 i:g.1.length<=200
 t:g.2.1.length<=500
 f:g.2.2.1.length<=3000
 calls:∀x∈g.2.2.1,x.2.2.1.length<=200
 makes:∀x∈g.2.2.1,∀s∈x.2.2.2,∃y∈g.2.1,y.1=s
 entries:∀s∈g.2.2.2,∃y∈g.2.2.1,y.1=s
 tn:(g.2.1.map (·.1)).Nodup
 fn:(g.2.2.1.map (·.1)).Nodup
def JX{e:Int}(h:(!(DT e 0))=false):e=0:=by grind[DX]
def APF{g:I7}(a:GB g):Z1 (lJ g) (λe=>e=0->GrOk g):=by
 unfold lJ;refine DP.2 ((APA a false).mono λk ⟨k1,z,A,B⟩=>?_);have m:∀s x,DY DU s k.2.1=some x->x.2.length<=1048576:=λs x h=>(a.i1 x (z s x h)).2.1;refine DP.2 (Z1.mono (P:=λe=>e=0->GrOk g) ?_ λe d=>DQ.2 d);unfold yQ;dsimp only;refine DR.2 ⟨λ_=>DQ.2 λh=>absurd h oi,λj=>?_⟩;refine DP.2 ((APC k _ a.i0 a.i1).mono λe _=>DR.2 ⟨λh=>DQ.2 (λe=>by rw[e]at h;cases h),λ_=>?_⟩);refine DP.2 ((APD k _ a.t0 a.t1).mono λe p=>DR.2 ⟨λh=>DQ.2 (λe=>by rw[e]at h;cases h),λh=>?_⟩);have p:=p (JX h);refine DP.2 ((APE k k1 _ a.f0 a.f1 m).mono λe d=>DR.2 ⟨λh=>DQ.2 (λe=>by rw[e]at h;cases h),λh=>?_⟩);have⟨d,l⟩:=d (JX h);refine DP.2 ((A8Y k _ k.2.2.2 a.e0).mono λC b=>DQ.2 λy=>?_);have b:=b k1 y;simp only[BQ,CZ]at j;obtain⟨⟨s1,D⟩,E⟩:=j;refine⟨oa,oa,oa,λx w=>(d x w).1,λx w s j=>?_,λs j=>?_,p,l⟩
 .have:=(d x w).2 s j;rw[XP A]at this;grind
 .have:=b s j;rw[XP B]at this;grind
def APG(l:KX DO)(a:∀s∈l,s.length<=1048576):Z1 (lL l) (λe=>e=0->l.length<=30):=by
 unfold lL;refine DR.2 ⟨λ_=>DQ.2 λh=>absurd h oi,λh=>?_⟩;have h:=AI h;refine DP.2 ((E_ (r:=lK) (σ:=DO) l.length (λb i=>(b,l,(l.length:Int),i)) (λ_ _=>True) (Q:=λ_=>True) oa (λnext b i hi _ d=>?_) (λnext _ _=>?_) [] trivial).mono λq _=>?_)
 .unfold lK;dsimp only;rw[E4,A6 hi,A4,ET (A1 hi),A0,EW oa];exact DP.2 ((JC.2 (pV _ _ _ (a _ (AG hi)))).mono λr _=>DR.2 ⟨λ_=>DQ.2 trivial,λ_=>d _ trivial⟩)
 .simp_all[lK,E4,A9,AA,A8,DQ,trivial]
 grind[DQ]
def A8Z(s:DO)(a:s.length<=1048576):Z1 (ZN s) (λ_=>True):=by
 unfold ZN;refine DP.2 ((E_ (r:=gG) s.length (λ_ i=>(s,(s.length:Int),i)) (λ_ _=>True) (Q:=λ_=>True) oa (λnext _ i hi _ h=>?_) (λnext _ _=>?_) () trivial).mono λr _=>?_)
 .unfold gG;dsimp only;rw[E4,A6 hi,A4,EW oa];simp_all[trivial,EL,DR,DQ,DP,Z1.mono]
 .simp_all[gG,E4,A9,AA,A8,DQ,trivial]
 .cases r<;>exact DQ.2 trivial
def A8_(s:DO)(m:Int)(a:s.length<=1048576):Z1 (ZO (s,m)) (λ_=>True):=by
 unfold ZO;refine DP.2 ((E_ (r:=gH) s.length (λ_ i=>(s,(s.length:Int),i)) (λ_ _=>True) (Q:=λ_=>True) oa (λnext _ i hi _ h=>?_) (λnext _ _=>?_) () trivial).mono λr _=>?_)
 .unfold gH;dsimp only;rw[E4,A6 hi,A4,EW oa];simp_all[trivial,EL,DR,DQ,DP,Z1.mono]
 .simp_all[gH,E4,A9,AA,A8,DQ,trivial]
 .cases r<;>exact DQ.2 trivial
def APH(s:DO)(m:Int)(h:s.length<=1048576):Z1 (gN (s,m)) (λ_=>True):=by
 unfold gN;refine DP.2 ((E_ (r:=gM) s.length (λ_ i=>(s,(s.length:Int),i)) (λ_ _=>True) (Q:=λ_=>True) oa (λnext _ i hi _ hn=>?_) (λnext _ _=>?_) () trivial).mono λr _=>?_)
 .unfold gM;dsimp only;rw[E4,A6 hi,A4,EW oa]
  repeat' first
   |exact hn () trivial
   |exact EL.2 ⟨⟨oa,oa⟩,λ_ _=>trivial⟩
   |exact(A7S.1 _ ⟨oa,by grind[E6]⟩).mono λ_ _=>trivial
   |(with_reducible first|refine DR.2 ⟨λ_=>?_,λ_=>?_⟩|refine DQ.2 trivial|refine DP.2 (Z1.mono (P:=λ_=>True) ?_ λ_ _=>?_))
 .simp_all[gM,E4,A9,AA,A8,DQ,trivial]
 .cases r<;>exact DQ.2 trivial
def API(l:KX (DO×DO))(a:∀x∈l,x.2.length<=1048576):Z1 (gP l) (λ_=>True):=by
 unfold gP;refine DR.2 ⟨λ_=>DQ.2 trivial,λh=>?_⟩;have h:=AI h;refine DP.2 ((E_ (r:=gO) l.length (λ_ i=>(l,l,(l.length:Int),i)) (λ_ _=>True) (Q:=λ_=>True) oa (λnext _ i hi _ d=>?_) (λnext _ _=>?_) () trivial).mono λr _=>?_)
 .unfold gO;dsimp only;rw[E4,A6 hi,A4,ET (A1 hi),A0,EW oa];unfold vT;dsimp only;refine DP.2 (Z1.mono (P:=λ_=>True) (DR.2 ⟨λ_=>DQ.2 trivial,λ_=>DQ.2 trivial⟩) λn _=>DR.2 ⟨λ_=>DQ.2 trivial,λ_=>?_⟩);refine DP.2 ((APH _ _ (a _ (AG hi))).mono λb _=>DR.2 ⟨λ_=>DQ.2 trivial,λ_=>?_⟩);refine DP.2 (Z1.mono (P:=λ_=>True) (DR.2 ⟨λh=>?_,λ_=>DQ.2 trivial⟩) λ_ _=>DR.2 ⟨λ_=>DQ.2 trivial,λ_=>d () trivial⟩);have h:=AC h;rw[EJ oa oa];exact EL.2 ⟨⟨oa,oa⟩,λ_ _=>trivial⟩
 .simp_all[gO,E4,A9,AA,A8,DQ,trivial]
 .cases r<;>exact DQ.2 trivial
def APJ(k:X5×KX (DO×X5))(l:KX DO)(a:∀x∈l,x.length<=1048576):Z1 (ZU (k,l)) (λ_=>True):=by
 unfold ZU;refine DR.2 ⟨λ_=>DQ.2 trivial,λh=>?_⟩;have h:=AI h;refine DP.2 ((E_ (r:=gQ) l.length (λ_ i=>(l,k,l,(l.length:Int),i)) (λ_ _=>True) (Q:=λ_=>True) oa (λnext _ i hi _ d=>?_) (λnext _ _=>?_) () trivial).mono λr _=>?_)
 .unfold gQ;dsimp only;rw[E4,A6 hi,A4,ET (A1 hi),A0,EW oa];refine DP.2 ((A8_ _ _ (a _ (AG hi))).mono λb _=>DR.2 ⟨λ_=>DQ.2 trivial,λ_=>?_⟩);refine DP.2 (Z1.mono (P:=λ_=>True) (DR.2 ⟨λh=>?_,λ_=>DQ.2 trivial⟩) λ_ _=>DR.2 ⟨λ_=>DQ.2 trivial,λ_=>d () trivial⟩);have h:=AC (CY.1 h).2;rw[EJ oa oa];exact EL.2 ⟨⟨oa,oa⟩,λ_ _=>trivial⟩
 .simp_all[gQ,E4,A9,AA,A8,DQ,trivial]
 .cases r<;>exact DQ.2 trivial
structure BlB(b:IW):Prop where
 n:b.1.length<=1048576
 v:b.2.1.length<=1048576
 c:∀c∈b.2.2.2.1,c.1.length<=1048576/\c.2.1.2.2.2.2.1.length<=1048576/\(∀x∈c.2.2.1,x.2.length<=1048576)/\c.2.2.2.1.length<=1048576/\∀x∈c.2.2.2.2,x.length<=1048576
def APK(k:X5×KX (DO×X5))(c:F9)(d:c.1.length<=1048576)(j:c.2.1.2.2.2.2.1.length<=1048576)(l:∀x∈c.2.2.1,x.2.length<=1048576)(z:c.2.2.2.1.length<=1048576)(A:∀x∈c.2.2.2.2,x.length<=1048576):
 Z1 (gS (k,c)) (λe=>e=0->MM c.2.1=some 0):=by
 unfold gS;dsimp only;refine DP.2 ((A8_ _ _ d).mono λB _=>DR.2 ⟨λ_=>DQ.2 λh=>absurd h oi,λ_=>?_⟩);have⟨e,a,_⟩:=bW c.2.1 j;have s:e=0->MM c.2.1=some 0:=λh=>h▸a;refine DP.2 ⟨e,a,DR.2 ⟨λh=>DQ.2 λh0=>(oc),λh=>?_⟩⟩;have a:=s (JX h);refine DP.2 ((API _ l).mono λC _=>DR.2 ⟨λ_=>DQ.2 λ_=>a,λ_=>?_⟩);refine DP.2 (Z1.mono (P:=λq:Sum F9 Int=>match q with| .inl y=>y=c| .inr _=>True) ?_ λq b=>?_)
 .refine E_ (r:=gR) (σ:=Unit) c.2.2.2.1.length (λ_ i=>(c,(c.2.2.2.1.length:Int),i)) (λ_ _=>True) oa (λnext _ i hi _ m=>?_) (λnext _ _=>?_) () trivial
  .unfold gR;dsimp only;rw[E4,A6 hi,A4,EW oa];refine DP.2 (EL.2 ⟨⟨oa,oa⟩,λw _=>DP.2 (Z1.mono (P:=λ_=>True) (DR.2 ⟨λ_=>EL.2 ⟨⟨oa,oa⟩,λ_ _=>trivial⟩,λ_=>DQ.2 trivial⟩) λ_ _=>DR.2 ⟨λ_=>DQ.2 trivial,λ_=>m () trivial⟩)⟩)
  .unfold gR;dsimp only;rw[E4,A9 (AA _),A8];exact DQ.2 rfl
 .cases q with
  |inr y=>grind[DQ]
  |inl y=>have b:y=c:=b;subst b;dsimp only;have⟨D,p⟩:=AJC y.2.2.2.1;simp_all[DR,DP,APJ,DQ,A0]
structure BlOk(b:IW):Prop where
 few:b.2.2.2.1.length<=3000
 edges:b.2.2.2.2.length≤20000
 purl:∀c∈b.2.2.2.1,MM c.2.1=some 0
 asc:b.2.2.2.1.Pairwise λa c=>a.1<c.1
 root:b.2.2.1∈b.2.2.2.1.map (·.1)
 ends:∀e∈b.2.2.2.2,e.1∈b.2.2.2.1.map (·.1)/\e.2.1∈b.2.2.2.1.map (·.1)
def APL{R:α->α->Prop}(A:∀a b c,R a b->R b c->R a c){l:KX α}(h:(l.take i).Pairwise R)(hi:i<l.length)(s:0<i->∀y,l[i-1]?=some y->R y l[i]):(l.take (i+1)).Pairwise R:=by
 rw[GO (A1 hi)];refine DF.2 ⟨h,C_ _ _,λa m b d=>?_⟩;rw[AO]at d;subst d;obtain⟨j,w,rfl⟩:=DH.1 m;have p:j<i:=oa;have z:=s oa l[i-1] (A1 oa);by_cases e:j=i-1
 .grind
 .have x:=(BS.1 h) j (i-1) oc oc oa;grind
def A10(b:IW)(x:BlB b):Z1 (U3 b) (λe=>e=0->BlOk b):=by
 unfold U3;refine DP.2 (Z1.mono (P:=λe=>e=0->BlOk b) ?_ λe p=>DQ.2 p);unfold vV;dsimp only;refine DP.2 (Z1.mono (P:=λ_=>True) (DR.2 ⟨λ_=>A8Z _ x.n,λ_=>DQ.2 trivial⟩) λr1 _=>?_);refine DP.2 (Z1.mono (P:=λ_=>True) (DR.2 ⟨λ_=>A8Z _ x.v,λ_=>DQ.2 trivial⟩) λr2 _=>?_);refine DR.2 ⟨λ_=>DQ.2 λh=>absurd h oi,λ_=>DR.2 ⟨λ_=>DQ.2 λh=>absurd h oi,λB=>?_⟩⟩;rw[BQ]at B;have D:=AI B.1;have hd:=AI B.2;refine DP.2 (Z1.mono (P:=λq:Sum ((X5×KX (DO×X5))×IW) Int=>match q with
  | .inl y=>y.2=b/\y.1.1=false/\NR y.1.2 (b.2.2.2.1.map (·.1))/\(∀c∈b.2.2.2.1,MM c.2.1=some 0)/\b.2.2.2.1.Pairwise (λa c=>a.1<c.1)
  | .inr e=>e≠0) ?_ λq G=>?_)
 .refine E_ (r:=gY) (σ:=KX (DO×X5)) b.2.2.2.1.length (λm i=>((false,m),b,b.2.2.2.1,(b.2.2.2.1.length:Int),i)) (λi m=>NR m ((b.2.2.2.1.take i).map (·.1))/\(∀c∈b.2.2.2.1.take i,MM c.2.1=some 0)/\(b.2.2.2.1.take i).Pairwise (λa c=>a.1<c.1)) oa (λnext m i hi s C=>?_) (λnext m s=>?_) [] ⟨A0w,λc h=>(om),List.Pairwise.nil⟩
  .obtain⟨Z,j2,Q⟩:=s;unfold gY;dsimp only;have l:=A1 hi;have⟨R,T,U,V,W⟩:=x.c _ (AG hi);rw[E4,A6 hi,A4,ET l,A0,EW oa];refine DP.2 ((APK (false,m) b.2.2.2.1[i] R T U V W).mono λe p=>DR.2 ⟨λh=>DQ.2 λh0=>(by have h0:e=0:=h0;rw[h0]at h;cases h),λh=>?_⟩);have p:=p (JX h);refine DP.2 (Z1.mono (P:=λy=>0<i->b.2.2.2.1[i-1]?=some y) (DR.2 ⟨λh=>?_,λh=>DQ.2 λh0=>?_⟩) λy Y=>DR.2 ⟨λ_=>DQ.2 (show(10:Int)≠0 by decide),λN=>?_⟩)
   .have h:=AC (CY.1 h).2;rw[EJ oa oa];refine EL.2 ⟨⟨oa,oa⟩,λz O _=>?_⟩;simp_all
   .grind
   .refine C _ ⟨?_,λc A=>?_,APL (R:=λa c:F9=>a.1<c.1) (λa b c L M=>bY L M) Q hi λh0 z O=>?_⟩
    .grind[T0,pU]
    .rw[GO l]at A;grind
    simp_all[BJ,BU,A6,pQ]
  .unfold gY;dsimp only;rw[E4,A9 (AA _),A8];rw[AR]at s;exact DQ.2 ⟨rfl,rfl,s⟩
 .cases q with
  |inr e=>exact zf
  |inl y=>
   obtain⟨⟨lo,m⟩,d⟩:=y;obtain⟨H,I,w,J,K⟩:=G;dsimp only at H I w J K ⊢;subst H I;rw[XP w];refine DR.2 ⟨λ_=>DQ.2 λh=>absurd h oi,λj=>?_⟩;have j:d.2.2.1∈d.2.2.2.1.map (·.1):=by simpa using j
   refine DP.2 (Z1.mono (P:=λe=>e=0->∀e∈d.2.2.2.2,e.1∈d.2.2.2.1.map (·.1)/\e.2.1∈d.2.2.2.1.map (·.1)) ?_ λe p=>DQ.2 λh=>⟨oa,oa,J,K,j,p h⟩);unfold vU;dsimp only;refine DP.2 (Z1.mono (P:=λq:Sum Unit Int=>match q with
    | .inl _=>∀e∈d.2.2.2.2,e.1∈d.2.2.2.1.map (·.1)/\e.2.1∈d.2.2.2.1.map (·.1)
    | .inr e=>e≠0) ?_ λq G=>?_)
   .refine E_ (r:=gX) (σ:=Unit) d.2.2.2.2.length (λ_ i=>(d.2.2.2.2,(false,m),d.2.2.2.2,(d.2.2.2.2.length:Int),i)) (λi _=>∀e∈d.2.2.2.2.take i,e.1∈d.2.2.2.1.map (·.1)/\e.2.1∈d.2.2.2.1.map (·.1)) oa (λnext _ i hi s C=>?_) (λnext _ s=>?_) () (λe h=>om)
    .unfold gX;dsimp only;have l:=A1 hi;rw[E4,A6 hi,A4,ET l,A0,EW oa,XP w,XP w];refine DR.2 ⟨λ_=>DQ.2 (show(9:Int)≠0 by decide),λ_=>DR.2 ⟨λ_=>DQ.2 (show(4:Int)≠0 by decide),λE=>DR.2 ⟨λ_=>DQ.2 (show(2:Int)≠0 by decide),λ_=>?_⟩⟩⟩;refine DP.2 (Z1.mono (P:=λ_=>True) (DR.2 ⟨λh=>?_,λ_=>DQ.2 trivial⟩) λX _=>DP.2 (Z1.mono (P:=λ_=>True) (DR.2 ⟨λ_=>?_,λ_=>DQ.2 trivial⟩) λr5 _=>DR.2 ⟨λ_=>DQ.2 (show(10:Int)≠0 by decide),λ_=>C () λe p=>?_⟩))
     .have h:=AC (CY.1 h).2;rw[EJ oa oa];exact EL.2 ⟨⟨oa,oa⟩,λ_ _=>trivial⟩
     .obtain⟨c,D,_⟩:=AOt X d.2.2.2.2[i];exact⟨c,D,trivial⟩
     .rw[GO l]at p;grind
    .unfold gX;dsimp only;rw[E4,A9 (AA _),A8];grind[List.take_length,DQ]
   exact zf
def A8a(i j:Nat)(h:i+j<=4398046511104):shr? IntKind.u64 (IntKind.u64.wrap (IntKind.i64.wrap ((i:Int)+(j:Int)))) 1=some (((i+j) / 2:Nat):Int):=by
 rw[EJ oa oa];have e:IntKind.u64.wrap ((i:Int)+(j:Int))=(i:Int)+(j:Int):=by simp only[IntKind.wrap,IntKind.bits,IntKind.signed];simp;omega
 simp_all[shr?,A9,A8,min,Int.toNat,IntKind.bits,DG]
structure Srch{α:Type}(nm:α->DO)(l:KX α)(t:DO)(r:Int×X5):Prop where
 rng:0<=r.1/\r.1<=l.length
 is:r.2=true->∃y,l[r.1.toNat]?=some y/\nm y=t
 all:(l.Pairwise λa b=>nm a<nm b)->∀y∈l,nm y=t->r.2=true
def A11{α:Type}(nm:α->DO)(t:DO)(f:α×DO->X1 Int):Prop:=∀y,∃c,f (y,t)=some c/\(c<0<->nm y<t)/\(c=0<->nm y=t)
section
variable{α:Type}{nm:α->DO}{t:DO}{f:α×DO->X1 Int}(hf:A11 nm t f)
include hf
structure BsI(nm:α->DO)(l:KX α)(t:DO)(i j:Nat):Prop where
 le:i<=j/\j<=l.length
 lo:(l.Pairwise λa b=>nm a<nm b)->∀k y,k<i->l[k]?=some y->nm y<t
 hi:(l.Pairwise λa b=>nm a<nm b)->∀k y,j<=k->l[k]?=some y->¬nm y<t
theorem A8b{l:KX α}{j:Nat}(h:BsI nm l t i j)(m:i<j){y:α}(w:l[(i+j) / 2]?=some y):(nm y<t->BsI nm l t ((i+j) / 2+1) j)/\(¬nm y<t->BsI nm l t i ((i+j) / 2)):=by
 obtain⟨⟨x,A⟩,d,e⟩:=h;obtain⟨p,rfl⟩:=A3.1 w;refine⟨λg=>⟨oa,λs k z hk b=>?_,e⟩,λg=>⟨oa,d,λs k z hk b=>?_⟩⟩
 .obtain⟨a,rfl⟩:=A3.1 b;grind[List.lt_trans,List.pairwise_iff_getElem]
 .obtain⟨a,rfl⟩:=A3.1 b;grind[List.lt_trans,List.pairwise_iff_getElem]
end
def APM(l:KX (DO×DO))(t:DO)(T:l.length<=1048576)(f:(DO×DO)×DO->X1 Int)(w:A11 (λy:DO×DO=>y.1) t f):Z1 (lM (l,t,f)) (Srch (λy:DO×DO=>y.1) l t):=by
 unfold lM;dsimp only;refine DP.2 (Z1.mono (P:=λr=>∃i:Nat,r=(i:Int)/\BsI (λy:DO×DO=>y.1) l t i i) ?_ λr M=>?_)
 .refine EV (R:=λr=>∃i:Nat,r=(i:Int)/\BsI (λy:DO×DO=>y.1) l t i i) (λx=>x.1=l/\x.2.1=t/\x.2.2.1=f/\∃i j:Nat,x.2.2.2=((i:Int),(j:Int))/\BsI (λy:DO×DO=>y.1) l t i j) (λx=>(x.2.2.2.2-x.2.2.2.1).toNat)
   (λnext x L A=>?_) _ _ ⟨rfl,rfl,rfl,0,l.length,rfl,⟨oa,λ_ k y h=>absurd h oa,λ_ k y Q R=>oc⟩⟩ (by grind[fuel])
  obtain⟨J,W,N,U,V⟩:=x;obtain⟨D,E,G,i,j,H,b⟩:=L;dsimp only at D E G H A;subst D E G;cases H;have z:=b.le;unfold A5t;dsimp only;refine DR.2 ⟨λs=>?_,λs=>DQ.2 ⟨i,rfl,?_⟩⟩
  .have s:=AC s;have a:(i+j) / 2<J.length:=oa;rw[A8a i j oa,A0,EJ (n:=(((i+j) / 2:Nat):Int)) oa oa,ET (A1 a),A0];have⟨c,p,C,_⟩:=w J[(i+j) / 2];rw[p,A0];have d:=A8b w b oa (A1 a);refine DR.2 ⟨λh=>?_,λh=>?_⟩
   .rw[EW oa];exact A _ ⟨rfl,rfl,rfl,(i+j) / 2+1,j,rfl,d.1 (C.1 (AC h))⟩ oc
   .exact A _ ⟨rfl,rfl,rfl,i,(i+j) / 2,rfl,d.2 (λg=>AI h (C.2 g))⟩ oc
  grind
 .obtain⟨i,rfl,b⟩:=M;have z:=b.le;by_cases h:i<l.length
  .rw[E4,A6 h,A4,ET (A1 h),A0];have⟨c,p,_,K⟩:=w l[i];rw[A4,p,A0];refine DQ.2 ⟨⟨oa,oa⟩,λI=>?_,λm y B e=>?_⟩
   .simp_all[BU,DX,A1,AC]
   .dsimp only;rw[BU,DX];refine A6 (K.2 ?_);obtain⟨k,hk,rfl⟩:=List.mem_iff_getElem.1 B;have:k=i:=by
     rcases Nat.lt_trichotomy k i with g|g|g
     .exact absurd (b.lo m k _ g (A1 hk)) oc
     .exact g
     .have O:=b.hi m i _ (AD _) (A1 h);grind[List.pairwise_iff_getElem,absurd]
    grind
  .rw[E4,A9 h,A8,A0,A8,A0];refine DQ.2 ⟨⟨oa,oa⟩,λI=>(by cases I),λm y B e=>?_⟩;obtain⟨k,hk,rfl⟩:=List.mem_iff_getElem.1 B;exact absurd (b.lo m k _ oa (A1 hk)) oc
def APN(l:KX F9)(t:DO)(T:l.length<=1048576)(f:F9×DO->X1 Int)(w:A11 (λy:F9=>y.1) t f):Z1 (mR (l,t,f)) (Srch (λy:F9=>y.1) l t):=by
 unfold mR;dsimp only;refine DP.2 (Z1.mono (P:=λr=>∃i:Nat,r=(i:Int)/\BsI (λy:F9=>y.1) l t i i) ?_ λr M=>?_)
 .refine EV (R:=λr=>∃i:Nat,r=(i:Int)/\BsI (λy:F9=>y.1) l t i i) (λx=>x.1=l/\x.2.1=t/\x.2.2.1=f/\∃i j:Nat,x.2.2.2=((i:Int),(j:Int))/\BsI (λy:F9=>y.1) l t i j) (λx=>(x.2.2.2.2-x.2.2.2.1).toNat)
   (λnext x L A=>?_) _ _ ⟨rfl,rfl,rfl,0,l.length,rfl,⟨oa,λ_ k y h=>absurd h oa,λ_ k y Q R=>oc⟩⟩ (by grind[fuel])
  obtain⟨J,W,N,U,V⟩:=x;obtain⟨D,E,G,i,j,H,b⟩:=L;dsimp only at D E G H A;subst D E G;cases H;have z:=b.le;unfold A6N;dsimp only;refine DR.2 ⟨λs=>?_,λs=>DQ.2 ⟨i,rfl,?_⟩⟩
  .have s:=AC s;have a:(i+j) / 2<J.length:=oa;rw[A8a i j oa,A0,EJ (n:=(((i+j) / 2:Nat):Int)) oa oa,ET (A1 a),A0];have⟨c,p,C,_⟩:=w J[(i+j) / 2];rw[p,A0];have d:=A8b w b oa (A1 a);refine DR.2 ⟨λh=>?_,λh=>?_⟩
   .rw[EW oa];exact A _ ⟨rfl,rfl,rfl,(i+j) / 2+1,j,rfl,d.1 (C.1 (AC h))⟩ oc
   .exact A _ ⟨rfl,rfl,rfl,i,(i+j) / 2,rfl,d.2 (λg=>AI h (C.2 g))⟩ oc
  grind
 .obtain⟨i,rfl,b⟩:=M;have z:=b.le;by_cases h:i<l.length
  .rw[E4,A6 h,A4,ET (A1 h),A0];have⟨c,p,_,K⟩:=w l[i];rw[A4,p,A0];refine DQ.2 ⟨⟨oa,oa⟩,λI=>?_,λm y B e=>?_⟩
   .simp_all[BU,DX,A1,AC]
   .dsimp only;rw[BU,DX];refine A6 (K.2 ?_);obtain⟨k,hk,rfl⟩:=List.mem_iff_getElem.1 B;have:k=i:=by
     rcases Nat.lt_trichotomy k i with g|g|g
     .exact absurd (b.lo m k _ g (A1 hk)) oc
     .exact g
     .have O:=b.hi m i _ (AD _) (A1 h);grind[List.pairwise_iff_getElem,absurd]
    grind
  .rw[E4,A9 h,A8,A0,A8,A0];refine DQ.2 ⟨⟨oa,oa⟩,λI=>(by cases I),λm y B e=>?_⟩;obtain⟨k,hk,rfl⟩:=List.mem_iff_getElem.1 B;exact absurd (b.lo m k _ oa (A1 hk)) oc
abbrev GF:=I7×KX (DO×Int)×KX (DO×Int)×KX (DO×KX Int)×KX (DO×X5)×X5
def A8c(t:SZ)(n:DO)(b:t.2.length<=1048576):∃r,WV (t,n)=some r:=by
 unfold WV;dsimp only;refine JC.1 (DP.2 ((APM t.2 n b _ ?_).mono λr a=>?_))
 .intro y;grind[XH,XM,yR,bZ]
 .refine DR.2 ⟨λ_=>DQ.2 trivial,λh=>?_⟩;have⟨y,d,_⟩:=a.is (by simpa using h);have e:r.1=((r.1.toNat:Nat):Int):=by have:=a.rng;omega
  rw[e,ET d];exact DQ.2 trivial
def APO(t:SZ)(x:XO)(h:t.2.length<=1048576)(d:x.2.length<=1048576):∃b,lO (t,x)=some b:=by
 unfold lO;refine JC.1 (DP.2 ((E_ (r:=lN) (σ:=Unit) x.2.length (λ_ i=>(t,x.2,(x.2.length:Int),i)) (λ_ _=>True) (Q:=λ_=>True) oa (λnext b i hi _ a=>?_) (λnext _ _=>?_) () trivial).mono λq _=>?_))
 .unfold lN;dsimp only;rw[E4,A6 hi,A4,ET (A1 hi),A0,EW oa];exact DP.2 ((JC.2 (A8c t _ h)).mono λr _=>DR.2 ⟨λ_=>DQ.2 trivial,λ_=>a () trivial⟩)
 .simp_all[lN,E4,A9,AA,A8,DQ,trivial]
 .cases q<;>exact DQ.2 trivial
def OI(m:KX (DO×Int))(l:KX DO):Prop:=(∀s i,DY DU s m=some i->0<=i/\l[i.toNat]?=some s)/\∀s∈l,∃i,DY DU s m=some i
def A12:OI [] []:=⟨λs i h=>(om),λs h=>(om)⟩
theorem A13(h:OI m l)(s:DO):OI (EE DU s (l.length:Int) m) (l++[s]):=by
 refine⟨λk i hk=>?_,λk hk=>?_⟩
 .rw[UU]at hk;by_cases e:k=s
  .grind
  .rw[if_neg e]at hk;have⟨a,b⟩:=h.1 k i hk;grind
 .rw[UU];by_cases e:k=s
  .simp_all
  .rw[if_neg e];rcases AX.1 hk with hk|hk
   .exact h.2 k hk
   grind
def A14(h:OI m l)(b:l.Nodup){s:DO}(a:l[i]?=some s):DY DU s m=some (i:Int):=by have⟨k,hk⟩:=h.2 s (AE a);have⟨k0,k1⟩:=h.1 s k hk;have:=(List.getElem?_inj (A3.1 k1).1 b).1 (k1.trans a.symm);rw[hk,<-this];congr 1;omega
def FS(m:KX (DO×Int))(s:DO):Int:=(DY DU s m).getD 0
def T1(h:OI m l)(s:DO)(a:0<l.length):0<=FS m s/\FS m s<l.length:=by
 unfold FS;cases e:DY DU s m with
 |none=>grind
 |some i=>have⟨b,d⟩:=h.1 s i e;grind
def H4(w:GF)(s:DO):KX Int:=(DY DU s w.2.2.2.1).getD []
structure WoOk(g:I7)(how:Int)(w:GF):Prop where
 gr:w.1=g
 fn:OI w.2.1 (g.2.2.1.map (·.1))
 ty:OI w.2.2.1 (g.2.1.map (·.1))
 fit:∀s,(H4 w s).length<=g.1.length*g.2.1.length/\∀t∈H4 w s,0<=t/\t<g.2.1.length
 made:w.2.2.2.2.2=DT how 2
theorem APP(k a:DO)(v d:β)(m:KX (DO×β)):(DY DU k (EE DU a v m)).getD d=if k=a then v else(DY DU k m).getD d:=by rw[UU];grind
def zi{p:Prop}(h:p:=by grind[List.getElem?_eq_some_iff,A13,List.length_map,List.length_take,Nat.min_eq_left,T0]):p:=h
def APQ{g:I7}(E:GB g)(hi:g.1.length<=200)(x:g.2.1.length<=500)(a:Int)(fs:KX DO)(h2:fs.length<=1048576):Z1 (lP (g,a,fs)) (λr=>∃w,r=some w/\WoOk g a w):=by
 have h1:=E.f0;unfold lP;dsimp only
 refine DP.2 ((S_ (σ:=GF) (α:=J4) g.2.2.1 (λs i=>(s,g.2.2.1,(g.2.2.1.length:Int),i)) (λw i y=>(w.1,EE DU y.1 (i:Int) w.2.1,w.2.2)) (λw=>w)
  (λi w=>w.1=g/\w.2.2.1=[]/\w.2.2.2.1=[]/\w.2.2.2.2.2=DT a 2/\OI w.2.1 ((g.2.2.1.take i).map (·.1))) oa (λnext s i y h=>?_) (λnext s=>?_) _ ⟨rfl,rfl,rfl,rfl,A12⟩
  (λw i y h j=>⟨j.1,j.2.1,j.2.2.1,j.2.2.2.1,?_⟩)).mono λz h3=>?_)
 .have l:=(A3.1 h).1;unfold yS;dsimp only;rw[E4,A6 l,A4,ET h,A0,EW oa]
 .simp_all[yS,E4,A9,AA,A8]
 .exact zi
 obtain⟨w3,rfl,L,M,N,O,Q⟩:=h3;rw[AR]at Q
 refine DP.2 ((S_ (σ:=GF) (α:=SZ) g.2.1 (λs i=>(s,g.2.1,(g.2.1.length:Int),i)) (λw i y=>(w.1,w.2.1,EE DU y.1 (i:Int) w.2.2.1,w.2.2.2)) (λw=>w)
  (λi w=>w.1=g/\w.2.1=z.2.1/\w.2.2.2.1=[]/\w.2.2.2.2.2=DT a 2/\OI w.2.2.1 ((g.2.1.take i).map (·.1))) oa (λnext s i y h=>?_) (λnext s=>?_) _ ⟨L,rfl,N,O,by rw[M];exact A12⟩
  (λw i y h j=>⟨j.1,j.2.1,j.2.2.1,j.2.2.2.1,?_⟩)).mono λd h5=>?_)
 .have l:=(A3.1 h).1;unfold yT;dsimp only;rw[E4,A6 l,A4,ET h,A0,EW oa]
 .simp_all[yT,E4,A9,AA,A8]
 .exact zi
 obtain⟨w5,rfl,R,T,U,V,W⟩:=h5;rw[AR]at W
 have key:Z1 (yW (g,(d.1,(d.2.1,(d.2.2.1,(d.2.2.2.1,(d.2.2.2.2.1,d.2.2.2.2.2))))),g.1,(g.1.length:Int),0))
  (λw=>w.1=g/\w.2.1=z.2.1/\w.2.2.1=d.2.2.1/\w.2.2.2.2.2=DT a 2/\∀s,(H4 w s).length<=g.1.length*g.2.1.length/\∀t∈H4 w s,0<=t/\t<g.2.1.length):=by
  refine E_ (σ:=GF) g.1.length (λw i=>(g,w,g.1,(g.1.length:Int),i)) (λi w=>w.1=g/\w.2.1=z.2.1/\w.2.2.1=d.2.2.1/\w.2.2.2.2.2=DT a 2/\∀s,(H4 w s).length<=i*g.2.1.length/\∀t∈H4 w s,0<=t/\t<g.2.1.length) oa (λnext w i m p B=>?_) (λnext w p=>?_) _ ⟨R,T,rfl,V,λs=>?_⟩
  .unfold yV;dsimp only;rw[E4,A6 m,A4,ET (A1 m),A0,EW oa];obtain⟨j1,j2,j3,j4,j5⟩:=p;have⟨x1,x2,x3⟩:=E.i1 _ (AG m);have H:(i+1)*g.2.1.length=i*g.2.1.length+g.2.1.length:=C6 _ _;have h6:i*g.2.1.length<=200*500:=Nat.mul_le_mul oa x;refine DP.2 (Z1.mono (P:=λw=>w.1=g/\w.2.1=z.2.1/\w.2.2.1=d.2.2.1/\w.2.2.2.2.2=DT a 2/\∀s,(H4 w s).length<=(i+1)*g.2.1.length/\∀t∈H4 w s,0<=t/\t<g.2.1.length) ?_ λh7 C=>B _ C);refine E_ (σ:=GF) g.2.1.length (λw k=>(w,g.1[i],g.2.1,(g.2.1.length:Int),k)) (λk w=>w.1=g/\w.2.1=z.2.1/\w.2.2.1=d.2.2.1/\w.2.2.2.2.2=DT a 2/\∀s,(H4 w s).length<=i*g.2.1.length+k/\∀t∈H4 w s,0<=t/\t<g.2.1.length) oa (λnext w k hk p B=>?_) (λnext w p=>?_) _ ⟨j1,j2,j3,j4,j5⟩
   .unfold yU;dsimp only;rw[E4,A6 hk,A4,ET (A1 hk),A0,EW oa];obtain⟨k1,I,J,K,A⟩:=p;refine DP.2 ((JC.2 (APO _ _ (E.t1 _ (AG hk)).2.1 x2)).mono λb _=>DR.2 ⟨λ_=>?_,λ_=>B w ⟨k1,I,J,K,λs=>⟨oc,(A s).2⟩⟩⟩);have h4:=(A g.1[i].1).1;refine DP.2 (FF.2 ⟨by grind[H4,List.length_singleton],?_⟩);rw[E3,A6 rfl,A4,A0];refine B _ ⟨k1,I,J,K,λs=>?_⟩;show((DY DU s (EE DU _ _ _)).getD []).length<=_/\∀t∈(DY DU s (EE DU _ _ _)).getD [],_;rw[APP];by_cases e:s=g.1[i].1
    .rw[if_pos e];refine⟨by grind[List.length_append,List.length_singleton,H4],λt x=>?_⟩;rcases AX.1 x with x|x
     .exact(A g.1[i].1).2 t x
     grind
    .rw[if_neg e];exact⟨by have:=(A s).1;grind[H4],(A s).2⟩
   .unfold yU;dsimp only;rw[E4,A9 (AA _),A8];grind[DQ,H4]
  .unfold yV;dsimp only;rw[E4,A9 (AA _),A8];exact DQ.2 p
  .unfold H4;rw[show(d.2.2.2.1:KX (DO×KX Int))=[]from U];exact⟨AT _,λt h=>om⟩
 refine DP.2 (key.mono λG ⟨X,Y,Z,c4,c5⟩=>?_)
 refine DP.2 ((S_ (σ:=GF) (α:=DO) fs (λs i=>(s,fs,(fs.length:Int),i)) (λw i y=>(w.1,w.2.1,w.2.2.1,w.2.2.2.1,EE DU y true w.2.2.2.2.1,w.2.2.2.2.2)) (λw=>w)
  (λi w=>w.1=g/\w.2.1=z.2.1/\w.2.2.1=d.2.2.1/\w.2.2.2.2.2=DT a 2/\w.2.2.2.1=G.2.2.2.1) oa (λnext s i y h=>?_) (λnext s=>?_) _ ⟨X,Y,Z,c4,rfl⟩
  (λw i y h j=>j)).mono λh8 D=>DQ.2 ⟨_,rfl,?_⟩)
 .have l:=(A3.1 h).1;unfold yX;dsimp only;rw[E4,A6 l,A4,ET h,A0,EW oa]
 .simp_all[yX,E4,A9,AA,A8]
 obtain⟨h9,rfl,d1,d2,d3,d4,d5⟩:=D;refine⟨d1,oc,oc,λs=>?_,d4⟩;have:=c5 s;grind[H4]
abbrev IH:=X1 GF×KX X5×KX X5×KX ((DO×DO)×X5)×KX (DO×DO)×KX Int×KX Int
def pW(l:KX Int)(v:Int)(e:l.length<=1099511627776):SI (l,v)=some (decide (v∈l)):=by
 unfold SI yY;dsimp only
 refine JN (DP.2 (Z1.mono (P:=λr=>(0<=r<->v∈l)) (DP.2 ((E_ (r:=lQ) (σ:=Unit) l.length (λ_ i=>(l,v,(l.length:Int),i)) (λi _=>v ∉ l.take i)
  (Q:=λq=>match q with| .inl _=>v ∉ l| .inr n=>0<=n/\v∈l) oa (λnext _ i hi a b=>?_) (λnext _ a=>?_) () oh).mono λq j=>?_)) λr d=>DQ.2 (decide_eq_decide.2 d)))
 .unfold lQ;dsimp only;rw[E4,A6 hi,A4,ET (A1 hi),A0,EW oa,DX];refine DR.2 ⟨λh=>DQ.2 ⟨oa,?_⟩,λh=>b () ?_⟩
  .grind
  .rw[GO (A1 hi)];grind
 .simp_all[lQ,E4,A9,AA,A8,AR,DQ]
 exact zf
noncomputable def MA(w:GF)(m:DO)(t:Int):Int:=match w.1.2.1[t.toNat]? with
 |some y=>FS w.2.1 ((WV (y,m)).getD ([],false)).1
 |none=>0
def MV(w:GF)(c:IQ):X5:=(DY DU c.2.2.2 w.2.2.2.2.1).getD false
def l7(w:GF)(md:KX X5)(c:IQ)(j:Int):Prop:=
 if c.1=1 then j=FS w.2.1 c.2.1 else ∃t∈H4 w c.2.1,(w.2.2.2.2.2=false\/md[t.toNat]?=some true)/\j=MA w c.2.2.1 t
inductive Rch (w:GF) (fs md:List Bool):Int->Prop where
 |entry (e:DO) (h:e∈w.1.2.2.2):Rch w fs md (FS w.2.1 e)
 |step (i:Nat) (f:J4) (c:IQ) (j:Int) (h1:Rch w fs md (i:Int)) (h2:fs[i]?=some true) (h3:w.1.2.2.1[i]?=some f) (h4:c∈f.2.2.1) (h5:MV w c=true) (h6:l7 w md c j):Rch w fs md j
def oZ(a b:KX X5):Prop:=∀i:Nat,a[i]?=some true->b[i]?=some true
theorem oZ.refl(a:KX X5):oZ a a:=λ_ h=>h
theorem oZ.trans{a b c:KX X5}(h:oZ a b)(k:oZ b c):oZ a c:=λi g=>k i (h i g)
def A8d(a:KX X5)(j:Nat):oZ a (a.set j true):=λi h=>by grind
theorem l7.mono{w:GF}{m:KX X5}{c:IQ}(h:l7 w md c j)(k:oZ md m):l7 w m c j:=by
 unfold l7 at h ⊢;by_cases e:c.1=1
 .rwa[if_pos e]at h ⊢
 .rw[if_neg e]at h ⊢;obtain⟨t,a,b,d⟩:=h;exact⟨t,a,b.imp id (k _),d⟩
def Rch.mono{w:GF}{fs a m:KX X5}(h:Rch w fs md j)(k1:oZ fs a)(y:oZ md m):Rch w a m j:=by
 induction h with
 |entry e h=>exact .entry e h
 |step i f c j _ b d l p s x=>exact .step i f c j x (k1 i b) d l p (s.mono y)
theorem APR{l:KX X5}:∀{i:Nat},l[i]?=some false->(l.set i true).countP id=l.countP id+1:=by grind
def Mk(w:GF)(fs:KX X5)(t:Nat):Prop:=∃(i:Nat) (f:J4),fs[i]?=some true/\w.1.2.2.1[i]?=some f/\∃n∈f.2.2.2,FS w.2.2.1 n=(t:Int)
theorem Mk.mono{w:GF}{fs a:KX X5}{t:Nat}(h:Mk w fs t)(k:oZ fs a):Mk w a t:=by obtain⟨i,f,b,d⟩:=h;exact⟨i,f,k i b,d⟩
structure SpI(w:GF)(s:IH)(p k:Nat):Prop where
 w0:s.1=some w
 fl:s.2.1.length=w.1.2.2.1.length
 ml:s.2.2.1.length=w.1.2.1.length
 R4:s.2.1.countP id=p+s.2.2.2.2.2.2.length
 q:∀j∈s.2.2.2.2.2.2,0<=j/\s.2.1[j.toNat]?=some true
 r:∀i:Nat,s.2.1[i]?=some true->Rch w s.2.1 s.2.2.1 (i:Int)
 o:∀x∈s.2.2.2.2.1,∃(i:Nat) (f:J4) (c:IQ),s.2.1[i]?=some true/\w.1.2.2.1[i]?=some f/\c∈f.2.2.1/\MV w c=true/\c.1≠1/\c.2.1=x.1/\c.2.2.1=x.2
 ol:s.2.2.2.2.1.length<=k
 mkd:∀t:Nat,s.2.2.1[t]?=some true->Mk w s.2.1 t
def SpI.few{w:GF}{s:IH}{p:Nat}(h:SpI w s p k):p+s.2.2.2.2.2.2.length<=w.1.2.2.1.length:=by rw[<-h.R4,<-h.fl];grind
section
variable{g:I7}{how:Int}{w:GF}(hw:WoOk g how w)(hg:GB g)
include hw hg
theorem cJ(c:IQ){t:Int}(h0:0<=t)(d:t<g.2.1.length):SJ (some w,c,t)=some (MA w c.2.2.1 t):=by have e:t=((t.toNat:Nat):Int):=oa;have h:t.toNat<g.2.1.length:=oa;have b:=A1 h;have⟨r,a⟩:=A8c g.2.1[t.toNat] c.2.2.1 (hg.t1 _ (AG h)).2.1;unfold SJ;dsimp only;rw[A0,hw.gr,e,ET b,A0,a,A0,A0];unfold MA;rw[hw.gr,BV,b];dsimp only;rw[a];rfl
omit hg in
theorem A15(m:DO)(t:Int)(h:0<g.2.2.1.length):0<=MA w m t/\MA w m t<g.2.2.1.length:=by
 unfold MA;split
 .have:=T1 hw.fn;grind
 .omega
omit hg in
theorem pX{s:IH}{p:Nat}(h:SpI w s p k)(E:Rch w s.2.1 s.2.2.1 j)(h0:0<=j)(I:j<g.2.2.1.length)(J:g.2.2.1.length<=1048576):
 Z1 (UC (s,j)) (λA=>SpI w A p k/\A.2.2.1=s.2.2.1/\A.2.2.2.2.1=s.2.2.2.2.1/\oZ s.2.1 A.2.1/\A.2.1[j.toNat]?=some true):=by
 have l:=h.few;have m:=hw.gr;rw[m]at l;have C:=h.fl;rw[m]at C;obtain⟨b,B⟩:∃b,s.2.1[j.toNat]?=some b:=⟨_,A1 oa⟩;have D:s.2.1.getD j.toNat false=b:=by rw[AH,B];rfl
 unfold UC;dsimp only;refine DP.2 (EY.2 ⟨⟨h0,oa⟩,?_⟩);rw[D];cases b with
 |true=>exact DQ.2 ⟨h,rfl,rfl,oZ.refl _,B⟩
 |false=>
  refine DP.2 (EY.2 ⟨⟨h0,oa⟩,?_⟩);refine DP.2 (FF.2 ⟨oc,DQ.2 ?_⟩);have y:=A8d s.2.1 j.toNat;have z:(s.2.1.set j.toNat true)[j.toNat]?=some true:=by rw[List.getElem?_set,if_pos rfl,if_pos oa]
  refine⟨⟨h.w0,oc,h.ml,?_,λa d=>?_,λi hi=>?_,λx H=>?_,h.ol,λt G=>(h.mkd t G).mono y⟩,rfl,rfl,y,z⟩
  .dsimp only;rw[APR B,h.R4,AL,List.length_singleton];omega
  .rcases AX.1 d with d|d
   .exact⟨(h.q a d).1,y _ (h.q a d).2⟩
   grind
  .dsimp only at hi ⊢;by_cases e:i=j.toNat
   .have:((i:Nat):Int)=j:=oa;rw[this];exact E.mono y (oZ.refl _)
   .rw[List.getElem?_set,if_neg (λh=>e h.symm)]at hi;exact(h.r i hi).mono y (oZ.refl _)
  .obtain⟨i,f,c,k1,K⟩:=h.o x H;grind
theorem APS{s:IH}{p:Nat}(h:SpI w s p k){t:Int}(h0:0<=t)(U:t<g.2.1.length)(hn:g.2.2.1.length<=3000)(hp:k<=1000000)(b:g.1.length*g.2.1.length<=1099511627776)(A:0<g.2.2.1.length)(X:Mk w s.2.1 t.toNat):
 Z1 (lS (s,t)) (λa=>SpI w a p k/\oZ s.2.1 a.2.1):=by
 have l:=hw.gr;have z:=h.ml;rw[l]at z;have Y:=h.ol;have j:=h.few;rw[l]at j;unfold lS;dsimp only;refine DP.2 (EY.2 ⟨⟨h0,oa⟩,DR.2 ⟨λ_=>DQ.2 ⟨h,oZ.refl _⟩,λ_=>?_⟩⟩);refine DP.2 (EY.2 ⟨⟨h0,oa⟩,?_⟩);rw[h.w0,A0];have W:=A8d s.2.2.1 t.toNat;have L:(s.2.2.1.set t.toNat true)[t.toNat]?=some true:=by rw[List.getElem?_set,if_pos rfl,if_pos oa]
 have J:SpI w (some w,(s.2.1,((s.2.2.1.set t.toNat true),(s.2.2.2.1,(s.2.2.2.2.1,(s.2.2.2.2.2.1,s.2.2.2.2.2.2)))))) p k:=
  ⟨rfl,h.fl,oc,h.R4,h.q,λi hi=>(h.r i hi).mono (oZ.refl _) W,h.o,h.ol,λN C=>by
   dsimp only at C ⊢;by_cases e:N=t.toNat
   .grind
   .rw[List.getElem?_set,if_neg (λh=>e h.symm)]at C;exact h.mkd N C⟩
 refine DR.2 ⟨λ_=>DQ.2 ⟨J,oZ.refl _⟩,λ_=>?_⟩;refine DP.2 (Z1.mono (P:=λa=>SpI w a p k/\oZ s.2.1 a.2.1) ?_ λa B=>DQ.2 B)
 refine E_ (r:=lR) (σ:=IH) s.2.2.2.2.1.length (λa i=>(a,t,s.2.2.2.2.1,(s.2.2.2.2.1.length:Int),i)) (λ_ a=>SpI w a p k/\oZ s.2.1 a.2.1/\a.2.2.1=s.2.2.1.set t.toNat true/\a.2.2.2.2.1=s.2.2.2.2.1) oa
  (λnext a i hi I x=>?_) (λnext a I=>?_) _ ⟨J,oZ.refl _,rfl,rfl⟩
 .obtain⟨d,G,H,y⟩:=I;unfold lR;dsimp only;rw[E4,A6 hi,A4,ET (A1 hi),A0,d.w0,A0,EW oa];have K:=pW (H4 w s.2.2.2.2.1[i].1) t (AM (hw.fit _).1 b);unfold H4 at K;rw[K,A0];have m:(a.1,a.2.1,a.2.2.1,a.2.2.2.1,a.2.2.2.2.1,a.2.2.2.2.2.1,a.2.2.2.2.2.2)=a:=rfl;rw[d.w0]at m;refine DR.2 ⟨λV=>?_,λ_=>x _ ⟨oc,G,H,y⟩⟩;rw[cJ hw hg _ h0 U,A0,m];have⟨D,E⟩:=A15 hw s.2.2.2.2.1[i].2 t A;have Z:s.2.2.2.2.1[i]∈a.2.2.2.2.1:=y.symm▸AG hi;have⟨M,f,c,k1,k2,k3,k4,k5,k6,k7⟩:=d.o _ Z;refine DP.2 ((pX hw d (j:=MA w s.2.2.2.2.1[i].2 t) ?_ D E oa).mono λs2 ⟨O,Q,R,T,_⟩=>x s2 ⟨O,G.trans T,Q.trans H,R.trans y⟩);refine .step M f c _ (d.r M k1) k1 k2 k3 k4 ?_;unfold l7;rw[if_neg k5];refine⟨t,?_,.inr oc,by rw[k7]⟩;rw[k6];exact AC V
 .unfold lR;dsimp only;rw[E4,A9 (AA _),A8];grind[DQ]
theorem APT{s:IH}{p:Nat}(h:SpI w s p k)(hn:g.2.2.1.length<=3000)(hp:k<1000000)(K:g.1.length*g.2.1.length<=1099511627776){f:J4}{c:IQ}(hi:s.2.1[i]?=some true)(hf:g.2.2.1[i]?=some f)(T:c∈f.2.2.1)(D:MV w c=true):
 Z1 (lU (s,c)) (λa=>SpI w a p (k+1)/\oZ s.2.1 a.2.1):=by
 have e:=hw.gr;have B:0<g.2.2.1.length:=by have:=(A3.1 hf).1;omega
 have L:=h.ml;rw[e]at L;have h1:=h.ol;have m:=h.few;rw[e]at m;have z:(s.1,s.2.1,s.2.2.1,s.2.2.2.1,s.2.2.2.2.1,s.2.2.2.2.2.1,s.2.2.2.2.2.2)=s:=rfl;have up:∀{a},SpI w a p k->SpI w a p (k+1):=λh=>⟨h.w0,h.fl,h.ml,h.R4,h.q,h.r,h.o,by have:=h.ol;omega,h.mkd⟩;unfold lU;dsimp only;rw[h.w0]at z ⊢;rw[DX];refine DR.2 ⟨λG=>?_,λG=>?_⟩
 .rw[A0,z];have U:=T1 hw.fn c.2.1;rw[AZ]at U;have⟨r0,r1⟩:=U B;refine DP.2 ((pX hw h (j:=FS w.2.1 c.2.1) ?_ r0 r1 oa).mono λV ⟨I,W,X,J,_⟩=>DQ.2 ⟨up I,J⟩);refine .step i f c _ (h.r i hi) hi oc T D ?_;unfold l7;grind
 .have G:=AI G;refine DR.2 ⟨λ_=>DQ.2 (by grind[oZ.refl]),λ_=>?_⟩;refine DP.2 (FF.2 ⟨oc,?_⟩);rw[A0];have Y:SpI w (some w,(s.2.1,(s.2.2.1,((EE (λ(x y:DO×DO)=>DU x.1 y.1&&DU x.2 y.2) (c.2.1,c.2.2.1) true s.2.2.2.1),(s.2.2.2.2.1++[(c.2.1,c.2.2.1)],(s.2.2.2.2.2.1,s.2.2.2.2.2.2)))))) p (k+1):=by
   refine⟨rfl,h.fl,h.ml,h.R4,h.q,h.r,λx H=>?_,oc,h.mkd⟩;rcases AX.1 H with H|H
   .exact h.o x H
   .grind
  have⟨fl,Q⟩:=hw.fit c.2.1;unfold H4 at fl Q;refine DP.2 (Z1.mono (P:=λa=>SpI w a p (k+1)/\oZ s.2.1 a.2.1) ?_ λa M=>DQ.2 M)
  refine E_ (r:=lT) (σ:=IH) ((DY DU c.2.1 w.2.2.2.1).getD []).length (λa i=>(a,c,(DY DU c.2.1 w.2.2.2.1).getD [],(((DY DU c.2.1 w.2.2.2.1).getD []).length:Int),i)) (λ_ a=>SpI w a p (k+1)/\oZ s.2.1 a.2.1) oa
   (λnext a n j R C=>?_) (λnext a R=>?_) _ ⟨Y,oZ.refl _⟩
  .obtain⟨l,E⟩:=R;unfold lT;dsimp only;have d:=AG j;have⟨t0,t1⟩:=Q _ d;have A:=l.ml;rw[e]at A;rw[E4,A6 j,A4,ET (A1 j),A0,l.w0,A0,EW oa];have b:(a.1,a.2.1,a.2.2.1,a.2.2.2.1,a.2.2.2.2.1,a.2.2.2.2.2.1,a.2.2.2.2.2.2)=a:=rfl;rw[l.w0]at b;refine DP.2 (Z1.mono (P:=λ_=>True) (DR.2 ⟨λ_=>EY.2 ⟨⟨t0,oa⟩,trivial⟩,λ_=>DQ.2 trivial⟩) λ_ _=>?_);refine DR.2 ⟨λZ=>?_,λ_=>C _ ⟨oc,E⟩⟩;rw[cJ hw hg _ t0 t1,A0,b];have⟨N,O⟩:=A15 hw c.2.2.1 ((DY DU c.2.1 w.2.2.2.1).getD [])[n] B;refine DP.2 ((pX hw l ?_ N O oa).mono λV ⟨I,W,X,J,_⟩=>C V ⟨I,E.trans J⟩);refine .step i f c _ (l.r i (E i hi)) (E i hi) oc T D ?_;unfold l7;rw[if_neg G];refine⟨_,d,?_,rfl⟩;grind
  simp_all[lT,E4,A9,AA,A8,DQ]
end
structure SpOk(w:GF)(s:IH):Prop where
 w0:s.1=some w
 fl:s.2.1.length=w.1.2.2.1.length
 ml:s.2.2.1.length=w.1.2.1.length
 r:∀i:Nat,s.2.1[i]?=some true->Rch w s.2.1 s.2.2.1 (i:Int)
 mkd:∀t:Nat,s.2.2.1[t]?=some true->Mk w s.2.1 t
theorem zg{p:Prop}(h:p:=by grind[mks?,decide_eq_true]):p:=h
section
variable{g:I7}{how:Int}{w:GF}(hw:WoOk g how w)(hg:GB g)(ho:GrOk g)
include hw hg ho
theorem A8e:Z1 (OB (some w,-1)) (λr=>∃s,r=some s/\SpOk w s):=by
 have d:=hw.gr;have X:=ho.f;have hm:=ho.t;have B:g.1.length*g.2.1.length<=1099511627776:=by have:=Nat.mul_le_mul ho.i ho.t;omega
 have h6:=hg.e0;unfold OB;dsimp only;rw[A0,d];have mk:∀n:Nat,n<=3000->mks? 24 (n:Int) (n:Int) false=some (List.replicate n false):=λn h=>by exact zg
 rw[mk _ X,A0,A0,d,mk _ oa,A0,A0,d];have hS:SpI w (some w,(List.replicate g.2.2.1.length false,(List.replicate g.2.1.length false,(([]:KX ((DO×DO)×X5)),(([]:KX (DO×DO)),(([]:KX Int),([]:KX Int))))))) 0 0:=by
  refine⟨rfl,oc,oc,oh,λj h=>(om),λi h=>?_,λx h=>(om),AD _,λi h=>?_⟩<;>
  .dsimp only at h;rw[D8]at h;split at h<;>cases h
 refine DP.2 (Z1.mono (P:=λs=>SpI w s 0 0) ?_ λr9 U=>?_)
 .refine E_ (r:=lV) (σ:=IH) g.2.2.2.length (λs i=>(some w,s,g.2.2.2,(g.2.2.2.length:Int),i)) (λ_ s=>SpI w s 0 0) oa (λnext s i hi b C=>?_) (λnext s b=>?_) _ hS
  .unfold lV;dsimp only;have m:=AG hi;have⟨y,Z,_⟩:=ho.entries _ m;have K:0<g.2.2.1.length:=List.length_pos_of_mem Z;rw[E4,A6 hi,A4,ET (A1 hi),A0,A0,EW oa];have L:=T1 hw.fn g.2.2.2[i];rw[AZ]at L;have⟨r0,r1⟩:=L K;exact DP.2 ((pX hw b (j:=FS w.2.1 g.2.2.2[i]) (.entry _ oc) r0 r1 oa).mono λM D=>C M D.1)
  simp_all[lV,E4,A9,AA,A8,DQ]
 refine DP.2 (Z1.mono (P:=SpOk w) ?_ λs hs=>DQ.2 ⟨_,rfl,hs⟩);refine EV (R:=SpOk w) (λx=>x.1=some w/\x.2.1= -1/\∃p,SpI w x.2.2 p (200*p)) (λx=>(x.2.2.2.1.countP λb=>!b)+x.2.2.2.2.2.2.2.2.length) (λnext x hI C=>?_) _ _ ⟨rfl,rfl,0,U⟩ ?_
 .obtain⟨w',u,s⟩:=x;obtain⟨e1,e2,p,b⟩:=hI;dsimp only at e1 e2 b C;subst e1 e2;have A:=b.few;have G:=b.R4;have Q:=b.fl;rw[d]at A Q;have H:∀l:KX X5,l.countP id+l.countP (λb=>!b)=l.length:=λl=>by induction l<;>grind
  unfold A66;dsimp only;obtain⟨s1,fs,md,sl,od,ty,R⟩:=s;dsimp only at b A G Q C ⊢;cases R with
  |nil=>rw[show decide ((0:Int)<(([]:KX Int).length:Int))=false from rfl,A8];exact DQ.2 ⟨b.w0,b.fl,b.ml,b.r,b.mkd⟩
  |cons j R=>
   have⟨j0,T⟩:=b.q j AF;dsimp only at T;have h7:=(A3.1 T).1;have ec:((j.toNat:Nat):Int)=j:=oa;obtain⟨f,V⟩:∃f,g.2.2.1[j.toNat]?=some f:=⟨_,A1 oa⟩;rw[BO]at G A;rw[show decide ((0:Int)<((j::R).length:Int))=true from A6 oh,A4];refine DP.2 (EY.2 ⟨⟨oa,oh⟩,?_⟩);refine DP.2 (HY.2 ⟨⟨oa,oc,oa⟩,?_⟩);rw[show((j::R).getD 0 (0:Int))=j from rfl,BV,AR,show(Int.toNat 1)=1 from rfl,List.drop_one,List.tail_cons,show DT j (-1)=false from by grind[DX,decide_eq_false],A8,A0,d];have O:at? g.2.2.1 j=some f:=by rw[<-ec];exact ET V
   rw[O,A0];have b':SpI w (s1,(fs,(md,(sl,(od,(ty,R)))))) (p+1) (200*p):=⟨b.w0,b.fl,b.ml,oc,λa ha=>b.q a (AP _ ha),b.r,b.o,b.ol,b.mkd⟩;have I:=AE V;refine DP.2 (Z1.mono (P:=λs=>SpI w s (p+1) (200*p)/\oZ fs s.2.1) ?_ λx3 ⟨c1,c2⟩=>?_)
   .have h8:=(hg.f1 f I).2.2.2.1;refine E_ (r:=lW) (σ:=IH) f.2.2.2.length (λs i=>(some w,s,f.2.2.2,(f.2.2.2.length:Int),i)) (λ_ s=>SpI w s (p+1) (200*p)/\oZ fs s.2.1) oa (λnext s i hi E z=>?_) (λnext s E=>?_) _ ⟨b',oZ.refl _⟩
    .unfold lW;dsimp only;have m:=AG hi;have⟨y,Z,_⟩:=ho.makes f I _ m;have K:0<g.2.1.length:=List.length_pos_of_mem Z;rw[E4,A6 hi,A4,ET (A1 hi),A0,A0,EW oa];have L:=T1 hw.ty f.2.2.2[i];rw[AZ]at L;have⟨r0,r1⟩:=L K;exact DP.2 ((APS hw hg E.1 (t:=FS w.2.2.1 f.2.2.2[i]) r0 r1 X oa B oa ⟨j.toNat,f,E.2 _ T,oc,_,m,oa⟩).mono λM D=>z M ⟨D.1,E.2.trans D.2⟩)
    simp_all[lW,E4,A9,AA,A8,DQ]
   rw[A0,d,O,A0];have h5:=ho.calls f I;refine DP.2 (Z1.mono (P:=λr=>∃s,r=Sum.inr s/\∃k,k<=200*(p+1)/\SpI w s (p+1) k/\oZ fs s.2.1) ?_ λx4 L=>?_)
   .refine E_ (r:=lX) (σ:=IH) f.2.2.1.length (λs i=>(some w,-1,s,f.2.2.1,(f.2.2.1.length:Int),i)) (λn s=>∃k,k<=200*p+n/\SpI w s (p+1) k/\oZ fs s.2.1) oa (λnext s n J E z=>?_) (λnext s E=>?_) _ ⟨200*p,AD _,c1,c2⟩
    .obtain⟨k,k1,e,N⟩:=E;unfold lX;dsimp only;rw[E4,A6 J,A4,ET (A1 J),A0,A0,EW oa];refine DR.2 ⟨λ_=>z s ⟨k,oa,e,N⟩,λx2=>?_⟩;refine DP.2 ((APT hw hg e X oa B (N _ T) V (AG J) (by grind[MV])).mono λM D=>?_);rw[show decide ((0:Int)<= -1)=false from oi,A8,A0,CU,A8];exact z M ⟨k+1,oa,D.1,N.trans D.2⟩
    .obtain⟨k,k1,e,N⟩:=E;unfold lX;dsimp only;rw[E4,A9 (AA _),A8];exact DQ.2 ⟨s,rfl,k,oa,e,N⟩
   .obtain⟨M,rfl,k,k1,e,N⟩:=L;have Y:=e.ol;have h4:=e.R4;have W:=e.fl;have x0:=H fs;have x1:=H M.2.1;rw[d]at W;refine C _ ⟨rfl,rfl,p+1,⟨e.w0,e.fl,e.ml,e.R4,e.q,e.r,e.o,AM Y k1,e.mkd⟩⟩ ?_;grind
 .dsimp only;have h1:=U.few;rw[d]at h1;have D:r9.2.1.countP (λb=>!b)<=r9.2.1.length:=List.countP_le_length;have h3:=U.fl;grind[fuel]
end
def cK(nx:KX (KX Int)):Prop:=nx.length<=1048576/\∀r∈nx,r.length<=1099511627776/\∀j∈r,0<=j/\j<nx.length
structure Bf(nx:KX (KX Int))(t:Nat)(D:Int)(o q:KX Int)(p cur k:Nat):Prop where
 len:o.length=nx.length
 R4:o.countP (λx=>decide (0<=x))=p+q.length
 t0:o[t]?=some 0
 qin:∀j∈q,0<=j/\∃x:Int,o[j.toNat]?=some x/\0<=x/\D<=x
 low:∀(j:Nat) (x:Int),o[j]?=some x-> -1<=x/\x<=D+1/\x<p+q.length
 pre:∀(j:Nat) (x:Int),o[j]?=some x->0<=x->(x=0/\j=t)\/∃(i:Nat) (y:Int) (r:KX Int),o[i]?=some y/\0<=y/\x=y+1/\nx[i]?=some r/\(j:Int)∈r
 srt:q.Pairwise λa b=>∀x y,o[a.toNat]?=some x->o[b.toNat]?=some y->x<=y
 clo:∀(i:Nat) (y:Int) (r:KX Int),o[i]?=some y->0<=y->nx[i]?=some r->(i:Int)∈q\/∀j∈(if i=cur then r.take k else r),∃x:Int,o[j.toNat]?=some x/\0<=x/\x<=y+1
theorem A8f{l:KX Int}{P:Int->X5}:∀{i:Nat} {a b:Int},l[i]?=some a->P a=false->P b=true->(l.set i b).countP P=l.countP P+1:=by grind
def APU{t:Nat}{D:Int}{p b:Nat}{x:Int}(h:Bf nx t D o q p b k)(m:o[b]?=some D)(K:nx[b]?=some r)(J:r[k]?=some j)
 (M:o[j.toNat]?=some x)(h0:0<=x):Bf nx t D o q p b (k+1):=by
 obtain⟨A,B,C,E,G,H,I,d⟩:=h;refine⟨A,B,C,E,G,H,I,λi y L s z w=>?_⟩;rcases d i y L s z w with d|d
 .exact .inl d
 .refine .inr λa l=>?_;by_cases e:i=b
  .subst e;rw[if_pos rfl]at d l;rw[K]at w;cases w;rw[m]at s;cases s;rw[GO J]at l;rcases AX.1 l with l|l
   .exact d a l
   grind[List.mem_singleton]
  simp_all
def APV{t:Nat}{D:Int}{p l:Nat}{x:Int}(h:Bf nx t D o q p l k)(m:o[l]?=some D)(I:0<=D)(L:nx[l]?=some r)(hj:r[k]?=some j)
 (h9:0<=j)(hx:o[j.toNat]?=some x)(h0:x<0):Bf nx t D (o.set j.toNat (D+1)) (q++[j]) p l (k+1):=by
 obtain⟨h1,h2,U,H,V,W,X,A⟩:=h;have E:j.toNat<o.length:=(A3.1 hx).1;have old:∀(i:Nat) y,o[i]?=some y->0<=y->(o.set j.toNat (D+1))[i]?=some y:=λi y w z=>by rw[List.getElem?_set];by_cases e:j.toNat=i<;>grind
 have s:∀(i:Nat) y,(o.set j.toNat (D+1))[i]?=some y->(i=j.toNat/\y=D+1)\/(i≠j.toNat/\o[i]?=some y):=λi y g=>by rw[List.getElem?_set]at g;by_cases e:j.toNat=i<;>grind
 have K:(o.set j.toNat (D+1))[j.toNat]?=some (D+1):=by rw[List.getElem?_set,if_pos rfl,if_pos E]
 have Y:=(V _ _ m).2.2;refine⟨oc,?_,old _ _ U (AV _),λa d=>?_,λi y g=>?_,λi y g T=>?_,?_,λi y O w z C=>?_⟩
 .grind[A8f,List.length_append,List.length_singleton]
 .rcases AX.1 d with d|d
  .obtain⟨a0,y,w,z⟩:=H a d;grind
  .rw[AO]at d;grind
 .rw[AL,List.length_singleton];rcases s i y g with⟨_,rfl⟩|⟨_,g⟩<;>grind
 .rcases s i y g with⟨e,rfl⟩|⟨_,g⟩
  .refine .inr ⟨l,D,r,old _ _ m I,I,rfl,L,?_⟩;have:((i:Nat):Int)=j:=oa;grind[List.mem_of_getElem?]
  .rcases W i y g T with h|⟨i',Q,O,k1,B,M,k4,k5⟩<;>grind
 .refine DF.2 ⟨?_,C_ _ _,λa d b J G Q w z=>?_⟩
  .refine X.imp_of_mem λ{a b} d J Z G Q w z=>?_;have⟨_,u,k1,B,_⟩:=H a d;grind
  .rw[AO]at J;grind
 .rcases s i y w with⟨e,rfl⟩|⟨e,g⟩
  .refine .inl (BT _ ?_);rw[AO];omega
  .rcases A i y O g z C with A|A
   .grind
   .refine .inr λa d=>?_;have N:(∃x,o[a.toNat]?=some x/\0<=x/\x<=y+1)->∃x,(o.set j.toNat (D+1))[a.toNat]?=some x/\0<=x/\x<=y+1:=λ⟨G,k1,B,M⟩=>⟨G,old _ _ k1 B,B,M⟩;by_cases R:i=l
    .subst R;rw[if_pos rfl]at A d;rw[L]at C;cases C;rw[m]at g;cases g;rw[GO hj]at d;rcases AX.1 d with d|d
     .simp_all
     .rw[AO]at d;grind
    simp_all
def APW(G:cK nx){t:Nat}{D:Int}{p a:Nat}(h:Bf nx t D o q p a 0)(j:o[a]?=some D)(K:0<=D)(z:nx[a]?=some r):
 Z1 (mS (-1,o,q,(a:Int),r,(r.length:Int),0)) (λy=>Bf nx t D y.1 y.2 p a r.length/\y.1[a]?=some D):=by
 have⟨T,A⟩:=G.2 r (AE z);refine E_ (σ:=KX Int×KX Int) r.length (λs k=>(-1,s.1,s.2,(a:Int),r,(r.length:Int),k)) (λk s=>Bf nx t D s.1 s.2 p a k/\s.1[a]?=some D) oa (λnext s k hk H l=>?_) (λnext s H=>?_) (o,q) ⟨h,j⟩
 .obtain⟨e,V⟩:=s;obtain⟨b,c⟩:=H;dsimp only at b c;unfold WW;dsimp only;have d:=A1 hk;have⟨C,U⟩:=A _ (AG hk);have w:(r[k]).toNat<e.length:=by rw[b.len];omega
  obtain⟨E,B⟩:∃E,e[(r[k]).toNat]?=some E:=⟨_,A1 w⟩;have M:=(A3.1 c).1;have N:e.countP (λx=>decide (0<=x))<=e.length:=List.countP_le_length;have Q:=b.len;have O:=b.R4;have L:=(b.low _ _ c).2.2;have R:=G.1;rw[E4,A6 hk,A4,ET d,A0,EW oa];refine DP.2 (EY.2 ⟨⟨C,oa⟩,?_⟩);have I:e.getD (r[k]).toNat 0=E:=by rw[AH,B];rfl
  have J:e.getD ((a:Int)).toNat 0=D:=by rw[AH,BV,c];rfl
  rw[I,J,show DT r[k] (-1)=false from by grind[DX,decide_eq_false],BJ,DM];refine DR.2 ⟨λm=>?_,λm=>?_⟩
  .have m:=AC m;refine DP.2 (EY.2 ⟨⟨oa,oa⟩,?_⟩);refine DP.2 (EY.2 ⟨⟨C,oa⟩,?_⟩);refine DP.2 (FF.2 ⟨oc,?_⟩);rw[EJ oa oa];refine l (_,_) ⟨APV b c K z d C B m,?_⟩;grind
  .exact l (_,_) ⟨APU b c z d B oc,c⟩
 simp_all[WW,E4,A9,AA,A8,DQ]
structure Dist(nx:KX (KX Int))(t:Nat)(o:KX Int):Prop where
 len:o.length=nx.length
 t0:o[t]?=some 0
 low:∀(j:Nat) (x:Int),o[j]?=some x-> -1<=x/\x<nx.length
 pre:∀(j:Nat) (x:Int),o[j]?=some x->0<=x->(x=0/\j=t)\/∃(i:Nat) (y:Int) (r:KX Int),o[i]?=some y/\0<=y/\x=y+1/\nx[i]?=some r/\(j:Int)∈r
 clo:∀(i:Nat) (y:Int) (r:KX Int),o[i]?=some y->0<=y->nx[i]?=some r->∀j∈r,∃x:Int,o[j.toNat]?=some x/\0<=x/\x<=y+1
def A8g(o:KX Int):o.countP (λx=>decide (0<=x))+o.countP (λx=>decide (x<0))=o.length:=by induction o<;>grind
def cL(n:Nat)(o:KX Int):KX Int->Int
 |[]=>n
 |j::_=>o.getD j.toNat 0
def A8h(W:cK nx){t:Nat}(hl:o.length=nx.length)(Y:∀(j:Nat),j<nx.length->o[j]?=some (if j=t then 0 else -1))(ht:t<nx.length):
 Z1 (zR (nx,-1,o,[(t:Int)])) (Dist nx t):=by
 have h5:=W.1
 refine EV (R:=Dist nx t) (λx=>x.1=nx/\x.2.1= -1/\∃p,Bf nx t (cL nx.length x.2.2.1 x.2.2.2) x.2.2.1 x.2.2.2 p nx.length 0) (λx=>x.2.2.2.length+(x.2.2.1.countP λv=>decide (v<0)))
  (λnext x hI G=>?_) _ _ ⟨rfl,rfl,0,?_⟩ ?_
 .obtain⟨d,wo,C,q⟩:=x;obtain⟨R,T,p,b⟩:=hI;dsimp only at R T b G;subst R T;unfold bD;dsimp only;have X:=A8g C;have h4:=b.len;have O:=b.R4;cases q with
  |nil=>
   rw[show decide ((0:Int)<(([]:KX Int).length:Int))=false from rfl,A8];refine DQ.2 ⟨b.len,b.t0,λj x hx=>⟨(b.low j x hx).1,?_⟩,b.pre,λi y r w A B=>?_⟩
   .have:=(b.low j x hx).2.2;omega
   .rcases b.clo i y r w A B with h|h<;>grind
  |cons j q=>
   have⟨j0,D,I,J,_⟩:=b.qin j AF;have h3:=(A3.1 I).1;obtain⟨r,Z⟩:∃r,d[j.toNat]?=some r:=⟨_,A1 oa⟩;have U:((j.toNat:Nat):Int)=j:=oa;rw[show decide ((0:Int)<((j::q).length:Int))=true from A6 oh,A4];refine DP.2 (EY.2 ⟨⟨oa,oh⟩,?_⟩);refine DP.2 (HY.2 ⟨⟨oa,oc,oa⟩,?_⟩);rw[show((j::q).getD 0 (0:Int))=j from rfl,BV,AR,show(Int.toNat 1)=1 from rfl,List.drop_one,List.tail_cons];have K:at? d j=some r:=by rw[<-U];exact ET Z
   rw[K,A0];have eD:cL d.length C (j::q)=D:=by show C.getD j.toNat 0=D;rw[AH,I];rfl
   rw[eD]at b;have b':Bf d t D C q (p+1) j.toNat 0:=by
    refine⟨b.len,oc,b.t0,λa l=>b.qin a (AP _ l),λi y g=>?_,b.pre,(List.pairwise_cons.1 b.srt).2,λi y Q w A B=>?_⟩
    .have:=b.low i y g;grind
    .by_cases e:i=j.toNat
     .grind
     .rw[if_neg e];rcases b.clo i y Q w A B with h|h<;>grind
   have m:=APW W b' I J Z;rw[U]at m;refine DP.2 (m.mono λy hy=>?_);obtain⟨c,N⟩:=hy;obtain⟨s,E⟩:=y;dsimp only at c N;have L:=c.R4;have M:=c.len;have h1:=A8g s;have h2:s.countP (λx=>decide (0<=x))<=s.length:=List.countP_le_length;rw[BO]at O;have V:C.countP (λx=>decide (0<=x))<=C.length:=List.countP_le_length;refine G _ ⟨rfl,rfl,p+1,⟨M,L,c.t0,λa l=>?_,λi x g=>?_,c.pre,c.srt,λi x Q w A B=>?_⟩⟩ oc
   .obtain⟨a0,x,k1,k2,k3⟩:=c.qin a l;refine⟨a0,x,k1,k2,?_⟩;dsimp only at l ⊢;cases E with
    |nil=>cases l
    |cons b E=>
     have⟨b0,z,H,m2,m3⟩:=c.qin b AF;have:cL d.length s (b::E)=z:=by show s.getD b.toNat 0=z;rw[AH,H];rfl
     rw[this];rcases B1.1 l with rfl|l
     .grind
     .exact(List.pairwise_cons.1 c.srt).1 a l _ _ H k1
   .obtain⟨k1,k2,k3⟩:=c.low i x g;refine⟨k1,?_,k3⟩;dsimp only;cases E with
    |nil=>show x<=(d.length:Int)+1;omega
    |cons b E=>
     have⟨b0,z,H,m2,m3⟩:=c.qin b AF;have:cL d.length s (b::E)=z:=by show s.getD b.toNat 0=z;rw[AH,H];rfl
     omega
   .rcases c.clo i x Q w A B with h|h<;>grind
 .dsimp only;have e0:cL nx.length o [(t:Int)]=0:=by show o.getD ((t:Int)).toNat 0=0;rw[AH,BV,Y t ht,if_pos rfl];rfl
  rw[e0];have hv:∀(j:Nat) x,o[j]?=some x->(j=t/\x=0)\/(j≠t/\x= -1):=λj x g=>by grind
  refine⟨hl,?_,by rw[Y t ht,if_pos rfl],λj hj=>?_,λj x g=>?_,λj x g g0=>?_,C_ _ _,λi y r w A B=>?_⟩
  .have e:o=(List.replicate nx.length (-1)).set t 0:=by
    refine BN λi=>?_;rw[List.getElem?_set];by_cases hi:i<nx.length
    .grind
    .rw[CQ oa,if_neg oa,CQ oc]
   simp_all[A8f,D8,if_pos,List.countP_replicate]
  .grind
  .grind
  .grind
  grind
 grind[decide,List.countP_le_length,fuel,List.length_singleton]
def A8i(z:KX Int)(e:z.length<=1048576):zQ (z,(z.length:Int),0)=some (List.replicate z.length (-1)):=by
 refine JN (E_ (σ:=KX Int) z.length (λo i=>(o,(z.length:Int),i)) (λi o=>o.length=z.length/\∀j,j<i->o[j]?=some (-1)) oa (λnext o i hi a b=>?_) (λnext o a=>?_) z ⟨rfl,λj h=>absurd h (Nat.not_lt_zero j)⟩)
 .unfold zP;dsimp only;rw[E4,A6 hi,A4,EW oa];refine DP.2 (EY.2 ⟨⟨oa,by rw[a.1];omega⟩,b _ ⟨oc,λj d=>?_⟩⟩);grind
 .unfold zP;dsimp only;rw[E4,A9 (AA _),A8];refine DQ.2 (BN λj=>?_);grind
def APX(h:cK nx){t:Nat}(d:t<nx.length):Z1 (mT (nx,(t:Int),-1)) (Dist nx t):=by
 have a:=h.1;unfold mT;dsimp only;rw[show mks? 24 (nx.length:Int) (nx.length:Int) (0:Int)=some (List.replicate nx.length 0)from ?_,A0]
 .have:=A8i (List.replicate nx.length 0) oc;rw[this,A0,BA,show DT (t:Int) (-1)=false from by rfl,A8];refine DP.2 (EY.2 ⟨⟨oa,oc⟩,?_⟩);refine DP.2 ((A8h h (by rw[B4,BA]) (λj e=>?_) d).mono λr b=>DQ.2 b);grind
 exact zg
theorem A8j{l:KX Int}{x:Int}:x∈Lib.compact l<->x∈l:=by
 unfold Lib.compact Lib.compactUpTo;have hd:∀j (h:j<l.length),l.toArray[j]! =l[j]:=λj h=>oc;constructor
 .grind
 .intro h;obtain⟨j,d,rfl⟩:=List.mem_iff_getElem.1 h;refine BP.2 ?_;have:∀(n:Nat) (b:n<l.length),∃a,a∈(List.range l.length).filter (Lib.keeps l.toArray)/\l.toArray[a]! =l[n]:=by
   intro n;induction n with
   |zero=>exact λb=>⟨0,D4.2 ⟨CC.2 b,by simp[Lib.keeps]⟩,hd 0 b⟩
   |succ n m=>
    intro b;by_cases e:l[n+1]=l[n]
    .grind
    .refine⟨n+1,D4.2 ⟨CC.2 b,?_⟩,hd _ b⟩;grind[Lib.keeps_pos]
  exact this j d
theorem A8k(l:KX Int):(Lib.compact l).length<=l.length:=by grind[Lib.compact,Lib.compactUpTo,List.length_map,Nat.le_trans,List.length_filter_le]
def cM(w:GF)(b:X5)(md:KX X5)(c:IQ)(j:Int):Prop:=
 if c.1=1 then j=FS w.2.1 c.2.1 else ∃t∈H4 w c.2.1,(b=false\/md[t.toNat]?=some true)/\j=MA w c.2.2.1 t
section
variable{g:I7}{how:Int}{w:GF}(hw:WoOk g how w)(hg:GB g)(ho:GrOk g)
include hw hg ho
theorem A8l(d:X5)(O:md.length=g.2.1.length)(c:IQ)(A:0<g.2.2.1.length):
 Z1 (UH (some w,c,if d=true then some md else none)) (λl=>l.length<=100000/\(∀j,j∈l<->cM w d md c j)/\∀j∈l,0<=j/\j<g.2.2.1.length):=by
 have J:=T1 hw.fn c.2.1;rw[AZ]at J;have E:g.1.length*g.2.1.length<=100000:=by have:=Nat.mul_le_mul ho.i ho.t;omega
 unfold UH;dsimp only;rw[DX];refine DR.2 ⟨λp=>?_,λp=>?_⟩
 .rw[A0];refine DQ.2 ⟨oh,λj=>?_,λj z=>?_⟩
  .unfold cM;rw[if_pos (AC p),AO];rfl
  .rw[AO]at z;subst z;exact J A
 .have p:=AI p;rw[A0];have⟨fl,G⟩:=hw.fit c.2.1;unfold H4 at fl G
  have key:Z1 (z_ (some w,(if d=true then some md else none),c,([]:KX Int),((DY DU c.2.1 w.2.2.2.1).getD []),(((DY DU c.2.1 w.2.2.2.1).getD []).length:Int),0))
   (λl=>l.length<=((DY DU c.2.1 w.2.2.2.1).getD []).length/\∀j,j∈l<->∃t∈(DY DU c.2.1 w.2.2.2.1).getD [],(d=false\/md[t.toNat]?=some true)/\j=MA w c.2.2.1 t):=by
   refine E_ (r:=nN) (σ:=KX Int) ((DY DU c.2.1 w.2.2.2.1).getD []).length (λs i=>(some w,(if d=true then some md else none),c,s,((DY DU c.2.1 w.2.2.2.1).getD []),(((DY DU c.2.1 w.2.2.2.1).getD []).length:Int),i))
    (λi l=>l.length<=i/\∀j,j∈l<->∃t∈((DY DU c.2.1 w.2.2.2.1).getD []).take i,(d=false\/md[t.toNat]?=some true)/\j=MA w c.2.2.1 t) oa (λnext l i hi H C=>?_) (λnext l H=>?_) [] ⟨AD _,λj=>⟨λh=>(om),λ⟨t,h,_⟩=>(om)⟩⟩
   .obtain⟨T,K⟩:=H;unfold nN;dsimp only;have e:=A1 hi;have⟨t0,t1⟩:=G _ (AG hi);rw[E4,A6 hi,A4,ET e,A0,EW oa];generalize ((DY DU c.2.1 w.2.2.2.1).getD [])[i]=t at e t0 t1 ⊢;have R:((t.toNat:Nat):Int)=t:=oa;obtain⟨b,D⟩:∃b,md[t.toNat]?=some b:=⟨_,A1 oa⟩;have B:nilM? (if d=true then some md else none)=some (!d):=by
     cases d with
     |false=>rfl
     |true=>
      cases md with
      |nil=>grind
      |cons a md=>rfl
    rw[B,A0];have Q:(bif (!(!d))then at? ((if d=true then some md else none).getD []) t else some false)=some (d&&b):=by
     cases d with
     |false=>rfl
     |true=>grind[at?,ET]
    rw[Q,A0,cJ hw hg c t0 t1,A0];have I:((!d)||(d&&b))=true<->(d=false\/md[t.toNat]?=some true):=by rw[D];cases d<;>cases b<;>simp
    refine DR.2 ⟨λN=>DP.2 (FF.2 ⟨oc,C _ ⟨oc,λj=>?_⟩⟩),λN=>C _ ⟨oa,λj=>?_⟩⟩
    .rw[GO e,AX,AO,K];grind
    .rw[GO e,K];grind
   .simp_all[nN,E4,A9,AA,A8,AR,DQ]
  refine DP.2 (key.mono λM ⟨U,L⟩=>?_);unfold slices_Sort_int slices_Compact_int;rw[A0,A0];have m:∀j,j∈Lib.compact (M.mergeSort λx y=>decide (x<=y))<->j∈M:=λj=>by grind[A8j,List.mergeSort_perm]
  refine DQ.2 ⟨?_,λj=>?_,λj z=>?_⟩
  .grind[A8k,decide,List.length_mergeSort]
  .rw[m,L];unfold cM;rw[if_neg p];rfl
  .rw[m,L]at z;obtain⟨t,_,_,rfl⟩:=z;exact A15 hw _ _ A
theorem A8m(h:md.length=g.2.1.length)(c:IQ)(a:0<g.2.2.1.length):
 Z1 (UH (some w,c,if w.2.2.2.2.2=true then some md else none)) (λl=>l.length<=100000/\(∀j,j∈l<->l7 w md c j)/\∀j∈l,0<=j/\j<g.2.2.1.length):=A8l hw hg ho _ h c a
end
def APY(k:Nat)(o q:KX Int)(i:Int)(t:KX Int)(n m:Int):E0 nR k (o,q,i,t,n,m)=E0 WW k (-1,o,q,i,t,n,m):=by
 have e:∀(next:KX Int×KX Int×Int×KX Int×Int×Int->X1 (KX Int×KX Int)) (a:Int×KX Int×KX Int×Int×KX Int×Int×Int->X1 (KX Int×KX Int)) (o q:KX Int) (i:Int) (t:KX Int) (n m:Int),
  (∀o q i t n m,next (o,q,i,t,n,m)=a (-1,o,q,i,t,n,m))->nR next (o,q,i,t,n,m)=WW a (-1,o,q,i,t,n,m):=λnext a o q i t n m h=>by
  unfold nR WW;dsimp only;simp only[h];cases decide (m<n)with
  |false=>rfl
  |true=>
   rw[A4,A4];cases at? t m with
   |none=>rfl
   |some y=>
    rw[A0,A0];cases hi:in? o.length y with
    |none=>rfl
    |some u=>
     have h0:0<=y:=by have:=(EY (Q:=λ_=>True)).1 ⟨u,hi,trivial⟩;exact this.1.1
     rw[A0,A0,show DT y (-1)=false from by grind[DX,decide_eq_false],BJ,DM];rfl
 induction k generalizing o q i t n m with
 |zero=>rfl
 |succ k b=>exact e _ _ o q i t n m b
theorem APZ(k:Nat)(b:KX (KX Int))(o q:KX Int):E0 nS k (b,o,q)=E0 bD k (b,-1,o,q):=by
 have e:∀(next:KX (KX Int)×KX Int×KX Int->X1 (KX Int)) (a:KX (KX Int)×Int×KX Int×KX Int->X1 (KX Int)) (b:KX (KX Int)) (o q:KX Int),(∀b o q,next (b,o,q)=a (b,-1,o,q))->nS next (b,o,q)=bD a (b,-1,o,q):=λnext a b o q h=>by simp_all[nS,bD,A03,mS,APY]
 induction k generalizing b o q with
 |zero=>rfl
 |succ k d=>exact e _ _ b o q d
def Ed(w:GF)(s:IH)(i:Nat)(j:Int):Prop:=s.2.1[i]?=some true/\∃(f:J4) (c:IQ),w.1.2.2.1[i]?=some f/\c∈f.2.2.1/\MV w c=true/\l7 w s.2.2.1 c j
def Rws(n:Nat)(b:KX (KX Int))(P:Nat->Int->Prop)(B:Nat):Prop:=b.length=n/\∀(k:Nat) (r:KX Int),b[k]?=some r->r.length<=B/\∀x,x∈r<->P k x
def Rws.mono{b:KX (KX Int)}{Q:Nat->Int->Prop}{B C:Nat}(h:Rws n b P B)(d:∀k x,k<n->(P k x<->Q k x))(e:B<=C):Rws n b Q C:=
 ⟨h.1,λk r a=>⟨AM (h.2 k r a).1 e,λx=>((h.2 k r a).2 x).trans (d k x (by rw[<-h.1];grind))⟩⟩
def A16{b:KX (KX Int)}{B:Nat}(h:Rws n b P B)(k:Nat)(hk:k<n)(x:Int):Rws n (b.set k (b.getD k []++[x])) (λj y=>P j y\/(j=k/\y=x)) (B+1):=by
 refine⟨by rw[B4];exact h.1,λj r d=>?_⟩;have a:k<b.length:=by rw[h.1];exact hk
 rw[List.getElem?_set]at d;by_cases e:k=j
 .subst e;rw[if_pos rfl,if_pos a]at d;cases d;have p:b.getD k []=b[k]:=by rw[AH,A1 a];rfl
  have⟨l,m⟩:=h.2 k _ (A1 a);grind
 .rw[if_neg e]at d;have⟨l,m⟩:=h.2 j r d;grind
def AP_(i:Int)(l:KX Int)(H:l.length<=100000)(D:∀j∈l,0<=j/\j<n){b:KX (KX Int)}{B:Nat}(G:B+100000<=1099511627776)(h:Rws n b P B):
 Z1 (A00 (b,i,l,(l.length:Int),0)) (λa=>Rws n a (λk x=>P k x\/(x=i/\(k:Int)∈l)) (B+100000)):=by
 refine E_ (r:=nO) (σ:=KX (KX Int)) l.length (λs k=>(s,i,l,(l.length:Int),k)) (λm a=>Rws n a (λk x=>P k x\/(x=i/\(k:Int)∈l.take m)) (B+m)) oa (λnext a m w e y=>?_) (λnext a e=>?_) b (h.mono (λk x _=>oh) oa)
 .unfold nO;dsimp only;have d:=A1 w;have⟨z,E⟩:=D _ (AG w);rw[E4,A6 w,A4,ET d,A0,EW oa];generalize l[m]=j at d z E ⊢;have p:j.toNat<a.length:=by rw[e.1];omega
  have A:a.getD j.toNat []=a[j.toNat]:=by rw[AH,A1 p];rfl
  have C:=(e.2 _ _ (A1 p)).1;refine DP.2 (EY.2 ⟨⟨z,oa⟩,DP.2 (FF.2 ⟨oc,DP.2 (EY.2 ⟨⟨z,oa⟩,?_⟩)⟩)⟩);rw[show Nat.beq j.toNat j.toNat=true from CS _,A4,A0];refine y _ ((A16 e j.toNat oa i).mono (λk x hk=>?_) (AD _));rw[GO d,AX,AO];grind
 .unfold nO;dsimp only;rw[E4,A9 (AA _),A8];rw[AR]at e;exact DQ.2 (e.mono (λ_ _ _=>Iff.rfl) oa)
section
variable{g:I7}{how:Int}{w:GF}(hw:WoOk g how w)(hg:GB g)(ho:GrOk g){s:IH}(hs:SpOk w s)
include hw hg ho hs
omit hw hg ho in
theorem A8n:bK (some w,some s)=some (if w.2.2.2.2.2=true then some s.2.2.1 else none):=by unfold bK;grind
theorem APa{t:Nat}(Y:t<g.2.2.1.length):Z1 (nT (some w,some s,(t:Int))) (λd=>∃nx,Dist nx t d/\nx.length=g.2.2.1.length/\∀(k:Nat) r x,nx[k]?=some r->(x∈r<->∃i:Nat,x=(i:Int)/\Ed w s i (k:Int))):=by
 have E:=hw.gr;have hn:=ho.f;have O:=hs.fl;have K:=hs.ml;rw[E]at O K;unfold nT;dsimp only;rw[A0,E];have mk:∀{α:Type} (z:α),mks? 24 (g.2.2.1.length:Int) (g.2.2.1.length:Int) z=some (List.replicate g.2.2.1.length z):=λz=>by exact zg
 rw[mk,A0,A0,E];have h0:Rws g.2.2.1.length (List.replicate g.2.2.1.length ([]:KX Int)) (λ_ _=>False) 0:=⟨BA,λk r M=>by grind⟩;have key:Z1 (A01 (some w,some s,List.replicate g.2.2.1.length ([]:KX Int),g.2.2.1,(g.2.2.1.length:Int),0)) (λb=>Rws g.2.2.1.length b (λk x=>∃i:Nat,x=(i:Int)/\Ed w s i (k:Int)) 60000000000):=by
  refine E_ (r:=nQ) (σ:=KX (KX Int)) g.2.2.1.length (λb i=>(some w,some s,b,g.2.2.1,(g.2.2.1.length:Int),i)) (λm b=>Rws g.2.2.1.length b (λk x=>∃i:Nat,i<m/\x=(i:Int)/\Ed w s i (k:Int)) (20000000*m)) oa (λnext b m R B a=>?_) (λnext b B=>?_) _ (h0.mono (λk x _=>⟨λh=>h.elim,λ⟨i,h,_⟩=>absurd h (Nat.not_lt_zero _)⟩) oa)
  .unfold nQ;dsimp only;have N:=A1 R;have X:=ho.calls _ (AG R);obtain⟨V,D⟩:∃b,s.2.1[m]?=some b:=⟨_,A1 oa⟩;rw[E4,A6 R,A4,ET N,A0,A0,ET D,A0,EW oa];cases V with
   |false=>
    refine a _ (B.mono (λk x _=>⟨λ⟨i,h,W⟩=>⟨i,oa,W⟩,λ⟨i,A,y,C⟩=>⟨i,?_,y,C⟩⟩) oa);have:i≠m:=λe=>by subst e;rw[C.1]at D;cases D
    omega
   |true=>
    refine DP.2 (Z1.mono (P:=λH=>Rws g.2.2.1.length H (λk x=>(∃i:Nat,i<m/\x=(i:Int)/\Ed w s i (k:Int))\/(x=(m:Int)/\∃c∈g.2.2.1[m].2.2.1,MV w c=true/\l7 w s.2.2.1 c (k:Int))) (20000000*m+20000000)) ?_ λH I=>a H (I.mono (λk x _=>?_) oa))
    .refine E_ (r:=nP) (σ:=KX (KX Int)) g.2.2.1[m].2.2.1.length (λb i=>(some w,some s,b,(m:Int),g.2.2.1[m].2.2.1,(g.2.2.1[m].2.2.1.length:Int),i)) (λu H=>Rws g.2.2.1.length H (λk x=>(∃i:Nat,i<m/\x=(i:Int)/\Ed w s i (k:Int))\/(x=(m:Int)/\∃c∈g.2.2.1[m].2.2.1.take u,MV w c=true/\l7 w s.2.2.1 c (k:Int))) (20000000*m+100000*u))
      oa (λnext b u U B a=>?_) (λnext b B=>?_) _ (B.mono (λk x _=>oh) oa)
     .unfold nP;dsimp only;have p:=A1 U;rw[E4,A6 U,A4,ET p,A0,A0,EW oa,A8n hs,A0];generalize g.2.2.1[m].2.2.1[u]=c at p ⊢;refine DR.2 ⟨λL=>?_,λL=>a _ (B.mono (λk x _=>?_) oa)⟩
      .refine DP.2 ((A8m hw hg ho K c oa).mono λl ⟨Z,l2,l3⟩=>?_);refine DP.2 ((AP_ (m:Int) l Z l3 oa B).mono λH I=>a H (I.mono (λk x _=>?_) oa));rw[l2,GO p];constructor
       .rintro((h|⟨A,c',y,C⟩)|⟨A,y⟩)
        .exact .inl h
        .grind
        .exact .inr ⟨A,c,BT _ (AO.2 rfl),L,y⟩
       grind
      .rw[GO p];simp_all[BZ,AX,AO,MV]
     .unfold nP;dsimp only;rw[E4,A9 (AA _),A8];rw[AR]at B;exact DQ.2 (B.mono (λ_ _ _=>Iff.rfl) oa)
    .constructor
     .rintro(⟨i,A,y⟩|⟨A,c,y,C,T⟩)
      .grind
      .exact⟨m,oa,A,D,_,c,oc,y,C,T⟩
     .rintro⟨i,A,y,C⟩;by_cases e:i=m
      .subst e;obtain⟨_,f,c,T,h5,h6,h7⟩:=C;grind
      grind
  .unfold nQ;dsimp only;rw[E4,A9 (AA _),A8];refine DQ.2 (B.mono (λk x _=>⟨λ⟨i,_,h⟩=>⟨i,h⟩,λ⟨i,A,y⟩=>⟨i,?_,A,y⟩⟩) oa);have:=(A3.1 y.1).1;omega
 refine DP.2 (key.mono λb G=>?_);rw[A0,E,mk,A0];have J:A02 (List.replicate g.2.2.1.length (0:Int),((List.replicate g.2.2.1.length (0:Int)).length:Int),0)=some (List.replicate g.2.2.1.length (-1)):=by have:=A8i (List.replicate g.2.2.1.length 0) oc;rw[BA]at this ⊢;exact this
 rw[J,A0];refine DP.2 (EY.2 ⟨⟨oa,oc⟩,?_⟩);have a:cK b:=⟨by rw [G.1]; omega,λr M=>by obtain⟨k,hk,rfl⟩:=List.mem_iff_getElem.1 M;have⟨A,y⟩:=G.2 k _ (A1 hk);refine⟨oa,λj Q=>?_⟩;obtain⟨i,rfl,C⟩:=(y j).1 Q;have:=(A3.1 C.1).1;rw[G.1];omega⟩;unfold A04;rw[APZ];refine DP.2 ((A8h a (t:=t) (by rw[B4,BA,G.1]) (λj Q=>?_) (by rw[G.1];exact Y)).mono λr M=>DQ.2 ⟨b,M,G.1,λk r x hk=>(G.2 k r hk).2 x⟩);rw[G.1]at Q;grind
end
abbrev JY:=(DO×Int)×DO
abbrev L4:=DO×KX JY×KX (DO×DO)
def MB{l:KX α}{i:Int}(h0:0<=i)(a:i<l.length):∃x,at? l i=some x/\l[i.toNat]?=some x:=by have⟨x,b,d⟩:=EL (Q:=λx=>l[i.toNat]?=some x).2 ⟨⟨h0,a⟩,λx h=>h⟩;grind
def UV(w:GF)(s:IH)(f:Nat)(h:JY)(c:IQ)(j:Nat):Prop:=
 ∃(x y:J4) (n:Nat),w.1.2.2.1[f]?=some x/\h=((x.1,(n:Int)),y.1)/\x.2.2.1[n]?=some c/\MV w c=true/\l7 w s.2.2.1 c (j:Int)/\w.1.2.2.1[j]?=some y
def MW(w:GF)(s:IH)(c:IQ)(j:Int)(n:DO):Prop:=∃t∈H4 w c.2.1,s.2.2.1[t.toNat]?=some true/\MA w c.2.2.1 t=j/\∃y,w.1.2.1[t.toNat]?=some y/\y.1=n
def T2(w:GF)(s:IH)(n m:DO):Prop:=∃(i:Nat) (f:J4),s.2.1[i]?=some true/\w.1.2.2.1[i]?=some f/\f.1=m/\n∈f.2.2.2
section
variable{g:I7}{how:Int}{w:GF}(hw:WoOk g how w)(hg:GB g)(ho:GrOk g){s:IH}(hs:SpOk w s)
include hw hg ho hs
theorem APb{d:KX Int}(hd:d.length=g.2.2.1.length){f:Nat}{x:Int}(hf:d[f]?=some x)(hb:-4611686018427387904<=x/\x<=4611686018427387904)(hi:d[i]?=some (x-1))(Z:Ed w s f (i:Int)):
 Z1 (nV (some w,some s,d,(f:Int))) (λq=>∃j:Nat,q.2.2=(j:Int)/\d[j]?=some (x-1)/\UV w s f q.1 q.2.1 j):=by
 have p:=hw.gr;have B:=hs.ml;rw[p]at B;obtain⟨_,fn,c0,A,e2,e3,e4⟩:=Z;rw[p]at A;have h1:=(A3.1 A).1;have Y:=ho.calls fn (AE A);have hn:=ho.f;unfold nV;dsimp only;rw[A0,p,ET A,A0];refine DP.2 (Z1.mono (P:=λr=>match r with| .inl _=>False| .inr q=>∃j:Nat,q.2.2=(j:Int)/\d[j]?=some (x-1)/\UV w s f q.1 q.2.1 j) ?_ λr Q=>?_)
 .refine E_ (r:=A05) (σ:=JY×IQ) fn.2.2.1.length (λz u=>(some w,some s,d,(f:Int),z.1,z.2,fn.2.2.1,(fn.2.2.1.length:Int),u)) (λu _=>∀c∈fn.2.2.1.take u,MV w c=true->∀j,l7 w s.2.2.1 c j->d[j.toNat]?≠some (x-1))
   oa (λnext z u R X C=>?_) (λnext z X=>?_) ((([],0),[]),(0,[],[],[])) (λc h=>om)
  .unfold A05;dsimp only;have e:=A1 R;rw[E4,A6 R,A4,ET e,A0,A0,EW oa];generalize fn.2.2.1[u]=c at e ⊢;refine DR.2 ⟨λK=>C _ λV b E=>?_,λK=>?_⟩
   .rw[GO e]at b;rcases AX.1 b with b|b
    .grind
    grind[List.mem_singleton,MV]
   .rw[A8n hs,A0];refine DP.2 ((A8m hw hg ho B c oa).mono λl ⟨l1,l2,l3⟩=>?_);refine DP.2 (Z1.mono (P:=λr=>match r with| .inl z=>∀j∈l,d[j.toNat]?≠some (x-1)| .inr q=>∃j:Nat,q.2.2=(j:Int)/\d[j]?=some (x-1)/\UV w s f q.1 q.2.1 j) ?_ λO Q=>?_)
    .refine E_ (r:=nU) (σ:=Unit) l.length (λ_ m=>(some w,d,(f:Int),z.1,z.2,(u:Int),c,l,(l.length:Int),m)) (λm _=>∀j∈l.take m,d[j.toNat]?≠some (x-1)) oa (λnext _ m J H D=>?_) (λnext _ H=>?_) () (λj h=>om)
     .unfold nU;dsimp only;have a:=A1 J;have⟨N,T⟩:=l3 _ (AG J);rw[E4,A6 J,A4,ET a,A0,EW oa];generalize l[m]=j at a N T ⊢;have⟨y,hy,L⟩:=MB (l:=d) N oa;rw[hy,A0,ET hf,A0,EJ oa oa,DX];refine DR.2 ⟨λG=>?_,λG=>D () λj' I=>?_⟩
      .have G:=AC G;subst G;have⟨y2,M,h3⟩:=MB (l:=g.2.2.1) N T;rw[A0,p,ET A,A0,A0,p,M,A0];have h2:=(l2 j).1 (AE a);have W:((j.toNat:Nat):Int)=j:=oa;refine DQ.2 ⟨j.toNat,W.symm,L,fn,y2,u,oc,rfl,e,by grind[MV],oc,oc⟩
      .rw[GO a]at I;grind
     simp_all[nU,E4,A9,AA,A8,AR,DQ]
    .cases O with
     |inl U=>refine C (U.1,U.2) λV b E j hj=>?_;rw[GO e]at b;grind
     |inr q=>exact DQ.2 Q
  grind
 grind[DQ]
theorem APc(c:IQ)(to:Int)(D:c.1≠1)(j:l7 w s.2.2.1 c to)(E:w.2.2.2.2.2=true):Z1 (nW (some w,some s,c,to)) (λn=>MW w s c to n):=by
 unfold l7 at j;rw[if_neg D]at j;have l:=hw.gr;have p:=hs.ml;rw[l]at p;have m:g.1.length*g.2.1.length<=100000:=by have:=Nat.mul_le_mul ho.i ho.t;omega
 have⟨fl,B⟩:=hw.fit c.2.1;unfold H4 at fl B;unfold nW;dsimp only;rw[A0];refine DP.2 ((E_ (r:=A06) (σ:=Unit) ((DY DU c.2.1 w.2.2.2.1).getD []).length (λ_ i=>(some w,some s,to,c,((DY DU c.2.1 w.2.2.2.1).getD []),(((DY DU c.2.1 w.2.2.2.1).getD []).length:Int),i)) (λi _=>∀t∈(H4 w c.2.1).take i,¬(s.2.2.1[t.toNat]?=some true/\to=MA w c.2.2.1 t)) (Q:=λq=>match q with| .inl _=>False| .inr n=>MW w s c to n) oa (λnext _ i hi C x=>?_) (λnext _ C=>?_) () (λt h=>om)).mono λq L=>?_)
 .unfold A06;dsimp only;have⟨t0,t1⟩:=B _ (AG hi);have b:=A1 hi;rw[E4,A6 hi,A4,ET b,A0,A0,EW oa];generalize ((DY DU c.2.1 w.2.2.2.1).getD [])[i]=t at b t0 t1 ⊢;have⟨y,H,z⟩:=MB (l:=s.2.2.1) t0 oa;rw[H,A0,cJ hw hg c t0 t1];refine DP.2 (Z1.mono (P:=λr=>y=true->r=MA w c.2.2.1 t) (DR.2 ⟨λ_=>DQ.2 λ_=>rfl,λh=>DQ.2 λe=>oc⟩) λr G=>DR.2 ⟨λd=>?_,λd=>x () λJ a=>?_⟩)
  .obtain⟨K,A,I⟩:=MB (l:=g.2.1) t0 t1;rw[A7,DX,B3]at d;rw[A0,l,A,A0];exact DQ.2 ⟨t,AE b,by rw[z,d.1],by rw[<-G d.1,d.2],K,oc,rfl⟩
  .unfold H4 at a;rw[GO b]at a;rcases AX.1 a with a|a
   .exact C J a
   grind[List.mem_singleton,Option.some.inj,DX]
 .grind[H4,List.take_length]
 grind[DQ]
theorem APd(t:DO)(e:∃m,T2 w s t m):Z1 (nX (some w,some s,t)) (λm=>T2 w s t m):=by
 obtain⟨E,i0,f0,k1,B,_,D⟩:=e;rw[hw.gr]at B;have a:=hw.gr;have d:=hs.fl;rw[a]at d;have C:=ho.f;unfold nX;dsimp only;rw[A0,a];refine DP.2 ((E_ (r:=A07) (σ:=Unit) g.2.2.1.length (λ_ i=>(some s,t,g.2.2.1,(g.2.2.1.length:Int),i)) (λi _=>i<=i0) (Q:=λq=>match q with| .inl _=>False| .inr n=>T2 w s t n) oa (λnext _ i hi l j=>?_) (λnext _ l=>?_) () (AT _)).mono λq p=>?_)
 .unfold A07;dsimp only;have⟨y,z,A⟩:=MB (l:=s.2.1) (i:=(i:Int)) oa oa;rw[E4,A6 hi,A4,ET (A1 hi),A0,A0,z,A0,EW oa];refine DP.2 (Z1.mono (P:=λr=>r=(y&&decide (t∈g.2.2.1[i].2.2.2))) (DR.2 ⟨λh=>?_,λh=>DQ.2 (by rw[h];rfl)⟩) λr x=>DR.2 ⟨λb=>?_,λb=>j () ?_⟩)
  .exact(cG _ _ (Nat.lt_of_le_of_lt (hg.f1 _ (AG hi)).2.2.2.1 oi)).mono λq p=>by grind
  .rw[x,A7,A7,B3]at b;exact DQ.2 ⟨i,g.2.2.1[i],oc,oc,rfl,b.2.2⟩
  grind
 .grind
 grind[DQ]
theorem APe{t:Nat}{d:KX Int}(hd:Dist nx t d)(C:nx.length=g.2.2.1.length)(D:∀(k:Nat) r x,nx[k]?=some r->(x∈r<->∃i:Nat,x=(i:Int)/\Ed w s i (k:Int)))(b:Rch w s.2.1 s.2.2.1 j):
 (0<=j/\∃x,d[j.toNat]?=some x/\0<=x)->∃e∈g.2.2.2,∃x,d[(FS w.2.1 e).toNat]?=some x/\0<=x:=by
 have A:=hw.gr;induction b with
 |entry e h=>grind
 |step i f c j H l m p z I J=>rintro⟨K,x,k1,E⟩;have a:=(A3.1 k1).1;rw[hd.len]at a;have b:=A1 a;have G:((j.toNat:Nat):Int)=j:=oa;have B:=((D _ _ (i:Int) b).2 ⟨i,rfl,l,f,c,m,p,z,oc⟩);have⟨y,L,M,_⟩:=hd.clo j.toNat x _ k1 E b _ B;simp_all
end
theorem A17(s:DO)(v:β):∀m:KX (DO×β),(EE DU s v m).map (·.1)=if s∈m.map (·.1)then m.map (·.1)else m.map (·.1)++[s]:=by intro m;induction m<;>grind[EE,E3]
def APf{s:DO}{v:β}{m:KX (DO×β)}(h:(m.map (·.1)).Nodup):((EE DU s v m).map (·.1)).Nodup:=by rw[A17];grind
def APg(s:DO)(v:β)(m:KX (DO×β)):(EE DU s v m).length<=m.length+1:=by have h:=congrArg List.length (A17 s v m);grind
theorem A8o{a b:KX (DO×DO)}(m:a.Perm b)(D:(b.map (·.1)).Nodup):∃r,r.Perm b/\r.Pairwise (λx y=>x.1<y.1)/\gE (a,(λx=>(SP x).bind λr=>some r))=some r/\gE (b,(λx=>(SP x).bind λr=>some r))=some r:=by
 have l:∀x y:DO×DO,(λx=>(SP x).bind λr=>some r) (x,y)=some (JM x.1 y.1):=λx y=>by grind[SP,bZ]
 have⟨A,B,z,H⟩:=A7u a (λx=>(SP x).bind λr=>some r) (λx=>x.1) l;have⟨I,C,p,w⟩:=A7u b (λx=>(SP x).bind λr=>some r) (λx=>x.1) l;have s:∀r:KX (DO×DO),r.Perm b->r.Pairwise (λa b=>¬b.1<a.1)->r.Pairwise (λa b=>a.1<b.1):=λr G E=>by
  have h:(r.map (·.1)).Nodup:=((G.map (·.1)).nodup_iff).2 D;have h:=List.pairwise_map.1 h;exact(List.Pairwise.and E h).imp λ{a b} ⟨d,j⟩=>by grind
 have e:A=I:=List.Perm.eq_of_pairwise (le:=λx y:DO×DO=>x.1<y.1) (λa b _ _ d j=>absurd j (pH d)) (s _ (z.trans m) H) (s _ p w) ((z.trans m).trans p.symm);subst e;exact⟨A,p,s _ p w,B,C⟩
def APh:∀(o:KX (DO×DO)) (a:DO) (h:KX JY) (m:KX (DO×DO)),m.length+o.length<=1048576->FI W_ o (a,(h,m))=some (.inl (a,(h,m++o))):=by
 intro o;induction o with
 |nil=>grind[FI]
 |cons k o j=>
  intro a h m b;rw[BO]at b;have e:app? 48 m [k]=some (m++[k]):=JN (FF.2 ⟨oc,rfl⟩);have d:W_ k (a,(h,m))=some (.inl (a,(h,m++[k]))):=by unfold W_;dsimp only;rw[e,A0]
  unfold FI;grind
abbrev NT:=IW×Int×KX (KX Int)×KX (KX Int)
def MC(b:IW)(sc:Int)(ix:KX (DO×Int))(l:KX NQ)(k x:Int):Prop:=∃e∈l,e.2.2<=sc/\FS ix e.1=k/\FS ix e.2.1=x
structure GpOk(b:IW)(sc:Int)(g:NT):Prop where
 bl:g.1=b
 root:0<=g.2.1/\g.2.1<b.2.2.2.1.length
 ix:∃ix,OI ix (b.2.2.2.1.map (·.1))/\g.2.1=FS ix b.2.2.1/\Rws b.2.2.2.1.length g.2.2.1 (λk x=>MC b sc ix b.2.2.2.2 (k:Int) x) 20000/\Rws b.2.2.2.1.length g.2.2.2 (λk x=>MC b sc ix b.2.2.2.2 x (k:Int)) 20000
theorem APi{l:KX (KX Int)}{B:Nat}(h:Rws n l P B)(k:Nat)(hk:k<n)(p:∀x,x∈r<->x∈l.getD k [])(s:r.length<=(l.getD k []).length):Rws n (l.set k r) P B:=by
 refine⟨by rw[B4];exact h.1,λd m b=>?_⟩;have a:k<l.length:=by rw[h.1];exact hk
 rw[List.getElem?_set]at b;by_cases e:k=d
 .subst e;rw[if_pos rfl,if_pos a]at b;cases b;have j:l.getD k []=l[k]:=by rw[AH,A1 a];rfl
  have⟨w,y⟩:=h.2 k _ (A1 a);grind
 .rw[if_neg e]at b;exact h.2 d m b
def APj(b:IW)(K:BlOk b)(w:Int):Z1 (mQ (b,w)) (GpOk b w):=by
 have hn:=K.few;have Q:=K.edges;have h6:0<b.2.2.2.1.length:=by have:=List.length_pos_of_mem K.root;rwa[AZ]at this
 unfold mQ;dsimp only
 refine DP.2 ((S_ (σ:=KX (DO×Int)) (α:=F9) b.2.2.2.1 (λs i=>(s,b.2.2.2.1,(b.2.2.2.1.length:Int),i)) (λm i y=>EE DU y.1 (i:Int) m) (λm=>m)
  (λi m=>OI m ((b.2.2.2.1.take i).map (·.1))) oa (λnext s i y h=>?_) (λnext s=>?_) [] A12 (λm i y h hj=>?_)).mono λix l=>?_)
 .have d:=(A3.1 h).1;unfold zK;dsimp only;rw[E4,A6 d,A4,ET h,A0,EW oa]
 .simp_all[zK,E4,A9,AA,A8]
 .exact zi
 obtain⟨h7,rfl,l⟩:=l;rw[AR]at l;have mk:mks? 24 (b.2.2.2.1.length:Int) (b.2.2.2.1.length:Int) ([]:KX Int)=some (List.replicate b.2.2.2.1.length []):=by unfold mks?;rw[A6 (show(0:Int)<=(b.2.2.2.1.length:Int) by omega),A6 (show(b.2.2.2.1.length:Int)<=(b.2.2.2.1.length:Int) by omega),A6 (show(b.2.2.2.1.length:Int).toNat*24<=70368744177664 by omega)];rfl
 rw[mk,A0,A0];have h0:∀ P:Nat->Int->Prop,(∀ k x,¬ P k x)->Rws b.2.2.2.1.length (List.replicate b.2.2.2.1.length ([]:KX Int)) P 0:=λP hP=>⟨BA,λk r hr=>by grind⟩;have B:∀s,0<=FS ix s/\FS ix s<b.2.2.2.1.length:=λs=>by have:=T1 l s;grind
 refine DP.2 (Z1.mono (P:=λg:NT=>g.1=b/\g.2.1=FS ix b.2.2.1/\Rws b.2.2.2.1.length g.2.2.1 (λk x=>MC b w ix b.2.2.2.2 (k:Int) x) 20000/\Rws b.2.2.2.1.length g.2.2.2 (λk x=>MC b w ix b.2.2.2.2 x (k:Int)) 20000) ?_ λg L=>?_)
 .refine E_ (r:=mO) (σ:=NT) b.2.2.2.2.length (λg i=>(w,ix,g,b.2.2.2.2,(b.2.2.2.2.length:Int),i)) (λi g=>g.1=b/\g.2.1=FS ix b.2.2.1/\Rws b.2.2.2.1.length g.2.2.1 (λk x=>MC b w ix (b.2.2.2.2.take i) (k:Int) x) i/\Rws b.2.2.2.1.length g.2.2.2 (λk x=>MC b w ix (b.2.2.2.2.take i) x (k:Int)) i)
   oa (λnext g i hi j G=>?_) (λnext g j=>?_) _ ⟨rfl,rfl,h0 _ λk x ⟨e,h,_⟩=>(om),h0 _ λk x ⟨e,h,_⟩=>(om)⟩
  .obtain⟨H,I,C,D⟩:=j;unfold mO;dsimp only;have z:=A1 hi;rw[E4,A6 hi,A4,ET z,A0,EW oa];generalize b.2.2.2.2[i]=e at z ⊢;refine DR.2 ⟨λp=>?_,λp=>?_⟩
   .have p:=AC p;refine G _ ⟨H,I,C.mono (λk x _=>?_) oa,D.mono (λk x _=>?_) oa⟩
    all_goals
     unfold MC;rw[GO z];constructor
     .rintro⟨E,a,A⟩;exact⟨E,BZ _ a,A⟩
     .rintro⟨E,a,A,J⟩;rcases AX.1 a with a|a
      .exact⟨E,a,A,J⟩
      .rw[AO]at a;subst a;omega
   .have p:=AI p;have⟨O,a1⟩:=B e.1;have⟨c0,c1⟩:=B e.2.1;have R:(DY DU e.1 ix).getD 0=FS ix e.1:=rfl;have T:(DY DU e.2.1 ix).getD 0=FS ix e.2.1:=rfl;rw[R,T];have M:=C.1;have N:=D.1;have Z:(g.2.2.1.getD (FS ix e.1).toNat []).length<=i:=by have d:(FS ix e.1).toNat<g.2.2.1.length:=oa;rw[AH,A1 d];exact(C.2 _ _ (A1 d)).1
    have h5:(g.2.2.2.getD (FS ix e.2.1).toNat []).length<=i:=by have d:(FS ix e.2.1).toNat<g.2.2.2.length:=oa;rw[AH,A1 d];exact(D.2 _ _ (A1 d)).1
    refine DP.2 (EY.2 ⟨⟨O,oa⟩,DP.2 (FF.2 ⟨oc,DP.2 (EY.2 ⟨⟨c0,oa⟩,DP.2 (FF.2 ⟨oc,DP.2 (EY.2 ⟨⟨O,oa⟩,?_⟩)⟩)⟩)⟩)⟩);rw[show Nat.beq (FS ix e.1).toNat (FS ix e.1).toNat=true from CS _,A4,A0];refine DP.2 (EY.2 ⟨⟨c0,oa⟩,?_⟩);rw[show Nat.beq (FS ix e.2.1).toNat (FS ix e.2.1).toNat=true from CS _,A4,A0];refine G _ ⟨H,I,(A16 C _ oa _).mono (λk x _=>?_) oa,(A16 D _ oa _).mono (λk x _=>?_) oa⟩
    all_goals
     unfold MC;rw[GO z];constructor
     .rintro(⟨E,a,A⟩|⟨a,A⟩)
      .exact⟨E,BZ _ a,A⟩
      .exact⟨e,BT _ (AO.2 rfl),oa,oa,oa⟩
     .rintro⟨E,a,A,J,Y⟩;rcases AX.1 a with a|a
      .exact .inl ⟨E,a,A,J,Y⟩
      .rw[AO]at a;subst a;exact .inr ⟨oa,oa⟩
  .unfold mO;dsimp only;rw[E4,A9 (AA _),A8];rw[AR]at j;exact DQ.2 ⟨j.1,j.2.1,j.2.2.1.mono (λ_ _ _=>Iff.rfl) Q,j.2.2.2.mono (λ_ _ _=>Iff.rfl) Q⟩
 .obtain⟨U,V,W,X⟩:=L;refine DP.2 (Z1.mono (P:=GpOk b w) ?_ λg L=>DQ.2 L)
  refine E_ (r:=mP) (σ:=NT) b.2.2.2.1.length (λg i=>(g,(b.2.2.2.1.length:Int),i)) (λ_ g=>g.1=b/\g.2.1=FS ix b.2.2.1/\Rws b.2.2.2.1.length g.2.2.1 (λk x=>MC b w ix b.2.2.2.2 (k:Int) x) 20000/\Rws b.2.2.2.1.length g.2.2.2 (λk x=>MC b w ix b.2.2.2.2 x (k:Int)) 20000)
   oa (λnext g i hi j G=>?_) (λnext g j=>?_) _ ⟨U,V,W,X⟩
  .obtain⟨H,I,C,D⟩:=j;unfold mP slices_Compact_int;dsimp only;have M:=C.1;have N:=D.1;rw[E4,A6 hi,A4,EW oa];refine DP.2 (EY.2 ⟨⟨oa,oa⟩,?_⟩);rw[A0];refine DP.2 (EY.2 ⟨⟨oa,oa⟩,?_⟩);rw[A0];refine DP.2 (EY.2 ⟨⟨oa,oa⟩,?_⟩);rw[show Nat.beq (i:Int).toNat (i:Int).toNat=true from CS _,A4,A0];refine DP.2 (EY.2 ⟨⟨oa,oa⟩,?_⟩);rw[A0];grind[APi,A8j,A8k]
  .unfold mP;dsimp only;rw[E4,A9 (AA _),A8];obtain⟨H,I,C,D⟩:=j;exact DQ.2 ⟨H,oc,ix,l,I,C,D⟩
def APk(l:KX Int)(f:Int->X1 X5)(P:Int->Prop)(x:l.length<=1099511627776)(m:∀j∈l,∃c,f j=some c/\(c=true<->P j))(w:∃j∈l,P j):Z1 (mU (l,f)) (λr=>∃n:Nat,r=(n:Int)/\∃j,l[n]?=some j/\P j):=by
 unfold mU;dsimp only;refine DP.2 (Z1.mono (P:=λq:Sum Unit Int=>match q with| .inl _=>False| .inr r=>∃n:Nat,r=(n:Int)/\∃j,l[n]?=some j/\P j) ?_ λq y=>?_)
 .refine E_ (r:=zT) (σ:=Unit) l.length (λ_ i=>(l,f,(l.length:Int),i)) (λi _=>∀j∈l.take i,¬P j) oa (λnext _ i hi e s=>?_) (λnext _ e=>?_) () (λj h=>om)
  .unfold zT;dsimp only;have a:=A1 hi;have⟨c,b,d⟩:=m _ (AG hi);rw[E4,A6 hi,A4,ET a,A0,EW oa,b,A0];refine DR.2 ⟨λh=>DQ.2 ⟨i,rfl,_,a,d.1 h⟩,λh=>s () λj p=>?_⟩;rw[GO a]at p;grind
  grind
 grind[DQ]
def key_ok{p:Pu}(h:MM p=some 0)(j:p.2.2.2.2.1.length<=1048576):∃k,JV p=some (k,0):=by have e:=AOo (bW p j) h rfl;have⟨l,a,b⟩:=pB p e;have⟨m,d,_⟩:=A7h l b;exact⟨m,by unfold JV;rw[h,A0,show(!(DT (0:Int) 0))=false from rfl,A8,a,A0,d,A0]⟩
section
variable{cs:KX F9}(hn:cs.length<=3000)(hk:∀c∈cs,JV c.2.1=some (HQ c,0)/\(L3 c).length<=1048576)
include hn hk
theorem APl:Z1 (zF ([],cs,(cs.length:Int),0)) (BkOk cs cs.length):=by
 refine E_ cs.length (λm i=>(m,cs,(cs.length:Int),i)) (λi m=>BkOk cs i m) oa (λnext m i hi d e=>?_) (λnext m d=>?_) [] ⟨λk=>List.Pairwise.nil,λk x=>⟨λh=>(om),λ⟨j,_,h,_⟩=>absurd h oa⟩⟩
 .unfold zD;dsimp only;have⟨k1,_⟩:=hk _ (AG hi);rw[E4,A6 hi,A4,ET (A1 hi),A0,k1,A0,EW oa];have p:=bk_len d (HQ cs[i]);refine DP.2 (FF.2 ⟨by grind[J2,HQ],?_⟩);dsimp only;rw[E3,A6 rfl,A4,A0];have l:∀k,J2 (EE DU (HQ cs[i]) ((DY DU (HQ cs[i]) m).getD []++[(i:Int)]) m) k=if k=HQ cs[i]then J2 m k++[(i:Int)]else J2 m k:=λk=>by unfold J2;rw[AOv k];grind
  refine e _ ⟨λk=>?_,λk x=>?_⟩
  .show(J2 (EE DU (HQ cs[i]) ((DY DU (HQ cs[i]) m).getD []++[(i:Int)]) m) k).Pairwise _;rw[l];split
   .rw[DF];refine⟨d.asc _,C_ _ _,λa s b w=>?_⟩;rw[AO]at w;have⟨j,c,z,_,A,_⟩:=(d.mem _ a).1 s;omega
   .exact d.asc k
  .show x∈J2 (EE DU (HQ cs[i]) ((DY DU (HQ cs[i]) m).getD []++[(i:Int)]) m) k<->_;rw[l];have B:=d.mem k x;have y:=A1 hi;grind
 simp_all[zD,E4,A9,AA,A8,DQ]
noncomputable def JO(a:FG)(cs:KX F9)(c i:Nat):X5:=match cs[c]?,a.2.2.2.2.2.2[i]?,(LK a)[i]? with
 |some c,some x,some r=>decide (HQ c=x.1)&&XN x r x.1 (L3 c)
 |_,_,_=>false
noncomputable def A18(a:FG)(cs:KX F9)(c:Nat):KX (Int×Int):=((List.range a.2.2.2.2.2.2.length).filter λi=>JO a cs c i).map λi:Nat=>((c:Int),(i:Int))
noncomputable def NU(a:FG)(cs:KX F9):KX (Int×Int):=(List.range cs.length).flatMap (A18 a cs)
omit hn hk in
theorem A8p(a:FG)(cs:KX F9):(NU a cs).Pairwise MU:=by
 unfold NU;rw[List.pairwise_flatMap];refine⟨λc _=>?_,?_⟩
 .unfold A18;rw[List.pairwise_map];refine((List.pairwise_lt_range).filter _).imp λ{x y} h=>Or.inr ⟨rfl,oa⟩
 .refine(List.pairwise_lt_range).imp λ{c d} h x b y e=>Or.inl ?_;obtain⟨i,_,rfl⟩:=BP.1 b;obtain⟨j,_,rfl⟩:=BP.1 e;omega
omit hn hk in
theorem A19(a:FG)(cs:KX F9)(p:Int×Int):p∈NU a cs<->∃c i:Nat,JO a cs c i=true/\p=((c:Int),(i:Int)):=by
 unfold NU A18;simp only[List.mem_flatMap,BP,D4,CC];constructor
 .grind
 .rintro⟨c,i,h,rfl⟩;have b:=h;unfold JO at b;grind
theorem APm{b:IW}(hb:b.2.2.2.1=cs){m:KM}(H:BkOk cs cs.length m){a:FG}(ha:LI a)(hc:MS a=0):mF (a,b,m)=some (NU a cs):=by
 have⟨G,L,h3,h4⟩:=A0u ha hc;refine JN ?_;unfold mF;dsimp only;rw[G,A0];have z:∀k,(J2 m k).length<=3000:=λk=>AM (bk_len H k) hn;have M:Z1 (zC (m,b,LK a,[],a.2.2.2.2.2.2,(a.2.2.2.2.2.2.length:Int),0)) (λq=>q.Nodup/\∀p,p∈q<->p∈NU a cs):=by
  refine E_ (σ:=KX (Int×Int)) a.2.2.2.2.2.2.length (λo i=>(m,b,LK a,o,a.2.2.2.2.2.2,(a.2.2.2.2.2.2.length:Int),i)) (λi o=>o.length<=3000*i/\o.Nodup/\∀p,p∈o<->∃c j:Nat,j<i/\JO a cs c j=true/\p=((c:Int),(j:Int))) oa (λnext o i hi A w=>?_) (λnext o A=>?_) [] ⟨oh,oh,oh⟩
  .obtain⟨o1,o2,o3⟩:=A;unfold zB;dsimp only;have C:i<(LK a).length:=oa;have R:=A1 hi;have Q:=A1 C;rw[E4,A6 hi,A4,ET R,A0,EW oa];generalize a.2.2.2.2.2.2[i]=x at R ⊢;have E:=h3 _ (AG C);generalize (LK a)[i]=r at Q E;have hH:∀(j:Nat) (c:F9),cs[j]?=some c->HQ c=x.1->(JO a cs j i=true<->XN x r x.1 (L3 c)=true):=λj c hj he=>by grind[JO]
   have h7:=z x.1;have N:(J2 m x.1).Nodup:=(H.asc x.1).imp λ{a b} h6 e=>oa;refine DP.2 (Z1.mono (P:=λq:IW×KX (Int×Int)=>q.1=b/\q.2.length<=3000*i+(J2 m x.1).length/\q.2.Nodup/\∀p,p∈q.2<->p∈o\/∃c:Nat,(c:Int)∈J2 m x.1/\JO a cs c i=true/\p=((c:Int),(i:Int))) ?_ λq B=>?_)
   .refine E_ (r:=mE) (σ:=KX (Int×Int)) (J2 m x.1).length (λo n=>(b,LK a,o,(i:Int),x,J2 m x.1,((J2 m x.1).length:Int),n)) (λn u=>u.length<=3000*i+n/\u.Nodup/\∀p,p∈u<->p∈o\/∃c:Nat,(c:Int)∈(J2 m x.1).take n/\JO a cs c i=true/\p=((c:Int),(i:Int))) oa (λnext u n s K w=>?_) (λnext u K=>?_) o ⟨oa,o2,oh⟩
    .obtain⟨u1,u2,u3⟩:=K;unfold mE;dsimp only;have hy:=A1 s;have⟨j,c,j1,T,j3,j4⟩:=(H.mem x.1 _).1 (AG s);have J:=GO hy;have O:(J2 m x.1)[n] ∉ (J2 m x.1).take n:=λh5=>by rw[<-List.take_append_drop n (J2 m x.1),B2]at N;have hd:=BL s;grind
     rw[E4,A6 s,A4,ET hy,A0,ET Q,A0,EW oa,hb];rw[j3]at O J ⊢;rw[ET T,A0];have⟨g1,_⟩:=A8P x E x.1 (hk c (AE T)).2;have hh:=hH j c T j4;unfold L3 at g1 hh;rw[g1,A0];refine DR.2 ⟨λht=>DP.2 (FF.2 ⟨oc,w _ ⟨oc,?_,λp=>?_⟩⟩),λhf=>w _ ⟨oa,u2,λp=>?_⟩⟩
     .rw[B2];refine⟨u2,oh,λp I q B e=>?_⟩;rw[AO]at B;subst e;rcases(u3 p).1 I with I|⟨Y,k1,_,V⟩<;>grind
     .grind
     .rw[u3,J];simp only[AX,AO];constructor
      .grind
      .rintro(h|⟨Y,k1|k1,U,V⟩)
       .exact .inl h
       .grind
       .have:Y=j:=oa;grind
    .unfold mE;dsimp only;rw[E4,A9 (AA _),A8];rw[AR]at K;exact DQ.2 ⟨rfl,K⟩
   .obtain⟨W,q2,q3,q4⟩:=B;rw[W];refine w q.2 ⟨oa,q3,λp=>?_⟩;rw[q4,o3];constructor
    .grind
    .rintro⟨c,j,k1,U,V⟩;by_cases e:j=i
     .subst e;refine .inr ⟨c,?_,U,V⟩;have l:=U;unfold JO at l;rw[R,Q]at l;split at l
      .rename_i d _ _ Z e2 e3;cases e2;rw[A7,B3]at l;exact(H.mem x.1 _).2 ⟨c,d,(A3.1 Z).1,Z,rfl,l.1⟩
      .cases l
     grind
  .obtain⟨_,o2,o3⟩:=A;unfold zB;dsimp only;rw[E4,A9 (AA _),A8];grind[DQ,A19,JO,List.getElem?_eq_some_iff]
 refine DP.2 (M.mono λo A=>DP.2 ?_);have J:=AOs o (λx=>(mD x).bind λr=>some r) MU (λa b=>?_) (λa h=>?_) (λa b c G L=>?_) λa b c G L h3=>?_
 .refine Z1.mono J λq B=>DQ.2 ?_;have X:∀a b:Int×Int,¬MU a b->¬MU b a->a=b:=λa b G L=>by grind[MU,Prod.ext]
  have D:=A8p a cs;have I:q.Perm (NU a cs):=B.1.trans ((List.perm_ext_iff_of_nodup A.1 (D.imp λ{x y} h e=>by grind[MU])).2 A.2);exact List.Perm.eq_of_pairwise (le:=λa b=>¬MU b a) (λa b _ _ W q2=>X a b q2 W) B.2 (D.imp λ{x y} h h'=>by grind[MU]) I
 .refine⟨MT [OF a.1 b.1,OF a.2 b.2],?_,?_⟩
  .simp_all[mD,pI,A0,A8O]
  .simp only[MT];unfold MU;by_cases h:a.1=b.1
   .rw[if_pos ((cH _ _).2 h)];by_cases h':a.2=b.2<;>simp_all[if_pos,cH,if_neg,A0t]
   simp_all[if_neg,cH,A0t]
 .unfold MU at h;omega
 .unfold MU at *;omega
 grind[MU]
end
noncomputable def T3(cs:KX F9)(a:FG):KX K7:=if a.2.2.2.2.1=true then []else(NU a cs).map λp=>(a.1,cI cs p.1,p.2)
def A1A{a:FG}{cs:KX F9}{p:Int×Int}(h:p∈NU a cs):0<=p.1/\p.1<cs.length/\0<=p.2/\p.2<a.2.2.2.2.2.2.length:=by obtain⟨c,i,b,rfl⟩:=(A19 a cs p).1 h;grind[JO,List.getElem?_eq_some_iff]
def APn{b:IW}(a:FG)(q:KX (Int×Int))(s:∀p∈q,0<=p.1/\p.1<b.2.2.2.1.length)(w:q.length<=1000000)(out:KX K7)(l:out.length<=100000):
 Z1 (zG (b,out,a,q,(q.length:Int),0)) (λr=>match r with| .inl y=>y=(b,out++q.map λp=>(a.1,cI b.2.2.2.1 p.1,p.2))/\y.2.length<=100000| .inr y=>y.1.length<=100000/\y.2≠0):=by
 refine E_ (r:=mG) (σ:=KX K7) q.length (λo i=>(b,o,a,q,(q.length:Int),i)) (λi o=>o=out++(q.take i).map (λp=>(a.1,cI b.2.2.2.1 p.1,p.2))∧o.length≤100000) oa (λnext o i hi e m=>?_) (λnext o e=>?_) out ⟨oh,l⟩
 .unfold mG;dsimp only;have⟨p0,x⟩:=s _ (AG hi);rw[E4,A6 hi,A4,ET (A1 hi),A0,EW oa];refine DR.2 ⟨λ_=>DQ.2 ⟨oh,show(3:Int)≠0 by decide⟩,λh=>?_⟩;rw[DX]at h;have h:=AI h;have⟨c,d,j⟩:=MB (l:=b.2.2.2.1) p0 oa;rw[d,A0];refine DP.2 (FF.2 ⟨oc,m _ ⟨?_,oc⟩⟩);rw[GO (A1 hi),D2,<-CF,<-e.1];grind[cI]
 .unfold mG;dsimp only;rw[E4,A9 (AA _),A8];grind[List.take_length,DQ]
def APo{bs:Bs}(E:BB bs){b:IW}(w:BlB b)(V:∀c∈b.2.2.2.1,c.2.1.2.2.2.1.length<=1048576):Z1 (mI (bs,b)) (λq=>q.1.length<=100000/\(q.2=0->XJ bs/\BlOk b/\(∀c∈b.2.2.2.1,JV c.2.1=some (HQ c,0))/\(∀a∈bs.2.1,MS a=0)/\q.1=bs.2.1.flatMap (T3 b.2.2.2.1))):=by
 unfold mI;dsimp only;refine DP.2 ((A8J bs E).mono λe G=>DR.2 ⟨λh=>DQ.2 ⟨oh,λh0=>(by have h0:e=0:=h0;rw[h0]at h;cases h)⟩,λh=>?_⟩);have L:=G.1 (JX h);refine DP.2 ((A10 b w).mono λe G=>DR.2 ⟨λh=>DQ.2 ⟨oh,λh0=>(oc)⟩,λh=>?_⟩);have z:=G (JX h);have d:∀a∈bs.2.1,MS a=0:=λa l=>by have⟨j,R,e⟩:=List.mem_iff_getElem.1 l;exact((L.2.2.2 j R).1 a oc).1
 have M:=L.2.1;have J:=z.few;have H:∀c∈b.2.2.2.1,JV c.2.1=some (HQ c,0):=λc A=>by have⟨k,hk⟩:=key_ok (z.purl c A) (w.c c A).2.1;grind[HQ]
 have hk:∀c∈b.2.2.2.1,JV c.2.1=some (HQ c,0)/\(L3 c).length<=1048576:=λc A=>⟨H c A,V c A⟩;refine DP.2 ((APl J hk).mono λm T=>?_);refine DP.2 (Z1.mono (P:=λq:Sum (KX K7) (KX K7×Int)=>match q with| .inl o=>o=bs.2.1.flatMap (T3 b.2.2.2.1)/\o.length<=100000| .inr y=>y.1.length<=100000/\y.2≠0) ?_ λq X=>?_)
 .refine E_ (r:=mH) (σ:=KX K7) bs.2.1.length (λo i=>(b,m,o,bs.2.1,(bs.2.1.length:Int),i)) (λi o=>o=(bs.2.1.take i).flatMap (T3 b.2.2.2.1)/\o.length<=100000) oa (λnext o i hi C B=>?_) (λnext o C=>?_) [] ⟨oh,oh⟩
  .unfold mH;dsimp only;have s:=A1 hi;have l:=AG hi;have K:=GO s;rw[E4,A6 hi,A4,ET s,A0,EW oa];rw[K,List.flatMap_append,<-C.1,List.flatMap_singleton]at B;refine DR.2 ⟨λQ=>B o ⟨by unfold T3;grind,C.2⟩,λQ=>?_⟩;have I:(NU bs.2.1[i] b.2.2.2.1).length<=1000000:=by
    have⟨_,_,_,O⟩:=A0u (E _ l) (d _ l);have U:∀p∈NU bs.2.1[i] b.2.2.2.1,p∈(List.range b.2.2.2.1.length).flatMap λc:Nat=>(List.range bs.2.1[i].2.2.2.2.2.2.length).map λj:Nat=>((c:Int),(j:Int)):=λp D=>by have⟨p0,Y,Z,p3⟩:=A1A D;exact List.mem_flatMap.2 ⟨p.1.toNat,CC.2 oa,BP.2 ⟨p.2.toNat,CC.2 oa,Prod.ext ot ot⟩⟩
    have:=List.Nodup.length_le_of_subset ((A8p _ _).imp λ{x y} h e=>by grind[MU]) U;rw[List.length_flatMap]at this;simp only[AZ,List.length_range]at this;have W:((List.range b.2.2.2.1.length).map λ_=>bs.2.1[i].2.2.2.2.2.2.length).sum=b.2.2.2.1.length*bs.2.1[i].2.2.2.2.2.2.length:=by simp[List.map_const']
    have:=Nat.mul_le_mul J O;omega
   rw[APm J hk rfl T (E _ l) (d _ l),A0];refine DP.2 ((APn bs.2.1[i] (NU bs.2.1[i] b.2.2.2.1) (λp D=>⟨(A1A D).1,(A1A D).2.1⟩) I o C.2).mono λr N=>?_);rcases r with r|r
   .obtain⟨r1,r2⟩:=N;simp_all[T3,if_neg]
   .exact DQ.2 N
  .unfold mH;dsimp only;rw[E4,A9 (AA _),A8];grind[List.take_length,DQ]
 exact zf
abbrev GU:=DO×DO×DO×Int×Int×Int×Int
variable{l:KX GU}{ab:GU->X5}
def MX(x y:GU):Prop:=x.2.2.2.2.2.2<y.2.2.2.2.2.2\/(x.2.2.2.2.2.2=y.2.2.2.2.2.2/\x.2.2.2.2.2.1<=y.2.2.2.2.2.1)
theorem APp{x y z:GU}(h:MX x y)(k:MX y z):MX x z:=by unfold MX at *;omega
theorem A8q(x y:GU):MX x y\/MX y x:=by unfold MX;omega
def OJ(l:KX GU)(ab:GU->X5)(b:Int):Prop:=(b= -1/\∀x∈l,ab x=false)\/
 ∃(k:Nat) (y:GU),b=(k:Int)/\l[k]?=some y/\ab y=true/\∀(j:Nat) (x:GU),l[j]?=some x->ab x=true->(j<=k->MX x y)/\(k<j->¬MX y x)
def APq(ab:GU->X5):OJ [] ab (-1):=.inl ⟨rfl,λx h=>om⟩
def APr{α:Type}{l:KX α}{x y:α}{j:Nat}(h:(l++[x])[j]?=some y):(j<l.length/\l[j]?=some y)\/(j=l.length/\y=x):=by grind
def APs{b:Int}(h:OJ l ab b){x:GU}(s:ab x=false):OJ (l++[x]) ab b:=by
 rcases h with⟨rfl,h⟩|⟨k,y,rfl,e,a,m⟩
 .refine .inl ⟨rfl,λz d=>?_⟩;grind
 .refine .inr ⟨k,y,rfl,oc,a,λj z d p=>?_⟩;grind
theorem A8r{b:Int}(h:OJ l ab b){x:GU}(d:ab x=true)(w:b<0\/∃(k:Nat) (y:GU),b=(k:Int)/\l[k]?=some y/\MX y x):OJ (l++[x]) ab (l.length:Int):=by
 refine .inr ⟨l.length,x,rfl,oh,d,λj z a e=>⟨λ_=>?_,λA=>?_⟩⟩
 .rcases APr a with⟨_,a⟩|⟨_,rfl⟩
  .rcases h with⟨rfl,h⟩|⟨k,y,rfl,m,p,s⟩
   .grind
   grind[APp,A8q]
  grind[A8q,id]
 grind
def APt{k:Nat}(h:OJ l ab (k:Int)){x y:GU}(d:l[k]?=some y)(w:¬MX y x):OJ (l++[x]) ab (k:Int):=by
 rcases h with⟨e,h⟩|⟨m,B,e,a,b,p⟩
 .omega
 .have:k=m:=oa;subst this;rw[d]at a;cases a;refine .inr ⟨k,y,rfl,oc,b,λj z A s=>?_⟩;grind
def dn(n:Nat)(b:Int):Int:=if(n:Int)<b then b-1 else b
abbrev KT:=Nat×JY×IQ×Nat
def LkW:Nat->KX KT->Nat->Prop
 |f,[],t=>f=t
 |f,k::K,t=>k.1=f/\LkW k.2.2.2 K t
def LkW.snoc{j k:Nat}{h:JY}{c:IQ}:∀{K:KX KT} {f:Nat},LkW f K j->LkW f (K++[(j,h,c,k)]) k
 |[],_,e=>⟨e.symm,rfl⟩
 |_::_,_,e=>⟨e.1,e.2.snoc⟩
structure WitR(w:GF)(s:IH)(b t:Nat)(K:KX KT)(H:KX JY)(M:KX (DO×DO)):Prop where
 lk:LkW b K t
 hops:H=K.map (·.2.1)
 hop:∀k∈K,UV w s k.1 k.2.1 k.2.2.1 k.2.2.2/\k.1≠k.2.2.2
 srv:w.2.2.2.2.2=true->∀k∈K,k.2.2.1.1=2->∃e∈M,MW w s k.2.2.1 (k.2.2.2:Int) e.1
 use:∀e∈M,T2 w s e.1 e.2/\w.2.2.2.2.2=true/\∃k∈K,k.2.2.1.1=2/\MW w s k.2.2.1 (k.2.2.2:Int) e.1
def WitR.snoc{w:GF}{s:IH}{b j k:Nat}{K:KX KT}{H:KX JY}{M M':KX (DO×DO)}(h:WitR w s b j K H M){q:JY}{c:IQ}(G:UV w s j q c k)(I:j≠k)
 (J:w.2.2.2.2.2=true->c.1=2->∃e∈M',MW w s c (k:Int) e.1)(L:∀e∈M,∃A∈M',A.1=e.1)
 (B:∀e∈M',e∈M\/(T2 w s e.1 e.2/\w.2.2.2.2.2=true/\c.1=2/\MW w s c (k:Int) e.1)):WitR w s b k (K++[(j,q,c,k)]) (H++[q]) M':=by
 refine⟨h.lk.snoc,by rw[h.hops,D2];rfl,λx a=>?_,λC x a l=>?_,λe d=>?_⟩
 .rcases AX.1 a with a|a
  .exact h.hop x a
  grind
 .rcases AX.1 a with a|a
  .obtain⟨e,D,E⟩:=h.srv C x a l;grind
  grind
 .rcases B e d with d|⟨m,p,y,z⟩
  .obtain⟨m,p,x,y,z⟩:=h.use e d;grind
  simp_all
def A1B(g:I7)(how:Int)(fs:KX DO)(tg:DO)(x:L4):Prop:=∃(w:GF) (s:IH) (b t:Nat) (K:KX KT),QT (g,how,fs,tg)=some (some w,((t:Int),0))/\WoOk g how w/\GrOk g/\
 OB (some w,-1)=some (some s)/\SpOk w s/\(∃y,g.2.2.1[b]?=some y/\y.1=x.1)/\x.1∈g.2.2.2/\(∃y,g.2.2.1[t]?=some y/\y.1=tg)/\WitR w s b t K x.2.1 x.2.2/\x.2.2.Pairwise λa b=>a.1<b.1
def APu{s v:DO}:∀{m:KX (DO×DO)} {e:DO×DO},e∈EE DU s v m->e∈m\/e=(s,v):=by
 intro m;induction m with
 |nil=>intro e h;exact .inr (AO.1 h)
 |cons a m b=>intro e h;simp only[EE]at h;grind
def APv{s v:DO}{m:KX (DO×DO)}:(∃e∈EE DU s v m,e.1=s)/\∀e∈m,∃a∈EE DU s v m,a.1=e.1:=by
 have h:=A17 s v m;have key:∀x,(x=s\/x∈m.map (·.1))->∃e∈EE DU s v m,e.1=x:=λx d=>by refine BP.1 ?_;grind
 exact⟨key s (.inl rfl),λe b=>key _ (.inr (List.mem_map_of_mem b))⟩
def AtR(g:I7)(how:Int)(fs:KX DO)(n:DO):Prop:=∃(w:GF) (t:Nat) (s:IH),QT (g,how,fs,n)=some (some w,((t:Int),0))/\OB (some w,-1)=some (some s)/\s.2.1[t]?=some true
section
variable{g:I7}(hg:GB g)(how:Int){fs:KX DO}(hf0:fs.length<=1048576)(hf1:∀s∈fs,s.length<=1048576)
include hg hf0 hf1
theorem A8s:Z1 (aX (g,how,fs)) (λr=>r.2=0->∃w,r.1=some w/\WoOk g how w/\GrOk g):=by unfold aX;dsimp only;refine DP.2 ((APF hg).mono λe j=>DR.2 ⟨λh=>DQ.2 λe0=>(by have e0:e=0:=e0;rw[e0]at h;cases h),λh=>?_⟩);have a:=j (JX h);refine DP.2 ((APG fs hf1).mono λe _=>DR.2 ⟨λh=>DQ.2 λe0=>(by have e0:e=0:=e0;rw[e0]at h;cases h),λ_=>DR.2 ⟨λ_=>DQ.2 λh=>absurd h oi,λ_=>?_⟩⟩);exact DP.2 ((APQ hg a.i a.t how fs hf0).mono λr ⟨w,b,d⟩=>DQ.2 λ_=>⟨w,b,d,a⟩)
theorem A1C:Z1 (SK (g,how,fs)) (λr=>r.1.length<=3000/\∀n∈r.1,AtR g how fs n):=by
 unfold SK;dsimp only;have⟨⟨G,H⟩,hop,B⟩:=A8s hg how hf0 hf1;rw[hop,A0];refine DR.2 ⟨λh=>DQ.2 ⟨oh,λn h=>om⟩,λh=>?_⟩;have e0:H=0:=JX h;have⟨w,d,p,m⟩:=B e0;have d:G=some w:=d;subst d e0;obtain⟨_,b,s,rfl,C⟩:=A8e p hg m;rw[b];have j:=C.fl;rw[p.gr]at j;have z:=m.f;rw[A0,A0]
 refine DP.2 ((E_ (r:=lY) (σ:=KX DO) s.2.1.length (λo i=>(g,o,s.2.1,(s.2.1.length:Int),i)) (λi o=>o.length<=i/\∀ n∈o,∃ (k:Nat) (f:J4),s.2.1[k]? = some true/\g.2.2.1[k]? = some f/\f.1=n)
  (Q:=λo=>o.length<=s.2.1.length/\∀n∈o,∃(k:Nat) (f:J4),s.2.1[k]?=some true/\g.2.2.1[k]?=some f/\f.1=n) oa (λnext o i hi x a=>?_) (λnext o x=>?_) [] ⟨AD _,λn h=>om⟩).mono λq A=>DQ.2 ⟨oc,λn l=>?_⟩)
 .unfold lY;dsimp only;have⟨y,D,E⟩:=MB (l:=g.2.2.1) (i:=(i:Int)) oa oa;have e:=A1 hi;rw[E4,A6 hi,A4,ET e,A0,EW oa,D,A0];refine DR.2 ⟨λI=>DP.2 (FF.2 ⟨oc,a _ ⟨oc,λn z=>?_⟩⟩),λ_=>a _ ⟨oa,x.2⟩⟩;grind
 .simp_all[lY,E4,A9,AA,A8,DQ]
 .obtain⟨k,f,k1,J,K⟩:=A.2 n l;have hi:=A14 p.fn m.fn (i:=k) (s:=n) oc;refine⟨w,k,s,?_,b,k1⟩;unfold QT;grind
theorem APw(tg:DO):Z1 (QT (g,how,fs,tg)) (λr=>r.2.2=0->∃w,∃t:Nat,r.1=some w/\WoOk g how w/\GrOk g/\r.2.1=(t:Int)/\∃y,g.2.2.1[t]?=some y/\y.1=tg):=by
 unfold QT;dsimp only;refine DP.2 ((A8s hg how hf0 hf1).mono λr b=>DR.2 ⟨λh=>DQ.2 λe0=>(by have e0:r.2=0:=e0;rw[e0]at h;cases h),λh=>?_⟩);have⟨w,a,d,j⟩:=b (JX h);rw[a,A0];refine DR.2 ⟨λh=>DQ.2 λe0=>absurd e0 oi,λh=>DQ.2 λ_=>?_⟩;cases e:DY DU tg w.2.1 with
 |none=>grind
 |some i=>have⟨i0,i1⟩:=d.fn.1 _ _ e;grind
theorem A8t(tg:DO):Z1 (X0 (g,how,fs,tg)) (λr=>r.1.2.1.length<=3000/\r.1.2.2.length<=3000/\
 ∀(w:GF) (t:Nat) (s:IH),QT (g,how,fs,tg)=some (some w,((t:Int),0))->OB (some w,-1)=some (some s)->s.2.1[t]?=some true->A1B g how fs tg r.1):=by
 unfold X0;dsimp only;have⟨r1,x2,a1⟩:=APw hg how hf0 hf1 tg;rw[x2,A0];refine DR.2 ⟨λh=>DQ.2 ⟨oh,oh,λw t s h1=>?_⟩,λh=>?_⟩
 .cases A2 h1;cases h
 have⟨w,t,e1,p,G,e2,yt,U,a0⟩:=a1 (JX h);have ht:=(A3.1 U).1;have h7:=p.gr;have hn:=G.f;have a9:=hg.e0;have e3:r1=(some w,((t:Int),0)):=by rw[<-e1,<-e2,<-JX h]
 subst e3;dsimp only;obtain⟨_,y3,s,rfl,H⟩:=A8e p hg G;rw[y3,A0];have y8:=H.fl;have z9:=H.ml;rw[h7]at y8 z9;obtain⟨y,hy⟩:∃y,s.2.1[t]?=some y:=⟨_,A1 oa⟩;rw[A0,ET hy,A0];refine DR.2 ⟨λJ=>DQ.2 ⟨oh,oh,λw' t' s' k1 k2 k3=>?_⟩,λJ=>?_⟩
 .grind
 have J:y=true:=by simpa using J
 subst J;refine DP.2 ((APa p hg G H ht).mono λd ⟨nx,hd,x1,R⟩=>?_);have y7:d.length=g.2.2.1.length:=hd.len.trans x1;have x5:∀e,0<=FS w.2.1 e/\FS w.2.1 e<g.2.2.1.length:=λe=>by have:=T1 p.fn e;grind
 refine DP.2 (Z1.mono (P:=λb=>∃n:Nat,b=(n:Int)/\n<g.2.2.1.length/\(∃e∈g.2.2.2,FS w.2.1 e=(n:Int))/\∃x,d[n]?=some x/\0<=x) ?_ λb8 x3=>?_)
 .obtain⟨e0,E,x0,A,T⟩:=APe p hg G H hd x1 R (H.r t hy) ⟨oa,0,by rw[BV];exact hd.t0,AV _⟩;refine E_ (r:=nY) (σ:=Int) g.2.2.2.length (λb i=>(some w,d,b,g.2.2.2,(g.2.2.2.length:Int),i)) (λi b=>(b= -1/\∀e∈g.2.2.2.take i,∀x,d[(FS w.2.1 e).toNat]?=some x->x<0)\/∃n:Nat,b=(n:Int)/\n<g.2.2.1.length/\(∃e∈g.2.2.2,FS w.2.1 e=(n:Int))/\∃x,d[n]?=some x/\0<=x) oa (λnext b i hi X l=>?_) (λnext b X=>?_) (-1) (.inl ⟨rfl,λe h=>om⟩)
  .unfold nY;dsimp only;have a:=A1 hi;rw[E4,A6 hi,A4,ET a,A0,A0,EW oa];generalize g.2.2.2[i]=e at a ⊢;have⟨r0,r1⟩:=x5 e;unfold FS at r0 r1;have⟨a7,y4,V⟩:=MB (l:=d) r0 oa;rw[y4,A0];refine DP.2 (Z1.mono (P:=λ_=>True) (DR.2 ⟨λ_=>DQ.2 trivial,λ_=>DQ.2 trivial⟩) λc1 _=>?_);refine DP.2 (Z1.mono (P:=λ_=>True) (DR.2 ⟨λhb=>?_,λ_=>DQ.2 trivial⟩) λc2 _=>?_)
   .rcases X with⟨rfl,_⟩|⟨n,rfl,b1,_,x,hx,_⟩
    .grind
    simp_all[EL,trivial]
   .refine DR.2 ⟨λhb=>l _ (.inr ⟨((DY DU e w.2.1).getD 0).toNat,oa,oa,⟨e,AE a,by unfold FS;omega⟩,a7,V,?_⟩),λhb=>l _ ?_⟩
    .grind
    .rcases X with⟨rfl,X⟩|X
     .refine .inl ⟨rfl,λe' I x hx=>?_⟩;rw[GO a]at I;rcases AX.1 I with I|I
      .grind
      grind[List.mem_singleton,FS]
     .exact .inr X
  .unfold nY;dsimp only;rw[E4,A9 (AA _),A8];grind[DQ,List.take_length]
 obtain⟨O,rfl,y6,⟨e0,E,D⟩,x0,A,T⟩:=x3;have a:=A1 y6;have h9:(g.2.2.1[O]).1=e0:=by have⟨y,y1,y2⟩:=G.entries e0 E;have⟨i,hi⟩:=p.fn.2 e0 (BP.2 ⟨y,y1,y2⟩);have B:=(p.fn.1 _ _ hi).2;unfold FS at D;rw[hi,C5]at D;rw[D,BV,AS,a]at B;exact A2 B
 rw[ET a,A0];refine DP.2 (Z1.mono (P:=λr=>r.1.2.2=[]/\r.1.2.1.length<=3000/\r.2.length<=3000/\(r.2.map (·.1)).Nodup/\r.1.1=e0/\∃K,WitR w s O t K r.1.2.1 r.2) ?_ λa6 x4=>?_)
 .refine EV (R:=λr:L4×KX (DO×DO)=>r.1.2.2=[]/\r.1.2.1.length<=3000/\r.2.length<=3000/\(r.2.map (·.1)).Nodup/\r.1.1=e0/\∃ K,WitR w s O t K r.1.2.1 r.2) (λz:X1 GF×Int×X1 IH×KX Int×L4×KX (DO×DO)×Int=>z.1=some w/\z.2.1=(t:Int)/\z.2.2.1=some s/\z.2.2.2.1=d/\z.2.2.2.2.1.2.2=[]/\∃ f:Nat,z.2.2.2.2.2.2=(f:Int)/\∃ x:Int,d[f]? = some x/\0<=x /\
   (z.2.2.2.2.1.2.1.length:Int)+x<=3000/\(z.2.2.2.2.2.1.length:Int)+x<=3000/\(z.2.2.2.2.2.1.map (·.1)).Nodup/\z.2.2.2.2.1.1=e0/\∃K,WitR w s O f K z.2.2.2.2.1.2.1 z.2.2.2.2.2.1) (λz=>(d.getD z.2.2.2.2.2.2.toNat 0).toNat) (λnext z hI l=>?_) fuel (some w,(t:Int),some s,d,((g.2.2.1[O]).1,(([]:KX JY),([]:KX (DO×DO)))),([]:KX (DO×DO)),(O:Int))
   ⟨rfl,rfl,rfl,rfl,rfl,O,rfl,x0,A,T,?_,?_,AW,h9,[],rfl,rfl,λk h=>(om),λ_ k h=>(om),λk h=>(om)⟩ ?_
  .obtain⟨w',t',s',d',o,ty,f'⟩:=z;obtain⟨i1,i2,i3,i4,i5,f,i6,x,i7,i8,i9,a4,L,M,K,W⟩:=hI;dsimp only at i1 i2 i3 i4 i5 i6 i9 a4 L M W l;have i4:=i4.symm;subst i1 i2 i3 i4 i6;have b4:=(hd.low f x i7).2;have a3:d.getD (f:Int).toNat 0=x:=by rw[AH,BV,i7];rfl
   rw[a3]at l;unfold A6f;dsimp only;rw[DX];refine DR.2 ⟨λhc=>?_,λhc=>DQ.2 ⟨i5,oc,oc,L,M,K,oc⟩⟩;have hc:¬(f:Int)=(t:Int):=by simpa using hc
   rcases hd.pre f x i7 i8 with⟨_,e⟩|⟨i,y,r,p1,p2,p3,p4,p5⟩
   .omega
   .obtain⟨i',p6,p7⟩:=(R i r (f:Int) p4).1 p5;have p6:f=i':=oa;subst p6;refine DP.2 ((APb p hg G H y7 i7 oa (i:=i) oc p7).mono λq ⟨j,hj,C,hR⟩=>?_);have h6:f≠j:=by rintro rfl;rw[i7]at C;have:=A2 C;omega
    rw[A0];have b5:d.getD (j:Int).toNat 0=x-1:=by rw[AH,BV,C];rfl
    refine DR.2 ⟨λhm=>?_,λhm=>?_⟩
    .rw[A7,DX,B3]at hm;obtain⟨z3,z4⟩:=hm;have y9:l7 w s.2.2.1 q.2.1 q.2.2:=by obtain⟨_,_,_,_,_,_,_,h,_⟩:=hR;rw[hj];exact h
     refine DP.2 ((APc p hg G H q.2.1 q.2.2 (by rw[z4];decide) y9 z3).mono λN h4=>?_);have z7:∃m,T2 w s N m:=by obtain⟨u,_,u2,_,y,u4,u5⟩:=h4;have⟨i',f',v1,v2,n,v3,v4⟩:=H.mkd _ u2;refine⟨f'.1,i',f',v1,v2,rfl,?_⟩;rw[h7]at v2 u4;have⟨y',z1,z2⟩:=G.makes f' (AE v2) n v3;have⟨i2,h8⟩:=p.ty.2 n (BP.2 ⟨y',z1,z2⟩);have B:=(p.ty.1 _ _ h8).2;unfold FS at v4;rw[h8,C5]at v4;rw[v4,BV,AS,u4]at B;have B:y.1=n:=A2 B;rw[<-u5,B];exact v3
     refine DP.2 ((APd p hg G H N z7).mono λy5 a8=>DP.2 (FF.2 ⟨oc,?_⟩));have b2:=APg N y5 ty;have⟨b7,a5⟩:=APv (s:=N) (v:=y5) (m:=ty);rw[hj]at h4;refine l _ ⟨rfl,rfl,rfl,rfl,i5,j,hj,x-1,C,oa,?_,?_,APf L,M,_,W.snoc hR h6 (λ_ _=>?_) a5 λe Q=>?_⟩ ?_
     .grind
     .grind
     .grind
     .rcases APu Q with Q|rfl<;>grind
     grind
    .refine DP.2 (FF.2 ⟨oc,?_⟩);refine l _ ⟨rfl,rfl,rfl,rfl,i5,j,hj,x-1,C,oa,?_,oc,L,M,_,W.snoc hR h6 (λh1 B=>?_) (λe Q=>⟨e,Q,rfl⟩) λe Q=>.inl Q⟩ ?_
     .grind
     .rw[h1,B]at hm;cases hm
     grind
  .have:=(hd.low _ _ A).2;grind
  .have:=(hd.low _ _ A).2;grind
  .dsimp only;have:=(hd.low _ _ A).2;rw[AH,BV,A];grind[fuel]
 obtain⟨⟨Z,h5,b6⟩,ty⟩:=a6;obtain⟨q1,q0,q2,q3,q4,K,Y⟩:=x4;dsimp only at q1 q0 q2 q3 q4 Y ⊢;subst q1;have⟨r,y0,a2,_,hr⟩:=A8o (List.Perm.refl ty) q3;have b3:=y0.length_eq;refine⟨_,A2A (ω:=((Z,(h5,r)),true,0)) ⟨ty,List.Perm.refl _⟩ λo hp=>?_,q0,oc,λw' t' s' k1 k2 k3=>?_⟩
 .have hl:=hp.length_eq;rw[APh o Z h5 [] oc,A0,D3];grind[A8o]
 .subst q4;exact ⟨w,s,O,t,K,x2,p,G,y3,H,⟨_,a,h9⟩,E,⟨yt,U,a0⟩,⟨Y.lk,Y.hops,Y.hop,λh1 k B h3=>by have⟨e,e1,e2⟩:=Y.srv h1 k B h3;grind,λe Q=>Y.use e (y0.mem_iff.1 Q)⟩,a2⟩
end
abbrev GG:=IW×Int×Bs×KX I7×Int×KX DO×KX GU
abbrev PL:=GG×KX (DO×FG)×KX (DO×F9)×KX (DO×X5)×KX ((DO×DO×Int)×X5)
abbrev Q_:=X1 PL×K7×FG×F9×KX DO×Int×KX DO
abbrev JZ:=DO×DO×Int×Int×Int×KX DO×DO×KX L4×Int
structure PrB(p:GG):Prop where
 bl:BlB p.1
 bv:∀c∈p.1.2.2.2.1,c.2.1.2.2.2.1.length<=1048576
 bs:BB p.2.2.1
 gr:∀g∈p.2.2.2.1,GB g
 f0:p.2.2.2.2.2.1.length<=1048576
 f1:∀s∈p.2.2.2.2.2.1,s.length<=1048576
 s0:p.2.2.2.2.2.2.length<=1048576
 s1:∀s∈p.2.2.2.2.2.2,s.1.length<=1048576/\s.2.1.length<=1048576
def APx(s:DO)(a:s.length<=1048576):Z1 (l_ s) (λ_=>True):=by
 unfold l_;refine DP.2 ((E_ (r:=lZ) s.length (λ_ i=>(s,(s.length:Int),i)) (λ_ _=>True) (Q:=λ_=>True) oa (λnext _ i hi _ h=>?_) (λnext _ _=>?_) () trivial).mono λr _=>?_)
 .unfold lZ;dsimp only;rw[E4,A6 hi,A4,EW oa];simp_all[DP,EL,DR,DQ,trivial]
 .simp_all[lZ,E4,A9,AA,A8,DQ,trivial]
 .cases r<;>exact DQ.2 trivial
def APy(s:DO)(a:s.length<=1048576):Z1 (m7 s) (λ_=>True):=by
 unfold m7;refine DP.2 ((E_ (r:=m6) s.length (λ_ i=>(s,(s.length:Int),i)) (λ_ _=>True) (Q:=λ_=>True) oa (λnext _ i hi _ h=>?_) (λnext _ _=>?_) () trivial).mono λr _=>?_)
 .unfold m6;dsimp only;rw[E4,A6 hi,A4,EW oa];simp_all[DP,EL,Z1.mono,DR,trivial,DQ]
 .simp_all[m6,E4,A9,AA,A8,DQ,trivial]
 .cases r<;>exact DQ.2 trivial
def APz(s:GU)(h:s.1.length<=1048576)(a:s.2.1.length<=1048576):∃e,SL s=some e:=by unfold SL;refine JC.1 (DP.2 ((APx _ h).mono λd _=>DP.2 (Z1.mono (P:=λ_=>True) (DR.2 ⟨λ_=>APy _ a,λ_=>DQ.2 trivial⟩) λj _=>DR.2 ⟨λ_=>DQ.2 trivial,λ_=>?_⟩)));have⟨l,b⟩:=AOy s.2.2.1;simp_all[A0,DR,DQ,trivial]
def AQ0(l:KX GU)(x:l.length<=1048576)(b:∀s∈l,s.1.length<=1048576/\s.2.1.length<=1048576):Z1 (z6 (l,(l.length:Int),0)) (λq=>match q with| .inl _=>∀s∈l,SL s=some 0| .inr e=>e≠0/\¬∀s∈l,SL s=some 0):=by
 refine E_ (r:=mA) (σ:=Unit) l.length (λ_ i=>(l,(l.length:Int),i)) (λi _=>∀s∈l.take i,SL s=some 0) oa (λnext _ i hi m w=>?_) (λnext _ m=>?_) () (λs h=>om)
 .unfold mA;dsimp only;have a:=A1 hi;have⟨d,j⟩:=b _ (AG hi);have⟨e,p⟩:=APz _ d j;rw[E4,A6 hi,A4,ET a,A0,EW oa,p,A0,DX];refine DR.2 ⟨λh=>?_,λh=>w () λs b=>?_⟩
  .grind[DQ,List.getElem_mem,Option.some.inj]
  .have h:e=0:=by simpa using h
   subst h;rw[GO a]at b;grind
 simp_all[mA,E4,A9,AA,A8,AR,DQ]
structure PrOk(p:GG):Prop where
 bl:BlOk p.1
 bs:XJ p.2.2.1
 gr:p.2.2.2.1.length<=1
 st:p.2.2.2.2.2.2.length<=2000
def AQ1(p:GG)(a:PrB p):Z1 (aY p) (λe=>e=0->p.2.2.2.1.length<=1):=by unfold aY;refine DR.2 ⟨λ_=>DQ.2 λh=>absurd h oi,λh=>?_⟩;have h:=AI h;refine DR.2 ⟨λ_=>DR.2 ⟨λ_=>DQ.2 λh=>absurd h oi,λ_=>DQ.2 λ_=>oa⟩,λh0=>?_⟩;rw[DX]at h0;have h0:=AI h0;refine DP.2 (EL.2 ⟨⟨oa,oa⟩,λg b=>?_⟩);exact DP.2 ((A1C (a.gr g (AE b)) _ a.f0 a.f1).mono λr _=>DQ.2 λ_=>oa)
def AQ2(p:GG)(b:PrB p):Z1 (P2 p) (λe=>e=0->PrOk p/\∀s∈p.2.2.2.2.2.2,SL s=some 0):=by
 unfold P2;refine DP.2 ((A10 p.1 b.bl).mono λe a=>DR.2 ⟨λh=>DQ.2 λh0=>(by have h0:e=0:=h0;rw[h0]at h;cases h),λh=>?_⟩);have j:=a (JX h);refine DR.2 ⟨λ_=>DQ.2 λh=>absurd h oi,λ_=>?_⟩;refine DP.2 ((A8J p.2.2.1 b.bs).mono λe a=>DR.2 ⟨λh=>DQ.2 λh0=>(by have h0:e=0:=h0;rw[h0]at h;cases h),λh=>?_⟩);have l:=a.1 (JX h);refine DP.2 ((AQ1 p b).mono λe a=>DR.2 ⟨λh=>DQ.2 λh0=>(oc),λh=>?_⟩);have m:=a (JX h);refine DR.2 ⟨λ_=>DQ.2 λh=>absurd h oi,λd=>?_⟩;have d:=AI d;refine DP.2 ((AQ0 _ b.s0 b.s1).mono λq w=>?_);cases q with
 |inl u=>exact DQ.2 λ_=>⟨⟨j,l,m,oa⟩,w⟩
 |inr e=>exact zf
def MY(p:GG)(l:KX GU):GG:=(p.1,p.2.1,p.2.2.1,p.2.2.2.1,p.2.2.2.2.1,p.2.2.2.2.2.1,l)
def pY{X R σ α:Type}{r:(X->X1 R)->X->X1 R}(l:KX α)(enc:σ->Int->X)(f:σ->α->σ)(out:σ->R)(d:l.length<=1099511627776)
 (e:∀next s (i:Nat) y,l[i]?=some y->r next (enc s (i:Int))=next (enc (f s y) ((i:Int)+1)))(a:∀next s,r next (enc s (l.length:Int))=some (out s))(s0:σ):E0 r fuel (enc s0 0)=some (out (l.foldl f s0)):=by
 refine JN ((S_ l enc (λs _ y=>f s y) out (λi s=>s=(l.take i).foldl f s0) d (λnext s i y h=>e next s i y h) a s0 rfl (λs i y h b=>?_)).mono λq ⟨s,j,m⟩=>?_)
 .rw[GO h,List.foldl_append,<-b];rfl
 grind
def A8u{j:Type}(d:j->DO):∀(l:KX j) (m:KX (DO×j)),l.Pairwise (λa b=>d a<d b)->∀a∈l,DY DU (d a) (l.foldl (λm a=>EE DU (d a) a m) m)=some a:=by
 have p:∀(l:KX j) (m:KX (DO×j)) (s:DO) (b:j),DY DU s m=some b->(∀a∈l,d a≠s)->DY DU s (l.foldl (λm a=>EE DU (d a) a m) m)=some b:=by
  intro l;induction l with
  |nil=>simp
  |cons a l z=>intro m s b h y;refine z _ s b ?_ λc x=>y c (AP _ x);rw[UU,if_neg (λe=>y a AF e.symm)];exact h
 intro l;induction l with
 |nil=>simp
 |cons b l z=>
  intro m A a w;have⟨B,C⟩:=List.pairwise_cons.1 A;rcases B1.1 w with rfl|w
  .exact p l _ _ _ (by rw[UU,if_pos rfl]) λc x e=>by grind
  grind
abbrev LL:DO×DO×Int->DO×DO×Int->X5:=λ(x y:DO×DO×Int)=>DU x.1 y.1&&(λ(x y:DO×Int)=>DU x.1 y.1&&DT x.2 y.2) x.2 y.2
def H2(sc:Int)(l:KX NQ):KX ((DO×DO×Int)×X5):=l.foldl (λm e=>if e.2.2<=sc then EE LL (e.1,(e.2.1,(0:Int))) true m else m) []
def AQ3(q:GG)(l:KX FG)(d:l.length<=1099511627776)(m:KX (DO×FG))(X:KX (DO×F9)×KX (DO×X5)×KX ((DO×DO×Int)×X5)):
 zH ((q,(m,X)),l,(l.length:Int),0)=some (q,l.foldl (λm a=>EE DU a.1 a m) m,X):=by
 refine pY (r:=mJ) l (λm i=>((q,(m,X)),l,(l.length:Int),i)) (λm a=>EE DU a.1 a m) (λm=>(q,m,X)) d (λnext s i y h=>?_) (λnext s=>?_) m
 .have b:=(A3.1 h).1;unfold mJ;dsimp only;rw[E4,A6 b,A4,ET h,A0,EW oa]
 simp_all[mJ,E4,A9,AA,A8]
def AQ4(q:GG)(l:KX F9)(d:l.length<=1099511627776)(m:KX (DO×F9))(A:KX (DO×FG))(X:KX (DO×X5)×KX ((DO×DO×Int)×X5)):
 zI ((q,(A,(m,X))),l,(l.length:Int),0)=some (q,A,l.foldl (λm a=>EE DU a.1 a m) m,X):=by
 refine pY (r:=mK) l (λm i=>((q,(A,(m,X))),l,(l.length:Int),i)) (λm a=>EE DU a.1 a m) (λm=>(q,A,m,X)) d (λnext s i y h=>?_) (λnext s=>?_) m
 .have b:=(A3.1 h).1;unfold mK;dsimp only;rw[E4,A6 b,A4,ET h,A0,EW oa]
 simp_all[mK,E4,A9,AA,A8]
def AQ5(q:GG)(l:KX NQ)(b:l.length<=1099511627776)(A:KX (DO×FG))(C:KX (DO×F9))(R:KX (DO×X5)):
 zJ (q,(q,(A,(C,(R,[])))),l,(l.length:Int),0)=some (q,q,A,C,R,H2 q.2.1 l):=by
 refine pY (r:=mL) l (λm i=>(q,(q,(A,(C,(R,m)))),l,(l.length:Int),i)) (λm e=>if e.2.2<=q.2.1 then EE LL (e.1,(e.2.1,(0:Int))) true m else m) (λm=>(q,q,A,C,R,m)) b (λnext s i y h=>?_) (λnext s=>?_) []
 .have a:=(A3.1 h).1;unfold mL;dsimp only;rw[E4,A6 a,A4,ET h,A0,EW oa];grind
 simp_all[mL,E4,A9,AA,A8]
noncomputable def cS(l:KX DO)(v:DO):X5:=(L1 (l,v)).getD false
theorem A1D(l:KX DO)(v:DO)(a:l.length<=1048576):L1 (l,v)=some (cS l v):=by have⟨r,h,_⟩:=A0s (l,v) a;grind[cS]
noncomputable def XQ(name:DO)(a:FG)(c:F9)(x:GU):X5:=
 (DU x.1 a.1||cS a.2.1 x.1)&&((DU x.2.1 []||DU x.2.1 name)&&((bF (x.2.2.1,c.2.1)).getD (false,0)).1)
def AQ6(s:PL)(x:GU)(a:FG)(c:F9)(b:a.2.1.length<=1048576)(h:c.2.1.2.2.2.2.1.length<=1048576):nG (some s,x,a,c)=some (XQ s.1.1.1 a c x):=by have⟨r,d⟩:=AP9 x.2.2.1 c.2.1 h;grind[nG,XQ,A1D,DU,cS]
theorem A8v(x y:GU):((((DU x.1 y.1)&&((DU x.2.1 y.2.1)&&((DU x.2.2.1 y.2.2.1)&&((DT x.2.2.2.1 y.2.2.2.1)&&((DT x.2.2.2.2.1 y.2.2.2.2.1)&&((DT x.2.2.2.2.2.1 y.2.2.2.2.2.1)&&(DT x.2.2.2.2.2.2 y.2.2.2.2.2.2)))))))||(decide (y.2.2.2.2.2.2<x.2.2.2.2.2.2)))||((DT x.2.2.2.2.2.2 y.2.2.2.2.2.2)&&(decide (y.2.2.2.2.2.1<=x.2.2.2.2.2.1))))=true<->MX y x:=by unfold MX;simp only[E3,DX,CD,A7,B3];omega
def AQ7(s:PL)(a:FG)(c:F9)(A:a.2.1.length<=1048576)(C:c.2.1.2.2.2.2.1.length<=1048576)(H:s.1.2.2.2.2.2.2.length<=1048576):Z1 (nI (some s,a,c)) (λb=>OJ s.1.2.2.2.2.2.2 (XQ s.1.1.1 a c) b):=by
 unfold nI;dsimp only;rw[A0];refine DP.2 (Z1.mono (P:=λb=>OJ s.1.2.2.2.2.2.2 (XQ s.1.1.1 a c) b) ?_ λb l=>DQ.2 l);refine E_ (r:=nH) (σ:=Int) s.1.2.2.2.2.2.2.length (λb i=>(some s,a,c,b,s.1.2.2.2.2.2.2,(s.1.2.2.2.2.2.2.length:Int),i)) (λi b=>OJ (s.1.2.2.2.2.2.2.take i) (XQ s.1.1.1 a c) b) oa (λnext b i hi j p=>?_) (λnext b j=>?_) (-1) (APq _)
 .unfold nH;dsimp only;have e:=A1 hi;rw[E4,A6 hi,A4,ET e,A0,EW oa,AQ6 s _ a c A C,A0];rw[GO e]at p;generalize s.1.2.2.2.2.2.2[i]=x at e p ⊢;have w:(s.1.2.2.2.2.2.2.take i).length=i:=by rw[BK];omega
  refine DR.2 ⟨λh=>p b (APs j (by simpa using h)),λh=>?_⟩;have z:XQ s.1.1.1 a c x=true:=by simpa using h
  refine DR.2 ⟨λl=>?_,λl=>?_⟩
  .have:=A8r j z (.inl (AC l));grind
  .have l:=AI l;rw[A0];obtain⟨k,y,rfl,d,E,G⟩:∃(k:Nat) (y:GU),b=(k:Int)/\(s.1.2.2.2.2.2.2.take i)[k]?=some y/\True/\True:=by rcases j with⟨rfl,_⟩|⟨k,y,rfl,D,_⟩<;>grind
   have m:s.1.2.2.2.2.2.2[k]?=some y:=by
    rw[B0]at d;split at d
    .exact d
    .cases d
   rw[ET m,A0];refine DR.2 ⟨λh=>?_,λh=>p _ (APt j d λB=>?_)⟩
   .have:=A8r j z (.inr ⟨k,y,rfl,d,(A8v x y).1 h⟩);grind
   grind[A8v]
 simp_all[nH,E4,A9,AA,A8,AR,DQ]
noncomputable def UW(fs:KX DO)(ref:DO)(f:J4):X5:=DU f.2.1 ref&&(DT (fs.length:Int) 0||cS fs f.1)
def A8w(s:X1 PL)(h:K7)(a:FG)(c:F9)(pa:KX DO)(k:Int)(wk:KX DO){x:Af}(b:a.2.2.2.2.2.2[h.2.2.toNat]?=some x)(h0:0<=h.2.2):WX (s,h,a,c,pa,k,wk)=some x.2.2.2.2:=by unfold WX;dsimp only;have e:h.2.2=((h.2.2.toNat:Nat):Int):=oa;rw[e,ET b,A0]
def AQ8(s:X1 PL)(h:K7)(a:FG)(c:F9)(pa:KX DO)(k:Int)(wk:KX DO){x:Af}(B:a.2.2.2.2.2.2[h.2.2.toNat]?=some x)(h0:0<=h.2.2)(p:x.2.2.2.2.length<=1048576)(fs:KX J4)(y:wk.length+fs.length<=1099511627776):
 zW (h,(s,(h,(a,(c,(pa,(k,wk)))))),fs,(fs.length:Int),0)=some (h,s,h,a,c,pa,k,wk++(fs.filter (UW x.2.2.2.2 h.2.1)).map (·.1)):=by
 have key:=E_ (r:=nJ) (σ:=KX DO) (Q:=λq=>q=(h,s,h,a,c,pa,k,wk++(fs.filter (UW x.2.2.2.2 h.2.1)).map (·.1))) fs.length (λw i=>(h,(s,(h,(a,(c,(pa,(k,w)))))),fs,(fs.length:Int),i))
  (λi w=>w=wk++((fs.take i).filter (UW x.2.2.2.2 h.2.1)).map (·.1)) oa (λnext w i hi j d=>?_) (λnext w j=>?_) wk oh
 .exact JN key
 .unfold nJ;dsimp only;have b:=A1 hi;have m:=A8w s h a c pa k w B h0;have A:w.length<=wk.length+i:=by rw[j,AL,AZ];have:=CP (UW x.2.2.2.2 h.2.1) (fs.take i);rw[BK]at this;omega
  rw[E4,A6 hi,A4,ET b,A0,EW oa,m];rw[GO b,List.filter_append,D2,<-CF,<-j]at d;generalize fs[i]=f at b d ⊢;have e:UW x.2.2.2.2 h.2.1 f=(DU f.2.1 h.2.1&&(DT (x.2.2.2.2.length:Int) 0||cS x.2.2.2.2 f.1)):=rfl;cases z:DU f.2.1 h.2.1 with
  |false=>grind
  |true=>
   rw[A4,A0,BU];rw[z,BU]at e;cases C:DT (x.2.2.2.2.length:Int) 0 with
   |true=>rw[B7,A8,A0,A8,A0,Bool.true_or,BU,A4];refine DP.2 (FF.2 ⟨oc,d _ ?_⟩);grind
   |false=>
    rw[BJ,A4,A0,A4,A1D _ _ p,A0,C1,BU];rw[C,C1]at e;refine DR.2 ⟨λl=>DP.2 (FF.2 ⟨oc,d _ ?_⟩),λl=>d _ ?_⟩
    .simp[e,l]
    .simp[e,l]
 simp_all[nJ,E4,A9,AA,A8,AR,DQ]
noncomputable def I8(fs:KX DO)(ref:DO)(gs:KX I7):KX DO:=gs.flatMap λg=>(g.2.2.1.filter (UW fs ref)).map (·.1)
def AQ9(s:X1 PL)(h:K7)(a:FG)(c:F9)(pa:KX DO)(k:Int){x:Af}(A:a.2.2.2.2.2.2[h.2.2.toNat]?=some x)(h0:0<=h.2.2)(j:x.2.2.2.2.length<=1048576)(b:KX I7)(y:b.length<=1)(m:∀g∈b,g.2.2.1.length<=1048576):
 zX (h,(s,(h,(a,(c,(pa,(k,([]:KX DO))))))),b,(b.length:Int),0)=some (s,h,a,c,pa,k,I8 x.2.2.2.2 h.2.1 b):=by
 have key:=E_ (r:=nK) (σ:=KX DO) (Q:=λq=>q=(s,h,a,c,pa,k,I8 x.2.2.2.2 h.2.1 b)) b.length (λw i=>(h,(s,(h,(a,(c,(pa,(k,w)))))),b,(b.length:Int),i))
  (λi w=>w=I8 x.2.2.2.2 h.2.1 (b.take i)/\w.length<=1048576*i) oa (λnext w i hi e z=>?_) (λnext w e=>?_) [] (by simp[I8])
 .exact JN key
 .unfold nK;dsimp only;have d:=A1 hi;have p:=m _ (AG hi);have l:=CP (UW x.2.2.2.2 h.2.1) (b[i]).2.2.1;rw[E4,A6 hi,A4,ET d,A0,EW oa,AQ8 s h a c pa k w A h0 j _ oa,A0];refine z _ ⟨?_,?_⟩
  .rw[GO d];unfold I8;rw[List.flatMap_append,<-I8,<-e.1];simp
  grind
 simp_all[nK,E4,A9,AA,A8,AR,DQ]
def A8x{fs:KX DO}{ref:DO}{a:KX I7}{s:DO}(h:s∈I8 fs ref a):0<a.length:=by have⟨g,b,_⟩:=List.mem_flatMap.1 h;grind
def cN{m:Q_}(k:Nat)(L:KX (Int×X1 (Q_->X1 X5)))(i:Nat){st:Int}{F:Q_->X1 X5}{b:X5}(h:L[i]?=some (st,some F))(d:F m=some b)(hi:i<1000):
 E0 SN (k+1) (m,L,(L.length:Int),(i:Int))=bif b then some (.inr st)else E0 SN k (m,L,(L.length:Int),((i+1:Nat):Int)):=by
 show SN (E0 SN k) _=_;generalize E0 SN k=next
 unfold SN;dsimp only;have a:=(A3.1 h).1;rw[E4,A6 a,A4,ET h,A0,EW oa];grind
def AQA{m:Q_}{b1 b2 d j l:X5}(p:nL m=some b1)(s:bH m=some b2)(w:bI m=some d)(y:bJ m=some j)(z:WZ m=some l):
 SO m=some (bif b1 then 1 else bif b2 then 2 else bif d then 6 else bif j then 5 else bif l then 3 else 4):=by
 unfold SO zY;rw[A0];unfold zZ;obtain⟨k,hk⟩:∃k,fuel=k+1+1+1+1+1+1:=⟨fuel-6,by rfl⟩;rw[hk];have bs:∀{x:X1 X5} {b:X5},x=some b->(x.bind λr=>some r)=some b:=λh=>by rw[h];rfl
 generalize a:([((1:Int),(some (λx=>(nL x).bind λr=>some r))),((2:Int),(some (λx=>(bH x).bind λr=>some r))),((6:Int),(some (λx=>(bI x).bind λr=>some r))),((5:Int),(some (λx=>(bJ x).bind λr=>some r))),((3:Int),(some (λx=>(WZ x).bind λr=>some r)))]:KX (Int×X1 (Q_->X1 X5)))=L;have e:=cN (m:=m) (k+1+1+1+1+1) L 0 (by rw[<-a];rfl) (bs p) oa;have A:=cN (m:=m) (k+1+1+1+1) L 1 (by rw[<-a];rfl) (bs s) oa;have B:=cN (m:=m) (k+1+1+1) L 2 (by rw[<-a];rfl) (bs w) oa;have C:=cN (m:=m) (k+1+1) L 3 (by rw[<-a];rfl) (bs y) oa;have D:=cN (m:=m) (k+1) L 4 (by rw[<-a];rfl) (bs z) oa;have E:E0 SN (k+1) (m,L,(L.length:Int),((4+1:Nat):Int))=some (.inl ()):=by rw[<-a];rfl
 grind
def MD(l:KX GU)(k a b:Int):X5:=bif decide (k<0)then false else match l[k.toNat]? with
 |some y=>DT y.2.2.2.1 a||DT y.2.2.2.1 b
 |none=>false
def A8y(s:PL)(h:K7)(a:FG)(c:F9)(pa:KX DO)(k:Int)(wk:KX DO)(x y:Int)(hk:k<s.1.2.2.2.2.2.2.length):bG ((some s,h,a,c,pa,k,wk),x,y)=some (MD s.1.2.2.2.2.2.2 k x y):=by
 unfold bG MD;dsimp only;by_cases e:k<0
 .grind
 .rw[A9 e,A8,A8,A0];have⟨z,d,b⟩:=MB (l:=s.1.2.2.2.2.2.2) (i:=k) oa hk;grind
def II(R:KX (DO×X5))(wk:KX DO):DO:=(wk.find? λf=>(DY DU f R).getD false).getD []
theorem A1E(s:PL)(h:K7)(a:FG)(c:F9)(pa:KX DO)(k:Int)(wk:KX DO)(x:wk.length<=1099511627776):WY (some s,h,a,c,pa,k,wk)=some (II s.2.2.2.1 wk):=by
 unfold WY;dsimp only;generalize l:((some s,h,a,c,pa,k,wk):Q_)=m
 have key:=E_ (r:=nM) (σ:=Unit) (Q:=λq:Sum Unit DO=>match q with| .inl _=>wk.find? (λf=>(DY DU f s.2.2.2.1).getD false)=none| .inr y=>wk.find? (λf=>(DY DU f s.2.2.2.1).getD false)=some y) wk.length (λ_ i=>(m,wk,(wk.length:Int),i))
  (λi _=>(wk.take i).find? (λf=>(DY DU f s.2.2.2.1).getD false)=none) oa (λnext _ i hi d p=>?_) (λnext _ d=>?_) () oh
 .refine JN (DP.2 (key.mono λq w=>?_));grind[II,DQ]
 .unfold nM;dsimp only;have b:=A1 hi;rw[E4,A6 hi,A4,ET b,A0,EW oa];have j:m.1=some s:=by rw[<-l]
  rw[j,A0];refine DR.2 ⟨λe=>DQ.2 ?_,λe=>p () ?_⟩
  .have:wk=wk.take i++(wk[i]::wk.drop (i+1)):=by rw[<-BL hi,List.take_append_drop]
   grind
  .rw[GO b,List.find?_append,d,List.find?_cons,e];rfl
 simp_all[nM,E4,A9,AA,A8,AR,DQ]
def A8z{R:KX (DO×X5)}{wk:KX DO}(h:II R wk≠[]):II R wk∈wk:=by unfold II at h ⊢;cases e:wk.find? λf=>(DY DU f R).getD false<;>grind
theorem AQB(l:KX DO):∀f,(DY DU f (l.foldl (λm s=>EE DU s true m) [])).getD false=decide (f∈l):=by
 have key:∀(l b:KX DO) (m:KX (DO×X5)),NR m b->NR (l.foldl (λm s=>EE DU s true m) m) (b++l):=by
  intro l;induction l with
  |nil=>simp
  |cons a r d=>intro b m h;have:=d (b++[a]) _ (pU h a);grind
 intro f;have:=key l [] [] (λk=>by simp[DY]);exact XP this f
def A1F(p:GG)(R:KX (DO×X5)):Prop:=(p.2.2.2.1.length:Int)=1->∀y r,at? p.2.2.2.1 (0:Int)=some y->SK (y,p.2.2.2.2.1,p.2.2.2.2.2.1)=some r->∀f,(DY DU f R).getD false=decide (f∈r.1)
noncomputable def PM(p:GG)(x:Af)(wk:KX DO):X5:=(DT (p.2.2.2.1.length:Int) 1&&decide ((0:Int)<(wk.length:Int)))&&decide (((bif (DT (p.2.2.2.1.length:Int) 1&&decide ((0:Int)<(wk.length:Int)))then x.2.2.2.2 else []).length:Int)<=(wk.length:Int))
noncomputable def h_(p:GG)(R:KX (DO×X5))(x:Af)(pa wk:KX DO)(s3 s2:X5):Int:=bif DT (pa.length:Int) 0 then 1 else bif s3 then 2 else bif !(DU (II R wk) [])then 6 else bif s2 then 5 else bif PM p x wk then 3 else 4
def AQC(p:GG)(E:PrB p)(ho:PrOk p)(A:KX (DO×FG))(C:KX (DO×F9))(R:KX (DO×X5))(N:KX ((DO×DO×Int)×X5))(h:K7)(a:FG)(c:F9)(pa wk:KX DO){x:Af}(X:a.2.2.2.2.2.2[h.2.2.toNat]?=some x)(h0:0<=h.2.2)
 (I:wk.length<=1099511627776)(H:∀f∈wk,0<p.2.2.2.1.length):
 ∃F:X5->X5->Int×Int×DO×KX L4,(∀j d,(F j d).2.2.2.length<=1/\∀w∈(F j d).2.2.2,w.2.1.length<=3000/\w.2.2.length<=3000)/\(∀j d,(F j d).1=h_ p R x pa wk j d)/\∀(l:KX GU) (k:Int),k<l.length->NL (some (MY p l,A,C,R,N),h,a,c,pa,k,wk)=
  some (h.1,h.2.1,h.2.2,(F (MD l k 3 4) (MD l k 2 2)).1,(F (MD l k 3 4) (MD l k 2 2)).2.1,pa,(F (MD l k 3 4) (MD l k 2 2)).2.2.1,(F (MD l k 3 4) (MD l k 2 2)).2.2.2,k):=by
 obtain⟨L,G⟩:∃L,∀(s:X1 PL) (k:Int),UG (s,h,a,c,pa,k,wk)=some L:=by have⟨r,M,_⟩:=A8G.1 a.2.2.2.2.2.1 trivial;refine⟨bif DU a.2.2.2.2.2.1 []then 100 else r.1,λs k=>?_⟩;grind[UG,DU]
 have B:∀(l:KX GU) (k:Int),WZ (some (MY p l,A,C,R,N),h,a,c,pa,k,wk)=some (PM p x wk):=λl k=>by unfold WZ;dsimp only;rw[A0,A8w _ h a c pa k wk X h0,show(MY p l).2.2.2.1=p.2.2.2.1 from rfl];unfold PM;grind
 have m:∀(l:KX GU) (k:Int),k<l.length->SO (some (MY p l,A,C,R,N),h,a,c,pa,k,wk)=some (bif DT (pa.length:Int) 0 then 1 else bif MD l k 3 4 then 2 else bif !(DU (II R wk) [])then 6 else bif MD l k 2 2 then 5 else bif PM p x wk then 3 else 4):=λl k hk=>by
  refine AQA rfl ?_ ?_ ?_ (B l k)
  .unfold bH;rw[A8y _ h a c pa k wk 3 4 hk];rfl
  .grind[bI,A1E]
  .unfold bJ;rw[A8y _ h a c pa k wk 2 2 hk];rfl
 obtain⟨z,W,J⟩:∃z:L4,(z.2.1.length<=3000/\z.2.2.length<=3000)/\(DU (II R wk) []=false->∃y b e,at? p.2.2.2.1 (0:Int)=some y/\X0 (y,p.2.2.2.2.1,p.2.2.2.2.2.1,II R wk)=some (z,b,e)):=by
  cases e:DU (II R wk) []with
  |true=>exact⟨([],[],[]),⟨oh,oh⟩,λh=>om⟩
  |false=>
   have D:II R wk≠[]:=by rw[E3]at e;simpa using e
   have T:=H _ (A8z D);have⟨y,Q,K⟩:=MB (l:=p.2.2.2.1) (i:=0) (AV _) oa;have⟨⟨z,b,e⟩,M,U,O,_⟩:=A8t (E.gr y (AE K)) p.2.2.2.2.1 E.f0 E.f1 (II R wk);grind
 refine ⟨λj d=>(bif DT (pa.length:Int) 0 then 1 else bif j then 2 else bif !(DU (II R wk) []) then 6 else bif d then 5 else bif PM p x wk then 3 else 4,L,
  bif DT (bif DT (pa.length:Int) 0 then 1 else bif j then 2 else bif !(DU (II R wk) [])then 6 else bif d then 5 else bif PM p x wk then 3 else 4) 6 then II R wk else [],
  bif DT (bif DT (pa.length:Int) 0 then 1 else bif j then 2 else bif !(DU (II R wk) [])then 6 else bif d then 5 else bif PM p x wk then 3 else 4) 6 then [z]else []),λj d=>?_,λj d=>rfl,λl k hk=>?_⟩
 .grind
 unfold NL;rw[m l k hk,A0,G,A0];dsimp only;generalize V:(bif DT (pa.length:Int) 0 then(1:Int)else bif MD l k 3 4 then 2 else bif !(DU (II R wk) [])then 6 else bif MD l k 2 2 then 5 else bif PM p x wk then 3 else 4)=st;cases Z:DT st 6 with
 |false=>rfl
 |true=>
  have Y:DU (II R wk) []=false:=by
   cases hq:DU (II R wk) []with
   |false=>rfl
   |true=>grind[DX]
  have⟨y,b,e,Q,M⟩:=J Y;rw[A4,A1E _ h a c pa k wk I,A0,A0,show(MY p l).2.2.2.1=p.2.2.2.1 from rfl,Q,A0,A0,A0,show(MY p l).2.2.2.2.1=p.2.2.2.2.1 from rfl,show(MY p l).2.2.2.2.2.1=p.2.2.2.2.2.1 from rfl];grind
def AQD{α:Type}{l:KX α}{i:Int}{x:α}(h:at? l i=some x):l≠[]:=λe=>by simp_all[EL,trivial,Z1,at?]
def name_ne{s:DO}(h:P0 s=some true):s≠[]:=by
 unfold P0 at h;have⟨r,j,h⟩:=GP h;rcases r with r|r
 .intro e;subst e;cases h
 .have:=AOp (r:=WU) (λx=>x.1=s) (Q:=λz=>match z with | .inl _=>True | .inr _=>s≠[]) (λnext x z m b a=>by
   obtain⟨p,t,i⟩:=x;dsimp only at b;subst b;unfold WU at a;dsimp only at a;rcases M9 a with⟨_,a⟩|⟨_,a⟩
   .obtain⟨l,d,a⟩:=GP a;have⟨_,_,a⟩:=GP a;have⟨_,_,a⟩:=GP a;rcases M9 a with⟨_,a⟩|⟨_,a⟩
    .cases a;exact AQD d
    grind
   grind) _ _ _ rfl j
  exact this
def AQE{b:Int}(h:OJ l ab b):-1<=b/\b<(l.length:Int):=by rcases h with⟨rfl,_⟩|⟨k,y,rfl,a,_⟩<;>grind
theorem z0:(!(DT (0:Int) 0))=false:=rfl
def AQF{p:GG}(h:P2 p=some 0):U3 p.1=some 0/\1<=p.2.1/\p.2.1<=4/\((p.2.2.2.1.length:Int)=1->∃y r,at? p.2.2.2.1 (0:Int)=some y/\SK (y,p.2.2.2.2.1,p.2.2.2.2.2.1)=some (r,0)):=by
 have ne:∀{e:Int},(!(DT e 0))=true->e=0->False:=λ{e} h h0=>by grind[DX]
 unfold P2 at h;have⟨w,l,h⟩:=GP h;rcases M9 h with⟨c,h⟩|⟨c,h⟩
 .grind
 rw[JX c]at l;rcases M9 h with⟨_,h⟩|⟨m,h⟩
 .cases h
 have⟨b,j⟩:=BQ.1 m;have b:=AI b;have j:=AI j;have⟨_,_,h⟩:=GP h;rcases M9 h with⟨c,h⟩|⟨_,h⟩
 .grind
 have⟨x,a,h⟩:=GP h;rcases M9 h with⟨c,h⟩|⟨c,_⟩
 .grind
 rw[JX c]at a;refine⟨l,oa,oa,λs=>?_⟩;unfold aY at a;rcases M9 a with⟨_,a⟩|⟨_,a⟩
 .cases a
 rcases M9 a with⟨d,_⟩|⟨_,a⟩
 .rw[s]at d;cases d
 have⟨y,A,a⟩:=GP a;have⟨r,z,a⟩:=GP a;grind
theorem AQG:o6 ()=some true:=oe
variable{l:KX Int}{i j:Nat}{sc:Int}{c:F9}{x:L4}{p:GG}{A:KX (DO×FG)}{C:KX (DO×F9)}{R:KX (DO×X5)}{L:KX DO}{a:FG}{N:KX ((DO×DO×Int)×X5)}{f:JZ}{S:GG×KX (DO×FG)×KX (DO×F9)×KX (DO×X5)×KX ((DO×DO×Int)×X5)}{M:KX (DO×DO)}{u:KX X5}{H:KX JY}
def Lk(g:NT)(d:KX Int)(l:KX Int):Prop:=∀(k:Nat) (i j:Int),l[k]?=some i->l[k+1]?=some j->j∈g.2.2.1.getD i.toNat []/\∃x:Int,d[i.toNat]?=some x/\d[j.toNat]?=some (x-1)
def pZ(g:NT)(t:Nat)(l:KX Int):Prop:=l.head? =some g.2.1/\l.getLast? =some (t:Int)/\∃d,Dist g.2.2.2 t d/\Lk g d l
theorem AQH{g:NT}{d:KX Int}{i j:Int}(h:Lk g d l)(s:l.getLast? =some i)(w:j∈g.2.2.1.getD i.toNat []/\∃x:Int,d[i.toNat]?=some x/\d[j.toNat]?=some (x-1)):Lk g d (l++[j]):=by
 intro k a b m p;rw[List.getLast?_eq_getElem?]at s;by_cases e:k+1<l.length
 .rw[BC oa]at m;rw[BC e]at p;exact h k a b m p
 grind
theorem AQI{b:IW}{g:NT}(hg:GpOk b sc g)(hn:b.2.2.2.1.length<=3000){t:Nat}(ht:t<b.2.2.2.1.length):Z1 (mV (g,(t:Int))) (λl:KX Int=>l.length<=3001/\(∀j∈l,0<=j/\j<b.2.2.2.1.length)/\(l≠[]->pZ g t l)):=by
 obtain⟨h5,E,ix,M,h8,ho,hi⟩:=hg;have m:∀s,0<=FS ix s/\FS ix s<b.2.2.2.1.length:=λs=>by have:=T1 M s;grind
 have Q:cK g.2.2.2:=⟨by rw [hi.1]; omega,λr hr=>by obtain⟨k,hk,rfl⟩:=List.mem_iff_getElem.1 hr;have⟨h1,K⟩:=hi.2 k _ (A1 hk);refine⟨oa,λj C=>?_⟩;have⟨e,_,_,h3,_⟩:=(K j).1 C;rw[<-h3,hi.1];exact m _⟩;unfold mV;dsimp only;refine DP.2 ((APX Q (t:=t) (by rw[hi.1];exact ht)).mono λd hd=>?_);have h4:d.length=b.2.2.2.1.length:=hd.len.trans hi.1;have er:((g.2.1.toNat:Nat):Int)=g.2.1:=oa;have⟨x0,T,p⟩:=MB (l:=d) E.1 oa;rw[T,A0];refine DR.2 ⟨λ_=>DQ.2 ⟨oh,λj h=>(om),λh=>absurd rfl h⟩,λA=>?_⟩;have A:=AI A;have G:=(hd.low _ _ p).2;rw[hi.1]at G;refine DP.2 (Z1.mono (P:=λl:KX Int=>l.length<=3001/\(∀j∈l,0<=j/\j<b.2.2.2.1.length)/\(l≠[]->pZ g t l)) ?_ λl hl=>DQ.2 hl)
 refine EV (R:=λl:KX Int=>l.length<=3001/\(∀j∈l,0<=j/\j<b.2.2.2.1.length)/\(l≠[]->pZ g t l)) (λz:Int×NT×KX Int×KX Int×Int=>z.1=(t:Int)/\z.2.1=g/\z.2.2.1=d/\(∀j∈z.2.2.2.1,0<=j/\j<b.2.2.2.1.length)/\(z.2.2.2.1.head? =some g.2.1/\z.2.2.2.1.getLast? =some z.2.2.2.2/\Lk g d z.2.2.2.1)/\∃i:Nat,z.2.2.2.2=(i:Int)/\∃x:Int,d[i]?=some x/\0<=x/\(z.2.2.2.1.length:Int)+x<=3001) (λz=>(d.getD z.2.2.2.2.toNat 0).toNat)
  (λnext z hI D=>?_) fuel ((t:Int),g,d,([g.2.1]:KX Int),g.2.1) ⟨rfl,rfl,rfl,λj C=>?_,⟨rfl,rfl,λk i j h1 K=>by simp at K⟩,g.2.1.toNat,oc,x0,p,oa,oc⟩ ?_
 .obtain⟨t',g',d',o,i'⟩:=z;obtain⟨i1,I,J,i4,⟨ia,ib,X⟩,i,i5,x,H,i7,i8⟩:=hI;dsimp only at i1 I J i4 i5 i8 ia ib X D;have I:=I.symm;have J:=J.symm;subst i1 I J i5;have U:d.getD (i:Int).toNat 0=x:=by rw[AH,BV,H];rfl
  rw[U]at D;have h6:=(A3.1 H).1;unfold A6Q;dsimp only;rw[DX];refine DR.2 ⟨λL=>?_,λL=>DQ.2 ⟨oa,i4,λ_=>⟨ia,oc,d,hd,X⟩⟩⟩;have L:¬(i:Int)=(t:Int):=by simpa using L
  rcases hd.pre i x H i7 with⟨_,e⟩|⟨k,y,r,p1,p2,p3,p4,p5⟩
  .omega
  .have h7:=(A3.1 p1).1;have hE:=((hi.2 k r p4).2 (i:Int)).1 p5;have R:i<g.2.2.1.length:=by rw[ho.1];omega
   obtain⟨row,B⟩:∃row,g.2.2.1[i]?=some row:=⟨_,A1 R⟩;have⟨o1,Y⟩:=ho.2 i row B;have V:=(hd.low i x H).2;rw[hi.1]at V;rw[ET B,A0];refine DP.2 ((APk row _ (λj=>d[j.toNat]?=some (x-1)) oa (λj C=>?_) ⟨(k:Int),(Y (k:Int)).2 hE,oc⟩).mono λn ⟨n',O,j,C,w⟩=>?_)
   .obtain⟨e,_,_,_,Z⟩:=(Y j).1 C;have:=m e.2.1;rw[Z]at this;have⟨y2,W,x2⟩:=MB (l:=d) this.1 oa;unfold zS;dsimp only;rw[A0,W,A0,A0,A0,ET H,A0,EJ oa oa,A0,DX];grind
   .rw[O,A0,ET C,A0];have⟨e,_,_,_,Z⟩:=(Y j).1 (AE C);have N:=m e.2.1;rw[Z]at N;have x1:d.getD j.toNat 0=x-1:=by rw[AH,w];rfl
    have h9:=(hd.low _ _ w).1;refine DP.2 (FF.2 ⟨oc,D _ ⟨rfl,rfl,rfl,λa ha=>?_,⟨oc,oh,AQH X ib ⟨oc,x,by assumption,w⟩⟩,j.toNat,oc,x-1,w,oa,oc⟩ oc⟩);grind
 .grind
 .dsimp only;rw[AH,p];grind[fuel]
def L5(b:IW)(j:Int):DO:=match b.2.2.2.1[j.toNat]? with
 |some c=>c.1
 |none=>[]
theorem AQJ{b:IW}{g:NT}(a:g.1=b)(l:KX Int)(B:l.length<=1048576)(m:∀j∈l,0<=j/\j<b.2.2.2.1.length):mX (g,l)=some (l.map (L5 b)):=by
 refine JN ?_;unfold mX;dsimp only;refine DP.2 (Z1.mono (P:=λr=>r=l.map (L5 b)) ?_ λr w=>DQ.2 w);refine E_ (r:=mW) (σ:=KX DO) l.length (λo i=>(g,o,l,(l.length:Int),i)) (λi o=>o=(l.take i).map (L5 b)) oa (λnext o i hi e s=>?_) (λnext o e=>?_) [] oh
 .unfold mW;dsimp only;have p:=AG hi;have h:=A1 hi;have⟨z,A⟩:=m _ p;have⟨y,x,d⟩:=MB (l:=b.2.2.2.1) z A;rw[E4,A6 hi,A4,ET h,A0,EW oa,a,x,A0];refine DP.2 (FF.2 ⟨oc,s _ ?_⟩);rw[GO h,D2,e];simp[L5,d]
 simp_all[mW,E4,A9,AA,A8,AR,DQ]
def UX(b:IW)(sc:Int)(x y:DO):Prop:=∃e∈b.2.2.2.2,e.2.2<=sc/\e.1=x/\e.2.1=y
structure PathR(b:IW)(sc:Int)(to:DO)(L:KX DO):Prop where
 hd:L.head? =some b.2.2.1
 ls:L.getLast? =some to
 lk:∀(k:Nat) (x y:DO),L[k]?=some x->L[k+1]?=some y->UX b sc x y
 nd:L.Nodup
 sh:∀(k:Nat) (x y:DO),L[k]?=some x->L[k+2]?=some y->¬UX b sc x y
theorem AQK{g:NT}{d:KX Int}{t:Nat}(h:Lk g d l)(p:l.getLast? =some (t:Int))(h0:d[t]?=some 0):∀(m k:Nat) (i:Int),k+m+1=l.length->l[k]?=some i->d[i.toNat]?=some (m:Int):=by
 intro m;induction m with
 |zero=>grind
 |succ m s=>intro k i hk hi;have a:k+1<l.length:=oa;have b:=A1 a;have⟨_,x,e,j⟩:=h k i _ hi b;grind
theorem AQL{b:IW}(h:BlOk b):(b.2.2.2.1.map (·.1)).Nodup:=by have:=h.asc;grind
theorem AQM{b:IW}(Q:BlOk b){g:NT}(hg:GpOk b sc g){t:Nat}(hc:b.2.2.2.1[t]?=some c)(D:∀j∈l,0<=j/\j<b.2.2.2.1.length)(hp:pZ g t l):PathR b sc c.1 (l.map (L5 b)):=by
 obtain⟨p1,p2,d,hd,p3⟩:=hp;obtain⟨_,U,ix,a,V,A,M⟩:=hg;have T:=AQL Q;have h:=AQK p3 p2 hd.t0;have nm:∀s∈b.2.2.2.1.map (·.1),L5 b (FS ix s)=s/\0<=FS ix s:=λs E=>by
  have⟨i,hi⟩:=a.2 s E;have⟨i0,i1⟩:=a.1 s i hi;have e:FS ix s=i:=by unfold FS;rw[hi];rfl
  rw[e];refine⟨?_,i0⟩;unfold L5;grind
 have R:∀j:Int,0<=j->j<b.2.2.2.1.length->∀s∈b.2.2.2.1.map (·.1),L5 b j=s->FS ix s=j:=λj j0 j1 s E e=>by
  have⟨i,hi⟩:=a.2 s E;have⟨i0,i1⟩:=a.1 s i hi;have J:FS ix s=i:=by unfold FS;rw[hi];rfl
  rw[J];have p:j.toNat<b.2.2.2.1.length:=oa;have B:(b.2.2.2.1.map (·.1))[j.toNat]?=some s:=by rw[AS,A1 p];unfold L5 at e;rw[A1 p]at e;rw[<-e];rfl
  have K:=(A3.1 B);have Z:=(A3.1 i1);have:=(List.getElem_inj (h₀:=K.1) (h₁:=Z.1) T).1 (K.2.trans Z.2.symm);omega
 have ed:∀i j:Int,MC b sc ix b.2.2.2.2 i j->UX b sc (L5 b i) (L5 b j):=λi j ⟨e,I,J,X,Y⟩=>by have⟨n1,n2⟩:=Q.ends e I;exact⟨e,I,J,oc,oc⟩
 have de:∀i j:Int,0<=i->i<b.2.2.2.1.length->0<=j->j<b.2.2.2.1.length->UX b sc (L5 b i) (L5 b j)->MC b sc ix b.2.2.2.2 i j:=λi j i0 i1 j0 j1 ⟨e,I,J,X,Y⟩=>by have⟨n1,n2⟩:=Q.ends e I;exact⟨e,I,J,R i i0 i1 _ n1 X.symm,R j j0 j1 _ n2 Y.symm⟩
 refine⟨?_,?_,λk x y N O=>?_,?_,λk x y N O he=>?_⟩
 .rw[List.head?_map,p1,V];exact congrArg some (nm _ Q.root).1
 .rw[List.getLast?_map,p2];simp[L5,hc]
 .rw[AS]at N O;obtain⟨i,hi,rfl⟩:=Option.map_eq_some_iff.1 N;obtain⟨j,B,rfl⟩:=Option.map_eq_some_iff.1 O;have⟨K,_⟩:=p3 k i j hi B;have L:i.toNat<g.2.2.1.length:=by have:=D i (AE hi);rw[A.1];omega
  rw[AH,A1 L]at K;have:MC b sc ix b.2.2.2.2 ((i.toNat:Nat):Int) j:=((A.2 i.toNat _ (A1 L)).2 j).1 K;rw[Int.toNat_of_nonneg (D i (AE hi)).1]at this;grind
 .rw[List.Nodup,BS];intro k m w C h3 e;rw[AZ]at C w;rw[List.getElem_map,List.getElem_map]at e;have G:=D _ (AG w);have H:=D _ (AG C);have E:L5 b l[m]∈b.2.2.2.1.map (·.1):=by have:l[m].toNat<b.2.2.2.1.length:=oa;unfold L5;rw[A1 this];exact List.mem_map_of_mem (AG this)
  have q1:=R _ G.1 G.2 _ E e;have q2:=R _ H.1 H.2 _ E rfl;have d1:=h (l.length-1-k) k _ oa (A1 w);have W:=h (l.length-1-m) m _ oa (A1 C);grind
 .rw[AS]at N O;obtain⟨i,hi,rfl⟩:=Option.map_eq_some_iff.1 N;obtain⟨j,B,rfl⟩:=Option.map_eq_some_iff.1 O;have G:=D i (AE hi);have H:=D j (AE B);have hP:=de i j G.1 G.2 H.1 H.2 he;have w:=(A3.1 B).1;have d1:=h (l.length-1-k) k _ oa hi;have W:=h (l.length-1-(k+2)) (k+2) _ oa B;have p:j.toNat<g.2.2.2.length:=by rw[M.1];omega
  have hr:=A1 p;have hm:=((M.2 j.toNat _ hr).2 i).2 (by grind[MC,Int.toNat_of_nonneg]);have⟨z,z1,z2,z3⟩:=hd.clo j.toNat _ _ W oa hr i hm;grind
theorem AQN(b:IW)(z:BlB b)(to:DO)(sc:Int):Z1 (mY (b,to,sc)) (λr=>r.1.length<=3001/\(r.1=[]\/(r.2.2=0/\PathR b sc to r.1))):=by
 unfold mY;dsimp only;refine DP.2 (Z1.mono (P:=λr=>r.2.2=0->BlOk b/\GpOk b sc r.1/\∃t:Nat,r.2.1=(t:Int)/\∃c,b.2.2.2.1[t]?=some c/\c.1=to) ?_ λI s=>DR.2 ⟨λ_=>DQ.2 oh,λh=>?_⟩)
 .unfold zO;dsimp only;refine DP.2 (Z1.mono (P:=λr=>r.2=0->BlOk b/\GpOk b sc r.1) ?_ λr B=>DR.2 ⟨λh=>DQ.2 λh0=>(by have h0:r.2=0:=h0;rw[h0]at h;cases h),λh=>?_⟩)
  .unfold zL;dsimp only;refine DP.2 ((A10 b z).mono λe A=>DR.2 ⟨λh=>DQ.2 λh0=>(by have h0:e=0:=h0;rw[h0]at h;cases h),λh=>DR.2 ⟨λ_=>DQ.2 λh=>absurd h oi,λ_=>?_⟩⟩);have d:=A (JX h);simp_all[DP,APj,DQ]
  .obtain⟨d,j⟩:=B (JX h);have G:=d.few;unfold zN;dsimp only;refine DP.2 (Z1.mono (P:=Srch (λy:F9=>y.1) b.2.2.2.1 to) ?_ λq m=>?_)
   .refine DP.2 ((APN b.2.2.2.1 to oa _ λy=>⟨_,?_,XH _ _,XM _ _⟩).mono λq m=>DQ.2 m);grind[zM,bZ]
   .refine DR.2 ⟨λ_=>DQ.2 λh=>absurd h oi,λp=>DQ.2 λ_=>⟨d,j,q.1.toNat,?_,?_⟩⟩
    .have:=m.rng;grind
    .obtain⟨y,H,_⟩:=m.is (by simpa using p);grind
 .obtain⟨d,j,t,e,c,w,rfl⟩:=s (JX h);have C:=(A3.1 w).1;rw[e];refine DP.2 ((AQI j d.few C).mono λl ⟨D,x,E⟩=>?_);rw[AQJ j.bl l oa x];refine DP.2 (DQ.2 (DQ.2 ⟨by rw[AZ];exact D,?_⟩));cases l with
  |nil=>exact .inl rfl
  |cons a q=>exact .inr ⟨rfl,AQM d j w x (E oh)⟩
theorem AQO(p:GG)(G:PrB p)(d:PrOk p):∃A C R N,(∀l,QS (MY p l)=some (some (MY p l,A,C,R,N)))/\(∀a∈p.2.2.1.2.1,DY DU a.1 A=some a)/\(∀c∈p.1.2.2.2.1,DY DU c.1 C=some c)/\A1F p R/\N=H2 p.2.1 p.1.2.2.2.2:=by
 have L:=d.bs.2.1;have O:=d.bl.few;have Q:=d.bl.edges
 have key:∃R,A1F p R/\∀(q:GG) (A:KX (DO×FG)) (C:KX (DO×F9)) (N:KX ((DO×DO×Int)×X5)),q.2.2.2.1=p.2.2.2.1->q.2.2.2.2.1=p.2.2.2.2.1->q.2.2.2.2.2.1=p.2.2.2.2.2.1->
  (bif (DT (q.2.2.2.1.length:Int) (1:Int)) then
   (at? q.2.2.2.1 (0:Int)).bind λI=>(SK (I,q.2.2.2.2.1,q.2.2.2.2.2.1)).bind λj=>
   (mN ((q,(A,(C,(([]:KX (DO×X5)),N)))),j.1,(j.1.length:Int),(0:Int))).bind λb=>some (some (b.1,(b.2.1,(b.2.2.1,(b.2.2.2.1,b.2.2.2.2)))))
  else some (some (q,(A,(C,(([]:KX (DO×X5)),N))))))=some (some (q,A,C,R,N)):=by
  by_cases B:(p.2.2.2.1.length:Int)=1
  .obtain⟨y,W,H⟩:=MB (l:=p.2.2.2.1) (i:=0) (AV _) oa;have⟨r,T,V,_⟩:=A1C (G.gr y (AE H)) p.2.2.2.2.1 G.f0 G.f1;refine⟨r.1.foldl (λm s=>EE DU s true m) [],λ_ Z Y X U=>(by grind[AQB]),λq A C N e w x=>?_⟩;rw[e,w,x,DX,A6 B,A4,W,A0,T,A0];have:=pY (r:=mM) (σ:=KX (DO×X5)) r.1 (λm i=>((q,(A,(C,(m,N)))),r.1,(r.1.length:Int),i)) (λm s=>EE DU s true m) (λm=>(q,(A,(C,(m,N))))) oa (λnext s i y h=>?_) (λnext s=>?_) []
   .simp_all[mN,A0]
   .have E:=(A3.1 h).1;unfold mM;dsimp only;rw[E4,A6 E,A4,ET h,A0,EW oa]
   simp_all[mM,E4,A9,AA,A8]
  .refine⟨[],λh=>absurd h B,λq A C N e _ _=>?_⟩;rw[e,DX,A9 B,A8]
 obtain⟨R,D,J⟩:=key
 refine ⟨p.2.2.1.2.1.foldl (λm a=>EE DU a.1 a m) [],p.1.2.2.2.1.foldl (λm c=>EE DU c.1 c m) [],R,
  H2 p.2.1 p.1.2.2.2.2,λl=>?_,λa K=>?_,λc M=>?_,D,rfl⟩
 .unfold QS;have e:=AQ3 (MY p l) p.2.2.1.2.1 oa [] ([],[],[]);have w:=AQ4 (MY p l) p.1.2.2.2.1 oa [] (p.2.2.1.2.1.foldl (λm a=>EE DU a.1 a m) []) ([],[]);have x:=AQ5 (MY p l) p.1.2.2.2.2 oa (p.2.2.1.2.1.foldl (λm a=>EE DU a.1 a m) []) (p.1.2.2.2.1.foldl (λm c=>EE DU c.1 c m) []) [];refine(congrArg (λz=>Option.bind z _) e).trans ((congrArg (λz=>Option.bind z _) w).trans ((congrArg (λz=>Option.bind z _) x).trans ?_));exact J (MY p l) _ _ _ rfl rfl rfl
 .exact A8u (λa:FG=>a.1) _ [] (AOw d.bs) a K
 .exact A8u (λc:F9=>c.1) _ [] d.bl.asc c M
theorem A1G(x y:DO×DO×Int):LL x y=decide (x=y):=by obtain⟨a,b,c⟩:=x;obtain⟨d,e,f⟩:=y;simp_all[LL,E3,DX,Bool.eq_iff_iff]
theorem AQP{l:KX NQ}{x y:DO}(h:DY LL (x,(y,(0:Int))) (H2 sc l)=some true):∃e∈l,e.2.2<=sc/\e.1=x/\e.2.1=y:=by
 have key:∀(l:KX NQ) (m:KX ((DO×DO×Int)×X5)),DY LL (x,(y,(0:Int))) (l.foldl (λm e=>if e.2.2<=sc then EE LL (e.1,(e.2.1,(0:Int))) true m else m) m)=some true->DY LL (x,(y,(0:Int))) m=some true\/∃e∈l,e.2.2<=sc/\e.1=x/\e.2.1=y:=by
  intro l;induction l with
  |nil=>simp
  |cons a l d=>
   intro m h;rcases d _ h with h|⟨e,j,p⟩
   .dsimp only at h;by_cases b:a.2.2<=sc
    .rw[if_pos b,XL A1G]at h;grind
    grind
   grind
 rcases key l [] h with h|h
 .cases h
 .exact h
theorem AQQ{to:DO}(O:L.length<=3001):
 Z1 (UK (some (p,A,C,R,H2 p.2.1 p.1.2.2.2.2),L,to)) (λr=>r=true->L.head? =some p.1.2.2.1/\L.getLast? =some to/\∀(k:Nat) (x y:DO),L[k]?=some x->L[k+1]?=some y->UX p.1 p.2.1 x y):=by
 unfold UK;cases L with
 |nil=>exact⟨false,rfl,λh=>om⟩
 |cons a q=>
  have e0:DT (((a::q).length:Nat):Int) 0=false:=by
   cases h:DT (((a::q).length:Nat):Int) 0 with
   |false=>rfl
   |true=>grind[DX]
  have E:at? (a::q) (0:Int)=some a:=ET (i:=0) rfl;have j:(a::q).length-1<(a::q).length:=oh;have G:at? (a::q) (IntKind.i64.wrap (((a::q).length:Int)-1))=some (a::q)[(a::q).length-1]:=by rw[EJ oa oa,show(((a::q).length:Nat):Int)-1=(((a::q).length-1:Nat):Int) by simp];exact ET (A1 j)
  dsimp only;rw[e0,BJ,A4,E,A0,A4,A0,C1];dsimp only;cases m:DU a p.1.2.2.1 with
  |false=>exact⟨false,rfl,λh=>om⟩
  |true=>
   rw[B7,BJ,A4,G,A0,C1];refine DR.2 ⟨λ_=>DQ.2 λh=>(om),λs=>?_⟩;have s:(a::q)[(a::q).length-1]=to:=by rw[E3]at s;simpa using s
   have m:a=p.1.2.2.1:=by rw[E3]at m;simpa using m
   refine DP.2 (Z1.mono (P:=λr:Sum Unit X5=>match r with
    | .inl _=>∀(k:Nat) (x y:DO),(a::q)[k]?=some x->(a::q)[k+1]?=some y->UX p.1 p.2.1 x y
    | .inr b=>b=false) ?_ λr N=>?_)
   .refine E_ (r:=UJ) (σ:=Unit) (a::q).length (λ_ i=>(some (p,A,C,R,H2 p.2.1 p.1.2.2.2.2),a::q,a::q,((a::q).length:Int),i)) (λi _=>∀(k:Nat) (x y:DO),k+1<i->(a::q)[k]?=some x->(a::q)[k+1]?=some y->UX p.1 p.2.1 x y) oa (λnext _ i hi I M=>?_) (λnext _ I=>?_) () (λk x y h=>absurd h oa)
    .unfold UJ;dsimp only;have d:=A1 hi;generalize (a::q)[i]=z at d;rw[E4,A6 hi,A4,ET d,A0];refine DP.2 (HY.2 ⟨⟨oa,oa,oa⟩,?_⟩);rw[A1D _ _ ot,A0];cases cS (List.drop (Int.toNat 0) (List.take (Int.toNat (i:Int)) (a::q))) z with
     |true=>exact⟨.inr false,rfl,rfl⟩
     |false=>
      rw[BJ,BU];by_cases K:0<i
      .have hd:decide ((0:Int)<(i:Int))=true:=ot;have l:i-1<(a::q).length:=oa;have H:at? (a::q) (IntKind.i64.wrap ((i:Int)-1))=some (a::q)[i-1]:=by rw[EJ oa oa,show(i:Int)-1=((i-1:Nat):Int) by omega];exact ET (A1 l)
       rw[hd,A4,A0,A4,H,A0];dsimp only;refine DR.2 ⟨λ_=>DQ.2 rfl,λJ=>?_⟩;rw[EW oa];refine M () λk x y hk B D=>?_;by_cases e:k+1=i
       .rw[e,d]at D;rw[show k=i-1 by omega,A1 l]at B;cases B;cases D;refine AQP ?_;cases w:DY LL ((a::q)[i-1],(z,(0:Int))) (H2 p.2.1 p.1.2.2.2.2)with
        |none=>simp[w]at J
        |some b=>grind
       grind
      .have hd:decide ((0:Int)<(i:Int))=false:=ot;rw[hd];simp only[A8,A0,CU,Bool.or_self];rw[EW oa];simp_all
    .unfold UJ;dsimp only;rw[E4,A9 (AA _),A8];grind[DQ,List.getElem?_eq_some_iff]
   .cases r with
    |inl u=>exact DQ.2 λ_=>⟨by rw[m];rfl,by rw[List.getLast?_eq_getElem?,A1 j,s],N⟩
    |inr b=>grind[DQ]
theorem AQR{to:DO}(y:L.length<=3001)(h:PathR p.1 p.2.1 to L)(hi:i<L.length):
 UK (some (p,A,C,R,H2 p.2.1 p.1.2.2.2.2),L.eraseIdx i,to)=some false:=by
 have⟨r,w,b⟩:=AQQ (p:=p) (A:=A) (C:=C) (R:=R) (L:=L.eraseIdx i) (to:=to) oc;cases r with
 |false=>exact w
 |true=>
  have⟨j,l,m⟩:=b rfl;exfalso;have a:=h.nd;rw[List.Nodup,BS]at a;by_cases e0:i=0
  .subst e0;rw[List.head?_eq_getElem?,List.getElem?_eraseIdx]at j;have s:=h.hd;grind[List.head?_eq_getElem?,List.getElem?_eq_some_iff]
  .by_cases x:i+1=L.length
   .rw[List.getLast?_eq_getElem?,List.length_eraseIdx,if_pos hi,List.getElem?_eraseIdx,if_pos oa]at l;have s:=h.ls;grind
   .have d:=A1 (show i-1<L.length by omega);have e:=A1 (show i+1<L.length by omega);refine h.sh (i-1) _ _ d (by rw[show i-1+2=i+1 by omega];exact e) (m (i-1) _ _ ?_ ?_)
    .grind
    grind
theorem AQS{l:KX NQ}{x y:DO}(h:∃e∈l,e.2.2<=sc/\e.1=x/\e.2.1=y):DY LL (x,(y,(0:Int))) (H2 sc l)=some true:=by
 have d:∀(l:KX NQ) (m:KX ((DO×DO×Int)×X5)),DY LL (x,(y,(0:Int))) m=some true->DY LL (x,(y,(0:Int))) (l.foldl (λm e=>if e.2.2<=sc then EE LL (e.1,(e.2.1,(0:Int))) true m else m) m)=some true:=by
  intro l;induction l with
  |nil=>simp
  |cons a l b=>intro m h;refine b _ ?_;dsimp only;split<;>simp_all[XL,A1G]
 have key:∀(l:KX NQ) (m:KX ((DO×DO×Int)×X5)),(∃e∈l,e.2.2<=sc/\e.1=x/\e.2.1=y)->DY LL (x,(y,(0:Int))) (l.foldl (λm e=>if e.2.2<=sc then EE LL (e.1,(e.2.1,(0:Int))) true m else m) m)=some true:=by
  intro l;induction l with
  |nil=>simp
  |cons a l b=>
   intro m ⟨e,h,j,p,s⟩;rcases B1.1 h with rfl|h
   .simp_all[if_pos,XL,A1G]
   grind
 exact key l [] h
theorem AQT{to:DO}(Z:L.length<=3001)(H:PathR p.1 p.2.1 to L):
 UK (some (p,A,C,R,H2 p.2.1 p.1.2.2.2.2),L,to)=some true:=by
 refine JN ?_;have l:=H.nd;rw[List.Nodup,BS]at l;obtain⟨I,pl,Y,_,_⟩:=H;unfold UK;cases L with
 |nil=>cases I
 |cons a q=>
  have e0:DT (((a::q).length:Nat):Int) 0=false:=by
   cases h:DT (((a::q).length:Nat):Int) 0 with
   |false=>rfl
   |true=>grind[DX]
  have J:at? (a::q) (0:Int)=some a:=ET (i:=0) rfl;have j:(a::q).length-1<(a::q).length:=oh;have B:(a::q)[(a::q).length-1]=to:=by rw[List.getLast?_eq_getElem?,A1 j]at pl;exact A2 pl
  have K:at? (a::q) (IntKind.i64.wrap (((a::q).length:Int)-1))=some to:=by rw[EJ oa oa,show(((a::q).length:Nat):Int)-1=(((a::q).length-1:Nat):Int) by simp,<-B];exact ET (A1 j)
  have T:a=p.1.2.2.1:=A2 I;have M:DU a p.1.2.2.1=true:=by rw[E3,T];simp
  have N:DU to to=true:=by rw[E3];simp
  dsimp only;rw[e0,BJ,A4,J,A0,A4,A0,C1];dsimp only;rw[M,B7,BJ,A4,K,A0,C1,N,B7,A8];refine DP.2 (Z1.mono (P:=λr:Sum Unit X5=>r=.inl ()) ?_ λr X=>by subst X;exact DQ.2 rfl);refine E_ (r:=UJ) (σ:=Unit) (a::q).length (λ_ i=>(some (p,A,C,R,H2 p.2.1 p.1.2.2.2.2),a::q,a::q,((a::q).length:Int),i)) (λ_ _=>True) oa (λnext _ i hi _ G=>?_) (λnext _ _=>?_) () trivial
  .unfold UJ;dsimp only;have e:=A1 hi;have m:(a::q)[i] ∉ List.drop (Int.toNat 0) (List.take (Int.toNat (i:Int)) (a::q)):=by intro E;rw[show Int.toNat 0=0 from rfl,DA,BV]at E;have⟨k,hk,D⟩:=List.mem_iff_getElem.1 E;rw[BK]at hk;rw[List.getElem_take]at D;exact l k i oa hi oa D
   generalize (a::q)[i]=z at e m;rw[E4,A6 hi,A4,ET e,A0];refine DP.2 (HY.2 ⟨⟨oa,oa,oa⟩,?_⟩);have⟨b,U,V⟩:=cG (List.drop (Int.toNat 0) (List.take (Int.toNat (i:Int)) (a::q))) z ot;have s:b=false:=by
    cases b with
    |false=>rfl
    |true=>grind
   subst s;rw[U,A0,BJ,BU];by_cases W:0<i
   .have hd:decide ((0:Int)<(i:Int))=true:=ot;have w:i-1<(a::q).length:=oa;have d:=A1 w;generalize (a::q)[i-1]=v at d;have O:at? (a::q) (IntKind.i64.wrap ((i:Int)-1))=some v:=by rw[EJ oa oa,show(i:Int)-1=((i-1:Nat):Int) by omega];exact ET d
    have Q:=AQS (Y (i-1) v z d oc);rw[hd,A4,A0,A4,O,A0];dsimp only;rw[show DY (λ(x y:(KX UInt8)×(KX UInt8)×Int)=>DU x.1 y.1&&(λ(x y:(KX UInt8)×Int)=>DU x.1 y.1&&DT x.2 y.2) x.2 y.2) (v,(z,(0:Int))) (H2 p.2.1 p.1.2.2.2.2)=some true from Q];simp only[C5,B7,Bool.and_false,Bool.or_false,A8];rw[EW oa];exact G () trivial
   .have hd:decide ((0:Int)<(i:Int))=false:=ot;rw[hd];simp only[A8,A0,CU,Bool.or_self];rw[EW oa];exact G () trivial
  .unfold UJ;dsimp only;rw[E4,A9 (AA _),A8];exact DQ.2 rfl
noncomputable def NV(a:FG)(cs:KX F9)(j n:Nat):KX Int:=if a.2.2.2.2.1=true then []else((List.range n).filter λi=>JO a cs j i).map λi:Nat=>(i:Int)
theorem AQU(z:LI a)(H:MS a=0){cs:KX F9}(J:cs[j]?=some c)(hk:JV c.2.1=some (HQ c,0))(M:(L3 c).length<=1048576):
 o8 (a,c.2.1)=some (NV a cs j a.2.2.2.2.2.2.length,0):=by
 have⟨C,O,D,_⟩:=A0u z H;have G:=z.2.2.2.2.2.1;unfold o8;dsimp only;rw[C,A0];dsimp only;rw[show DT (0:Int) 0=true from rfl,B7,A8,hk,A0];dsimp only;rw[show DT (0:Int) 0=true from rfl,B7,A8];have key:=JN (E_ (r:=o7) (σ:=KX Int) a.2.2.2.2.2.2.length (λo i=>(a,c.2.1,LK a,HQ c,o,a.2.2.2.2.2.2,(a.2.2.2.2.2.2.length:Int),i)) (λi o=>o=NV a cs j i) (Q:=λo=>o=NV a cs j a.2.2.2.2.2.2.length) oa (λnext o i hi b B=>?_) (λnext o b=>?_) [] (by simp[NV]))
 .rw[show A0B (a,c.2.1,LK a,HQ c,[],a.2.2.2.2.2.2,(a.2.2.2.2.2.2.length:Int),0)=_ from key,A0]
 .unfold o7;dsimp only;have s:=A1 hi;have d:i<(LK a).length:=oa;have p:=A1 d;have l:=D _ (AG d);generalize a.2.2.2.2.2.2[i]=x at s;generalize (LK a)[i]=r at p l;rw[E4,A6 hi,A4,ET s,A0,EW oa];cases A:a.2.2.2.2.1 with
  |true=>simp_all[B7,A8,A0,CU,NV]
  |false=>
   have⟨y,N⟩:=A8P x l (HQ c) M;have E:JO a cs j i=XN x r (HQ c) (L3 c):=by
    unfold JO;rw[J,s,p];dsimp only;by_cases e:HQ c=x.1
    .rw[A6 e,BU,e]
    .grind
   unfold L3 at y;rw[BJ,A4,ET p,A0,A4,y,A0,BU];have K:o.length<=i:=by rw[b];unfold NV;rw[A];simp only[CJ,CE,AZ];exact AM (CP _ _) oh
   have L:∀w,w=(if JO a cs j i=true then o++[(i:Int)]else o)->w=NV a cs j (i+1):=by intro w m;unfold NV at b ⊢;rw[A]at b ⊢;simp only[CJ,CE]at b ⊢;rw[m,b,List.range_succ,List.filter_append,D2];cases I:JO a cs j i<;>simp[I]
   refine DR.2 ⟨λh=>DP.2 (FF.2 ⟨oc,B _ ?_⟩),λh=>B _ ?_⟩
   .exact L _ (by rw[E];unfold L3;grind)
   grind[L3]
 .unfold o7;dsimp only;rw[E4,A9 (AA _),A8,b];exact DQ.2 rfl
theorem AQV(s:DY DU a.1 A=some a)(w:DY DU c.1 C=some c)(d:LI a)(y:MS a=0){cs:KX F9}(z:cs[j]?=some c)(hk:JV c.2.1=some (HQ c,0))(D:(L3 c).length<=1048576)
 (e:a.2.2.2.2.1=false)(hi:i<a.2.2.2.2.2.2.length)(x:JO a cs j i=true)(f1:f.1=a.1)(l:f.2.1=c.1)(m:f.2.2.1=(i:Int)):UI (some (p,A,C,R,N),f)=some true:=by
 have h:=d.2.2.2.2.2.1;have b:(i:Int)∈NV a cs j a.2.2.2.2.2.2.length:=by unfold NV;rw[e];simp only[CJ,CE];exact BP.2 ⟨i,D4.2 ⟨CC.2 hi,x⟩,rfl⟩
 have B:(NV a cs j a.2.2.2.2.2.2.length).length<=1048576:=by unfold NV;rw[e];simp only[CJ,CE,AZ];exact AM (CP _ _) (by simpa using h)
 unfold UI;dsimp only;rw[A0,A0];dsimp only;rw[f1,l,m,s,w];simp only[Option.isSome_some,B7,Bool.or_self,A8,C5,A0];rw[AQU d y z hk D,A0];dsimp only;rw[show DT (0:Int) 0=true from rfl,A4,pW _ _ oa,A6 b];rfl
theorem A90{x:JZ}{h:K7}{pa:KX DO}{k:Int}{wk:KX DO}{b1 b2:X5}
 (b:P2 p=some 0)(d:QS p=some (some S))(w:UI (some S,x)=some true)(y:P3 (some S,(x.1,(x.2.1,x.2.2.1)))=some (some S,h,a,c,pa,k,wk))
 (j:bL ((some S,h,a,c,pa,k,wk),x)=some b1)(m:QV ((some S,h,a,c,pa,k,wk),x)=some b2)(s:x.2.2.2.2.2.2.2.2=k)
 (D:SO (some S,h,a,c,pa,k,wk)=some x.2.2.2.1)(E:UG (some S,h,a,c,pa,k,wk)=some x.2.2.2.2.1):
 SQ (p,x)=some ((if b1=true then [2]else [])++(if b2=true then [3]else []),0):=by
 have e:∀(l:KX Int) (v:Int),l.length<=5->app? 24 l [v]=some (l++[v]):=λl v G=>JN (FF.2 ⟨ot,rfl⟩);have A:DT x.2.2.2.2.2.2.2.2 k=true:=by rw[DX,s];simp
 have B:DT x.2.2.2.1 x.2.2.2.1=true:=by rw[DX];simp
 have C:DT x.2.2.2.2.1 x.2.2.2.2.1=true:=by rw[DX];simp
 unfold SQ;dsimp only;rw[b,A0,show DT (0:Int) 0=true from rfl,B7,A8,d,A0,w,A0,B7,A8,y,A0,j,A0];have z:oE (([]:KX Int),b1)=some (if b1=true then [2]else []):=by cases b1<;>simp[oE,e]
 rw[z,A0,m,A0];have H:oG ((if b1=true then [2]else []),b2)=some ((if b1=true then [2]else [])++(if b2=true then [3]else [])):=by cases b1<;>cases b2<;>simp[oG,e]
 simp_all[A0,A0G,A0H,B7,A8]
theorem A1H{m:Q_}(h:NL m=some f):SO m=some f.2.2.2.1/\UG m=some f.2.2.2.2.1/\f.1=m.2.1.1/\f.2.1=m.2.1.2.1/\f.2.2.1=m.2.1.2.2/\f.2.2.2.2.2.1=m.2.2.2.2.1/\f.2.2.2.2.2.2.2.2=m.2.2.2.2.2.1/\(f.2.2.2.1≠6->f.2.2.2.2.2.2.1=[]/\f.2.2.2.2.2.2.2.1=[]):=by
 unfold NL at h;have⟨s,d,h⟩:=GP h;have⟨r,b,h⟩:=GP h;dsimp only at h;cases a:DT s 6 with
 |false=>grind
 |true=>
  rw[a,A4]at h;have⟨_,_,h⟩:=GP h;have⟨_,_,h⟩:=GP h;have⟨_,_,h⟩:=GP h;have⟨_,_,h⟩:=GP h;have⟨_,_,h⟩:=GP h;have⟨_,_,h⟩:=GP h;cases h;have:s=6:=by rw[DX]at a;simpa using a
  grind
def p_(f:JZ)(l:KX DO):JZ:=(f.1,f.2.1,f.2.2.1,f.2.2.2.1,f.2.2.2.2.1,l,f.2.2.2.2.2.2.1,f.2.2.2.2.2.2.2.1,f.2.2.2.2.2.2.2.2)
theorem AQW{h:K7}{pa:KX DO}{k:Int}{wk:KX DO}
 (b:P2 p=some 0)(d:QS p=some (some (p,A,C,R,H2 p.2.1 p.1.2.2.2.2)))(z:∀x:JZ,x.1=h.1->x.2.1=h.2.1->x.2.2.1=h.2.2->UI (some (p,A,C,R,H2 p.2.1 p.1.2.2.2.2),x)=some true)
 (I:P3 (some (p,A,C,R,H2 p.2.1 p.1.2.2.2.2),h)=some (some (p,A,C,R,H2 p.2.1 p.1.2.2.2.2),h,a,c,pa,k,wk))
 (y:NL (some (p,A,C,R,H2 p.2.1 p.1.2.2.2.2),h,a,c,pa,k,wk)=some f)(E:QV ((some (p,A,C,R,H2 p.2.1 p.1.2.2.2.2),h,a,c,pa,k,wk),f)=some false)
 (D:f.2.2.2.1≠1)(B:pa.length<=3001)(J:PathR p.1 p.2.1 h.2.1 pa)(hi:i<pa.length):SQ (p,p_ f (pa.eraseIdx i))=some ([2],0):=by
 have⟨e,j,l,m,s,H,w,_⟩:=A1H y;have G:DT f.2.2.2.1 1=false:=by
  cases h:DT f.2.2.2.1 1 with
  |false=>rfl
  |true=>grind[DX,absurd]
 refine A90 (b1:=true) (b2:=false) b d (z _ l m s) ?_ ?_ E w e j
 .show P3 (_,(f.1,(f.2.1,f.2.2.1)))=_;grind
 simp_all[bL,p_,A8,AQR,A0]
theorem AQX{m:Q_}(h:NL m=some f)(d:f.2.2.2.1≠6):QV (m,f)=some false:=by
 have⟨_,_,_,_,_,_,_,g⟩:=A1H h;have⟨a,b⟩:=g d;unfold QV;dsimp only;have e:DT f.2.2.2.1 6=false:=by
  cases h:DT f.2.2.2.1 6 with
  |false=>rfl
  |true=>grind[DX,absurd]
 rw[e,BJ,A4,a,b];rfl
section
variable{g:I7}{how:Int}{w:GF}(hw:WoOk g how w)(hg:GB g)(ho:GrOk g){s:IH}(hs:SpOk w s)
include hw ho in
theorem cO{f:J4}(h:g.2.2.1[i]?=some f):DY DU f.1 w.2.1=some (i:Int):=
 A14 hw.fn ho.fn oc
include hw ho in
theorem AQY{f:SZ}(h:g.2.1[i]?=some f):DY DU f.1 w.2.2.1=some (i:Int):=
 A14 hw.ty ho.tn oc
include hw hg ho hs
theorem AQZ(N:M.length<=3000)(G:M.Pairwise λa b=>a.1<b.1)(E:∀e∈M,T2 w s e.1 e.2):oA (some w,some s,M)=some true:=by
 have j:=hw.gr;have z:=hs.fl;rw[j]at z;have key:=JN (E_ (r:=o9) (σ:=Unit) M.length (λ_ i=>(some w,some s,M,M,(M.length:Int),i)) (λ_ _=>True) (Q:=λr=>r=.inl ()) oa (λnext _ i hi _ O=>?_) (λnext _ _=>?_) () trivial)
 .simp_all[oA,A0C]
 .unfold o9;dsimp only;have l:=A1 hi;have⟨R,f,k1,m,B,C⟩:=E _ (AG hi);have d:0<i->∃y,M[i-1]?=some y/\y.1<M[i].1:=λh=>⟨M[i-1],A1 oa,BS.1 G (i-1) i oa hi oa⟩;generalize M[i]=e at l B C d;obtain⟨en,K⟩:=e;dsimp only at B C d;subst B;rw[j]at m;have x:=cO hw ho m;have⟨y,I,J⟩:=ho.makes f (AE m) en C;have⟨T,A⟩:=hw.ty.2 en (BP.2 ⟨y,I,J⟩);rw[E4,A6 hi,A4,ET l,A0,A0,A0,EW oa];dsimp only;rw[x,A];simp only[Option.isSome_some,B7,Bool.or_self,BJ,BU,C1,C5];refine DP.2 (Z1.mono (P:=λp=>(0:Int)<(i:Int)->p.1<en) (DR.2 ⟨λh=>?_,λh=>DQ.2 λD=>absurd D (AI h)⟩) λp L=>?_)
  .have h:=AC h;grind[EJ,ET,DQ]
  .have H:((decide ((0:Int)<(i:Int)))&&(Op.bytesLess en p.1||DU en p.1))=false:=by
    rw[pQ];by_cases h0:(0:Int)<(i:Int)
    .grind
    .grind
   rw[H];simp only[BJ,A4,A0,C1];rw[ET k1,A0];simp only[B7,BJ,A4,A0];rw[j,ET m,A0];refine DP.2 ((cG _ _ (Nat.lt_of_le_of_lt (hg.f1 _ (AE m)).2.2.2.1 oi)).mono λr Q=>?_);simp_all
 .unfold o9;dsimp only;rw[E4,A9 (AA _),A8];exact DQ.2 rfl
omit hg hs in
theorem AQ_{f:Nat}{h:JY}{c:IQ}(l:UV w s f h c j):∃x y,g.2.2.1[f]?=some x/\g.2.2.1[j]?=some y/\h.2=y.1/\X7 (some w,h,x.1)=some (c,true):=by
 obtain⟨x,y,n,a,rfl,b,m,p,d⟩:=l;rw[hw.gr]at a d;refine⟨x,y,a,d,rfl,?_⟩;have z:=(A3.1 b).1;unfold X7;dsimp only;have e:DU x.1 x.1=true:=by rw[E3];exact A6 rfl
 rw[A0,cO hw ho a,e,A9 (show ¬((n:Int)<0) by omega)];simp only[Option.isSome_some,B7,Bool.or_self,BJ,A4,A0,C5,hw.gr,ET a,ET b];simp_all[A9,Bool.or_self,A8,MV]
omit hw hg ho hs in
theorem AQa{h:JY}{a:DO}(b:h.1.1≠a):∃c,X7 (some w,h,a)=some (c,false):=by
 unfold X7;dsimp only;have e:DU h.1.1 a=false:=by rw[E3];exact A9 b
 simp_all
theorem AQb(W:M.length<=3000)(c:IQ)(j:Int):∃l,bM (some w,M,c,j)=some l/\l.length<=3000/\(∀z∈l,0<=z/\z<M.length)/\∀(n:Nat) e,M[n]?=some e->MW w s c j e.1->(n:Int)∈l:=by
 have p:=hw.gr;have x:g.1.length*g.2.1.length<=100000:=by have:=Nat.mul_le_mul ho.i ho.t;omega
 have⟨fl,d⟩:=hw.fit c.2.1;have key:Z1 (A0D (some w,j,c,([]:KX Int),M,(M.length:Int),0)) (λl=>l.length<=M.length/\(∀z∈l,0<=z/\z<M.length)/\∀(n:Nat) e,n<M.length->M[n]?=some e->MW w s c j e.1->(n:Int)∈l):=by
  refine E_ (r:=oB) (σ:=KX Int) M.length (λo i=>(some w,j,c,o,M,(M.length:Int),i)) (λi o=>o.length<=i/\(∀z∈o,0<=z/\z<M.length)/\∀(n:Nat) e,n<i->M[n]?=some e->MW w s c j e.1->(n:Int)∈o) oa (λnext o i hi E H=>?_) (λnext o E=>?_) [] ⟨AD _,λz h=>(om),λn e h=>oa⟩
  .obtain⟨Y,L,Z⟩:=E;unfold oB;dsimp only;have b:=A1 hi;rw[E4,A6 hi,A4,ET b,A0,A0,A0,EW oa];generalize M[i]=e at b;have G:=pW (H4 w c.2.1) ((DY DU e.1 w.2.2.1).getD 0) oa;unfold H4 at G d;rw[G,A0];refine DP.2 (Z1.mono (P:=λr=>decide ((DY DU e.1 w.2.2.1).getD 0∈(DY DU c.2.1 w.2.2.2.1).getD [])=true->r=MA w c.2.2.1 ((DY DU e.1 w.2.2.1).getD 0)) (DR.2 ⟨λh=>?_,λh=>DQ.2 λQ=>oc⟩) λr B=>?_)
   .obtain⟨t0,t1⟩:=d _ (AC h);rw[cJ hw hg _ t0 t1];exact DQ.2 λ_=>rfl
   .have K:MW w s c j e.1->(decide ((DY DU e.1 w.2.2.1).getD 0∈(DY DU c.2.1 w.2.2.2.1).getD [])&&DT r j)=true:=by rintro⟨t,D,u2,N,y,I,O⟩;unfold H4 at D;rw[p]at I;have a:=AQY hw ho I;rw[O]at a;have⟨t0,t1⟩:=d _ D;rw[show((t.toNat:Nat):Int)=t by omega]at a;rw[a,C5]at B ⊢;rw[A6 D]at B ⊢;rw[B rfl,N,DX];simp
    refine DR.2 ⟨λh=>DP.2 (FF.2 ⟨oc,H _ ⟨oc,λz X=>?_,λn J A m C=>?_⟩⟩),λh=>H _ ⟨oa,L,λn J A m C=>?_⟩⟩
    .grind
    .grind
    grind
  .simp_all[oB,E4,A9,AA,A8,DQ]
 obtain⟨l,R,T,U,V⟩:=key;grind[List.getElem?_eq_some_iff,bM]
end
theorem AQc(p:l.length<=3000)(u:KX X5)(j:∀z∈l,0<=z/\z<u.length):∃a,bO (u,l,(l.length:Int),0)=some a/\a.length=u.length/\(∀n:Nat,u[n]?=some true->a[n]?=some true)/\∀n:Nat,(n:Int)∈l->a[n]?=some true:=by
 have key:Z1 (bO (u,l,(l.length:Int),0)) (λa=>a.length=u.length/\(∀n:Nat,u[n]?=some true->a[n]?=some true)/\∀n:Nat,(n:Int)∈l->a[n]?=some true):=by
  refine E_ (r:=oD) (σ:=KX X5) l.length (λv i=>(v,l,(l.length:Int),i)) (λi v=>v.length=u.length/\(∀n:Nat,u[n]?=some true->v[n]?=some true)/\∀n:Nat,(n:Int)∈l.take i->v[n]?=some true) oa (λnext v i hi d e=>?_) (λnext v d=>?_) u ⟨rfl,λn h=>h,λn h=>om⟩
  .obtain⟨s,w,x⟩:=d;unfold oD;dsimp only;have b:=A1 hi;have⟨z0,m⟩:=j _ (AG hi);rw[E4,A6 hi,A4,ET b,A0,EW oa];generalize l[i]=z at b z0 m;refine DP.2 (EY.2 ⟨⟨z0,oa⟩,e _ ⟨oc,λn h=>?_,λn h=>?_⟩⟩)
   .grind
   .rw[GO b]at h;grind
  .simp_all[oD,E4,A9,AA,A8,AR,DQ]
 exact key
theorem AQd(b:u.length<=3000)(h:∀n,n<u.length->u[n]?=some true):bN (u,false)=some false:=by
 have key:=JN (E_ (r:=oC) (σ:=Unit) u.length (λ_ i=>(u,false,(u.length:Int),i)) (λ_ _=>True) (Q:=λr=>r=.inl ()) oa (λnext _ i hi _ a=>?_) (λnext _ _=>?_) () trivial)
 .simp_all[bN,A0F,A0E]
 .unfold oC;dsimp only;rw[E4,A6 hi,A4,ET (h i hi),A0,EW oa,show IE false true=false from rfl,A8];exact a () trivial
 .unfold oC;dsimp only;rw[E4,A9 (AA _),A8];exact DQ.2 rfl
theorem LkW.first{K:KX KT}{b t:Nat}(h:LkW b K t):(∀k,K[0]?=some k->k.1=b)/\(0=K.length->b=t):=by
 cases K with
 |nil=>exact⟨λk hk=>(by cases hk),λ_=>h⟩
 |cons a K=>exact⟨λk hk=>by cases hk;exact h.1,λe=>by simp at e⟩
theorem LkW.next:∀{K:KX KT} {b t:Nat} (_:LkW b K t) {i:Nat} {k:KT} (_:K[i]?=some k),(∀d,K[i+1]?=some d->d.1=k.2.2.2)/\(i+1=K.length->k.2.2.2=t)
 |[],_,_,_,_,_,hk=>by cases hk
 |a::K,b,t,h,0,k,hk=>by cases hk;obtain⟨f1,e⟩:=h.2.first;grind
 |a::K,b,t,h,i+1,k,hk=>by have⟨f1,e⟩:=h.2.next (i:=i) (k:=k) hk;grind
section
variable{g:I7}{how:Int}{w:GF}(hw:WoOk g how w)(hg:GB g)(ho:GrOk g){s:IH}(hs:SpOk w s)
include hw hg ho hs
theorem A91(W:x.2.2.length<=3000){f:Nat}{h:JY}{c:IQ}(Q:UV w s f h c j)(J:w.2.2.2.2.2=true->c.1=2->∃e∈x.2.2,MW w s c (j:Int) e.1)(hH:H.length<=3000)(hi:H[i]?=some h)
 (R:u.length=x.2.2.length){L:J4}(Y:g.2.2.1[f]?=some L):∃d y,g.2.2.1[j]?=some y/\d.length=x.2.2.length/\(∀n:Nat,u[n]?=some true->d[n]?=some true)/\
  (w.2.2.2.2.2=true->c.1=2->∀(n:Nat) e,x.2.2[n]?=some e->MW w s c (j:Int) e.1->d[n]?=some true)/\
  ∀next,P4 next (some w,x,u,L.1,H,(H.length:Int),(i:Int))=next (some w,x,d,y.1,H,(H.length:Int),(i:Int)+1):=by
 have E:=hw.gr;have I:=(A3.1 hi).1;have⟨h3,y,M,p,U,V⟩:=AQ_ hw ho Q;rw[Y]at M;cases A2 M;have D:cM w false s.2.2.1 c (j:Int):=by
  obtain⟨_,_,_,_,_,_,_,N,_⟩:=Q;unfold l7 at N;unfold cM;by_cases e:c.1=1
  .rwa[if_pos e]at N ⊢
  .grind
 have m:=hs.ml;rw[E]at m;have⟨l,Z,l1,l2,l3⟩:=A8l hw hg ho false m c oc;rw[if_neg oi]at Z;have X:SI (l,(j:Int))=some true:=by rw[pW _ _ oa,A6 ((l2 _).2 D)]
 have C:=cO hw ho p
 have pre:∀next,P4 next (some w,x,u,L.1,H,(H.length:Int),(i:Int))=
  bif (w.2.2.2.2.2&&(DT c.1 (2:Int)))then
   (bM (some w,x.2.2,c,(j:Int))).bind λb=>
   bif (DT (b.length:Int) (0:Int))then some (.inr false)
   else(bO (u,b,(b.length:Int),(0:Int))).bind λK=>next (some w,x,K,y.1,H,(H.length:Int),(i:Int)+1)
  else next (some w,x,u,y.1,H,(H.length:Int),(i:Int)+1):=λnext=>by
  unfold P4;dsimp only;rw[E4,A6 I,A4,ET hi,A0,V,A0,A0,EW oa,U,C];grind
 cases a:(w.2.2.2.2.2&&(DT c.1 (2:Int)))with
 |false=>refine⟨u,y,p,R,λn h=>h,λz A=>?_,λnext=>by rw[pre,a,A8]⟩;rw[z,A]at a;cases a
 |true=>have B:=a;rw[A7,DX,B3]at a;have⟨e,m1,m2⟩:=J a.1 a.2;have⟨n,n1,n2⟩:=List.mem_iff_getElem.1 m1;have⟨r,r1,r2,r3,T⟩:=AQb hw hg ho hs W c (j:Int);have G:=T n e (A3.2 ⟨n1,n2⟩) m2;have O:=List.length_pos_of_mem G;have⟨d,q1,q2,q3,q4⟩:=AQc r2 u oc;refine⟨d,y,p,q2.trans R,q3,λ_ _ n e z A=>q4 n (T n e z A),λnext=>?_⟩;rw[pre,B,A4,r1,A0,DX,A9 oa,A8,q1,A0]
omit hw hg ho hs in
theorem AQe{h:JY}(j:H.length<=3000)(hi:H[i]?=some h){a:DO}(d:h.1.1≠a)(next:_):P4 next (some w,x,u,a,H,(H.length:Int),(i:Int))=some (.inr false):=by have b:=(A3.1 hi).1;have⟨c,e⟩:=AQa (w:=w) d;unfold P4;dsimp only;rw[E4,A6 b,A4,ET hi,A0,e,A0,A0];rfl
omit hw hg ho hs in
theorem A92{a:DO}(next:_):P4 next (some w,x,u,a,H,(H.length:Int),(H.length:Int))=some (.inl (u,a)):=by simp_all[P4,E4,A9,AA,A8]
noncomputable def qA(tg:DO):Sum (KX X5×DO) X5->X1 X5
 | .inl y=>(bif (DU y.2 tg)then bN (y.1,false)else some false).bind λr=>some ((DU y.2 tg)&&(!r))
 | .inr b=>some b
theorem A93{tg en:DO}(p:OB (some w,-1)=some (some s))(j:en∈g.2.2.2)(y:M.length<=3000)(z:M.Pairwise λa b=>a.1<b.1)(x:∀e∈M,T2 w s e.1 e.2/\w.2.2.2.2.2=true)
 {r:Sum (KX X5×DO) X5}(B:bP (some w,(en,H,M),List.replicate M.length false,en,H,(H.length:Int),0)=some r):
 X8 (some w,tg,(en,H,M))=qA tg r:=by
 have l:=hw.gr;have⟨b,h,d⟩:=cG g.2.2.2 en (by have:=hg.e0;omega);rw[d.2 j]at h;have m:mks? 24 (M.length:Int) (M.length:Int) false=some (List.replicate M.length false):=by exact zg
 unfold X8;dsimp only;rw[p,A0,A0,l,h,A0];simp only[B7,BJ,A4];rw[AQZ hw hg ho hs y z λe A=>(x e A).1,A0];simp only[B7,Bool.or_self,BJ,A4,A0];have C:((!w.2.2.2.2.2)&&(decide ((0:Int)<(M.length:Int))))=false:=by
  cases M with
  |nil=>simp
  |cons e M=>grind
 rw[C1,C,A8,m,A0,B,A0];grind[DU,qA]
variable{tg:DO}{x:L4}{b t:Nat}{K:KX KT}(hW:WitR w s b t K x.2.1 x.2.2)(hsp:OB (some w,-1)=some (some s))(hen:x.1∈g.2.2.2)(hb:∃y,g.2.2.1[b]?=some y/\y.1=x.1)(htg:∃y,g.2.2.1[t]?=some y/\y.1=tg)(ha:x.2.2.Pairwise λa b=>a.1<b.1)
 (hH:x.2.1.length<=3000)(hM:x.2.2.length<=3000)
include hW hsp hen hb htg ha hH hM
theorem AQf:X8 (some w,tg,x)=some true:=by
 have E:x.2.1.length=K.length:=by rw[hW.hops,AZ]
 have D:∀(i:Nat) h,x.2.1[i]?=some h->∃k,K[i]?=some k/\k.2.1=h:=λi h hi=>by rw[hW.hops,AS]at hi;grind
 have key:Z1 (bP (some w,x,List.replicate x.2.2.length false,x.1,x.2.1,(x.2.1.length:Int),0)) (λr=>∃u,r=.inl (u,tg)/\u.length=x.2.2.length/\∀n,n<u.length->u[n]?=some true):=by
  refine E_ (r:=P4) (σ:=KX X5×DO) x.2.1.length (λz i=>(some w,x,z.1,z.2,x.2.1,(x.2.1.length:Int),i)) (λi z=>z.1.length=x.2.2.length/\(∃ (f:Nat) (A:J4),g.2.2.1[f]? = some A/\A.1=z.2/\(∀ k,K[i]? = some k->k.1=f)/\(i=K.length->f=t)) /\
   ∀(m:Nat) k,m<i->K[m]?=some k->w.2.2.2.2.2=true->k.2.2.1.1=2->∀(n:Nat) e,x.2.2[n]?=some e->MW w s k.2.2.1 (k.2.2.2:Int) e.1->z.1[n]?=some true) oa (λnext z i hi C W=>?_) (λnext z C=>?_) (List.replicate x.2.2.length false,x.1) ⟨oh,?_,λm k h=>oa⟩
  .obtain⟨u,B⟩:=z;obtain⟨j,⟨f,A,I,d,O,Q⟩,p⟩:=C;dsimp only at j d p ⊢;have⟨k,k1,J⟩:=D i _ (A1 hi);have a:=AE k1;have⟨l,_⟩:=hW.hop k a;rw[J]at l;have H:=O k k1;subst H;have⟨u',y,v1,v2,v3,v4,v5⟩:=A91 hw hg ho hs hM l (λT M=>hW.srv T k a M) hH (A1 hi) j I;rw[<-d,v5];have⟨n1,n2⟩:=hW.lk.next k1;refine W (u',y.1) ⟨v2,⟨_,y,v1,rfl,n1,n2⟩,λm k' hm U V M n e Y Z=>?_⟩;grind
  .obtain⟨u,B⟩:=z;obtain⟨j,⟨f,A,I,d,O,Q⟩,p⟩:=C;dsimp only at j d p ⊢;rw[A92];have G:=Q E;subst G;obtain⟨y,L,R⟩:=htg;rw[I]at L;cases A2 L;refine DQ.2 ⟨u,by rw[<-d,R],j,λn X=>?_⟩;have b:n<x.2.2.length:=oa;have⟨_,u2,k,k1,J,k3⟩:=hW.use _ (AG b);have⟨m,m1,m2⟩:=List.mem_iff_getElem.1 k1;exact p m k oa (A3.2 ⟨m1,m2⟩) u2 J n _ (A1 b) k3
  .obtain⟨y,L,R⟩:=hb;obtain⟨f1,f2⟩:=hW.lk.first;grind
 obtain⟨_,l,u,rfl,h3,hu⟩:=key;rw[show x=(x.1,x.2.1,x.2.2)from rfl,A93 hw hg ho hs hsp hen hM ha (λe N=>⟨(hW.use e N).1,(hW.use e N).2.1⟩) l];have ee:DU tg tg=true:=by rw[E3];exact A6 rfl
 simp_all[qA,A4,AQd]
theorem AQg{i0:Nat}(H:i0<x.2.1.length):X8 (some w,tg,(x.1,x.2.1.eraseIdx i0,x.2.2))=some false:=by
 have h4:x.2.1.length=K.length:=by rw[hW.hops,AZ]
 have m:∀(i:Nat) h,x.2.1[i]?=some h->∃k,K[i]?=some k/\k.2.1=h:=λi h hi=>by rw[hW.hops,AS]at hi;grind
 have h3:(x.2.1.eraseIdx i0).length=x.2.1.length-1:=by rw[List.length_eraseIdx,if_pos H]
 have V:∀(a b:Nat) (p q:J4),g.2.2.1[a]?=some p->g.2.2.1[b]?=some q->a≠b->p.1≠q.1:=λa b p q G T J e=>by have e1:=cO hw ho G;grind[cO,Option.some.inj]
 have l:∀k∈K,∃p q,g.2.2.1[k.1]?=some p/\k.2.1.1.1=p.1/\g.2.2.1[k.2.2.2]?=some q/\p.1≠q.1:=λk hk=>by have⟨⟨p,q,n,G,T,_,_,_,h6⟩,J⟩:=hW.hop k hk;rw[hw.gr]at G h6;grind
 have⟨k0,k1,_⟩:=m i0 _ (A1 H);have⟨p0,q0,n1,_,Y,n4⟩:=l k0 (AE k1);have key:Z1 (bP (some w,(x.1,x.2.1.eraseIdx i0,x.2.2),List.replicate x.2.2.length false,x.1,x.2.1.eraseIdx i0,((x.2.1.eraseIdx i0).length:Int),0)) (λr=>r=.inr false\/∃u a,r=.inl (u,a)/\a≠tg):=by
  refine E_ (r:=P4) (σ:=KX X5×DO) (x.2.1.eraseIdx i0).length (λz i=>(some w,(x.1,x.2.1.eraseIdx i0,x.2.2),z.1,z.2,x.2.1.eraseIdx i0,((x.2.1.eraseIdx i0).length:Int),i))
   (λi z=>i<=i0/\z.1.length=x.2.2.length/\∃(f:Nat) (R:J4),g.2.2.1[f]?=some R/\R.1=z.2/\(∀k,K[i]?=some k->k.1=f)) oa (λnext z i hi U hn=>?_) (λnext z U=>?_) (List.replicate x.2.2.length false,x.1) ⟨AT _,oh,?_⟩
  .obtain⟨u,E⟩:=z;obtain⟨j0,M,f,R,C,N,O⟩:=U;dsimp only at M N ⊢;by_cases hc:i=i0
   .subst hc;have s:(x.2.1.eraseIdx i)[i]?=x.2.1[i+1]?:=by rw[List.getElem?_eraseIdx,if_neg oa]
    have B:i+1<x.2.1.length:=oa;have d:=A1 B;have⟨D,Q,k4⟩:=m (i+1) _ d;have W:=(hW.lk.next k1).1 D Q;have⟨p2,_,m1,m2,_⟩:=l D (AE Q);rw[W,Y]at m1;cases A2 m1;have j:=O k0 k1;rw[<-j,n1]at C;cases A2 C;rw[AQe oa (s.trans d) oc];exact DQ.2 (.inl rfl)
   .have s:(x.2.1.eraseIdx i0)[i]?=x.2.1[i]?:=by rw[List.getElem?_eraseIdx,if_pos oa]
    have B:i<x.2.1.length:=oa;have d:=A1 B;have⟨k,D,Q⟩:=m i _ d;have I:=AE D;have⟨L,_⟩:=hW.hop k I;rw[Q]at L;have j:=O k D;subst j;have⟨u',y,v1,v2,v3,v4,v5⟩:=A91 hw hg ho hs (x:=(x.1,x.2.1.eraseIdx i0,x.2.2)) hM L (λG T=>hW.srv G k I T) oa (s.trans d) M C;rw[<-N,v5];exact hn (u',y.1) ⟨oa,v2,_,y,v1,rfl,(hW.lk.next D).1⟩
  .obtain⟨u,E⟩:=z;obtain⟨j0,M,f,R,C,N,O⟩:=U;dsimp only at M N ⊢;rw[A92];have hi:(x.2.1.eraseIdx i0).length=i0:=oa;have j:=O k0 oc;rw[<-j,n1]at C;cases A2 C;obtain⟨y,Z,y2⟩:=htg;have A:=(hW.lk.next k1).2 oa;rw[A,Z]at Y;cases A2 Y;exact DQ.2 (.inr ⟨u,E,rfl,oc⟩)
  .obtain⟨y,Z,y2⟩:=hb;exact⟨b,y,Z,y2,hW.lk.first.1⟩
 obtain⟨r,L,X⟩:=key;rw[A93 hw hg ho hs hsp hen hM ha (λe he=>⟨(hW.use e he).1,(hW.use e he).2.1⟩) L];rcases X with rfl|⟨u,a,rfl,J⟩
 .rfl
 grind[DU,E3,decide_eq_false,qA]
end
theorem A94{g:I7}(B:GB g){a:Int}{fs:KX DO}{tg:DO}(h:A1B g a fs tg x)(m:x.2.1.length<=3000)(p:x.2.2.length<=3000):
 QU (g,a,fs,tg,x)=some (true,0)/\∀i,i<x.2.1.length->QU (g,a,fs,tg,(x.1,x.2.1.eraseIdx i,x.2.2))=some (false,0):=by
 obtain⟨w,s,b,t,K,e,E,C,j,D,A,d,l,y,z⟩:=h;refine⟨?_,λi hi=>?_⟩
 .unfold QU;dsimp only;rw[e,A0];dsimp only;rw[show(!(DT (0:Int) 0))=false from rfl,A8,AQf E B C D y j d A l z m p,A0]
 .unfold QU;dsimp only;rw[e,A0];dsimp only;rw[show(!(DT (0:Int) 0))=false from rfl,A8,AQg E B C D y j d A l z m p hi,A0]
theorem AQh{m:Q_}(h:NL m=some f)(a:f.2.2.2.1=6):∃S fn y w b,m.1=some S/\WY m=some fn/\at? S.1.2.2.2.1 (0:Int)=some y/\X0 (y,S.1.2.2.2.2.1,S.1.2.2.2.2.2.1,fn)=some (w,b)/\f.2.2.2.2.2.2.1=fn/\f.2.2.2.2.2.2.2.1=[w]:=by
 unfold NL at h;have⟨s,B,h⟩:=GP h;have⟨r,A,h⟩:=GP h;dsimp only at h;cases e:DT s 6 with
 |false=>rw[e,A8]at h;cases h;have a:s=6:=a;rw[a]at e;cases e
 |true=>rw[e,A4]at h;have⟨fn,d,h⟩:=GP h;have⟨S,j,h⟩:=GP h;have⟨y,l,h⟩:=GP h;have⟨S2,p,h⟩:=GP h;have⟨S3,x,h⟩:=GP h;have⟨w,z,C⟩:=GP h;grind
def qB(f:JZ)(l:KX L4):JZ:=(f.1,f.2.1,f.2.2.1,f.2.2.2.1,f.2.2.2.2.1,f.2.2.2.2.2.1,f.2.2.2.2.2.2.1,l,f.2.2.2.2.2.2.2.2)
structure Ok27(p:GG)(f:JZ):Prop where
 pl:f.2.2.2.2.2.1.length<=3001
 pa:∀i,i<f.2.2.2.2.2.1.length→SQ (p,p_ f (f.2.2.2.2.2.1.eraseIdx i))=some ([2],0)
 wl:f.2.2.2.2.2.2.2.1.length<=1
 wi:∀x∈f.2.2.2.2.2.2.2.1,x.2.1.length<=3000/\(∃y,at? p.2.2.2.1 (0:Int)=some y/\QU (y,p.2.2.2.2.1,p.2.2.2.2.2.1,f.2.2.2.2.2.2.1,x)=some (true,0))/\
  ∀i,i<x.2.1.length->SQ (p,qB f [(x.1,x.2.1.eraseIdx i,x.2.2)])=some ([3],0)
theorem A95{S:PL}{m:K7×FG×F9×KX DO×Int×KX DO}{y:I7}{b:X5}(e:f.2.2.2.1=6)(s:f.2.2.2.2.2.2.2.1=[x])(p:m.2.2.2.2.2.length<=1048576)(a:f.2.2.2.2.2.2.1∈m.2.2.2.2.2)(j:(DY DU f.2.2.2.2.2.2.1 S.2.2.2.1).getD false=true)
 (w:at? S.1.2.2.2.1 (0:Int)=some y)(l:QU (y,S.1.2.2.2.2.1,S.1.2.2.2.2.2.1,f.2.2.2.2.2.2.1,x)=some (b,0)):QV ((some S,m),f)=some (!b):=by
 have⟨c,d,h⟩:=cG m.2.2.2.2.2 f.2.2.2.2.2.2.1 oa;rw[h.2 a]at d;unfold QV;dsimp only;rw[e,s,show(!(DT (6:Int) 6))=false from rfl,A8,show DT (([x]:KX L4).length:Int) 1=true from rfl];simp only[B7,BJ,A4];rw[d,A0];simp only[B7,Bool.or_self,BJ,A4,A0];rw[j];simp only[B7,Bool.or_self,A8,A0];rw[w,A0,show at? [x] (0:Int)=some x from rfl,A0,l,A0];rfl
theorem AQi(m:PrB p)(Y:PrOk p)(E:P2 p=some 0)(Q:QS p=some (some (p,A,C,R,H2 p.2.1 p.1.2.2.2.2)))(hA:∀a∈p.2.2.1.2.1,DY DU a.1 A=some a)(hC:∀c∈p.1.2.2.2.1,DY DU c.1 C=some c)(hR:A1F p R)
 (ha:a∈p.2.2.1.2.1)(h4:MS a=0)(hj:p.1.2.2.2.1[j]?=some c)(x1:JV c.2.1=some (HQ c,0))(hv:(L3 c).length<=1048576){x:Af}(hx:a.2.2.2.2.2.2[i]?=some x)(hg:a.2.2.2.2.1=false)(hb:JO a p.1.2.2.2.1 j i=true):
 ∃f:JZ,((P3 (some (p,A,C,R,H2 p.2.1 p.1.2.2.2.2),(a.1,(c.1,(i:Int))))).bind λr5=>NL r5)=some f/\Ok27 p f:=by
 have⟨_,_,_,k4⟩:=AQF E;have hc:=AE hj;have hi:=(A3.1 hx).1;have D:=m.bs a ha;have y1:=D.2.2.2.2.2.2 x (AE hx);have h7:=y1.2.2.2.2.2.1;have⟨pr,x3,M,x2⟩:=AQN p.1 m.bl c.1 p.2.1;have J:∀g∈p.2.2.2.1,g.2.2.1.length<=1048576:=λg hg=>(m.gr g hg).f0;have T:(I8 x.2.2.2.2 c.1 p.2.2.2.1).length<=1048576:=by
  have G:=Y.gr;unfold I8;generalize p.2.2.2.1=gs at G J;cases gs with
  |nil=>simp
  |cons g gs=>grind
 have U:a.2.2.2.2.2.2[((a.1,(c.1,(i:Int))):K7).2.2.toNat]?=some x:=by simpa using hx
 have⟨F,_,x5,hF⟩:=AQC p m Y A C R (H2 p.2.1 p.1.2.2.2.2) (a.1,(c.1,(i:Int))) a c pr.1 (I8 x.2.2.2.2 c.1 p.2.2.2.1) U oh oa λf H=>A8x H;have⟨k,hk,h9⟩:=AQ7 (p,A,C,R,H2 p.2.1 p.1.2.2.2.2) a c D.2.1 (m.bl.c c hc).2.1 m.s0;have x0:=AQE h9;have hm:P3 (some (p,A,C,R,H2 p.2.1 p.1.2.2.2.2),(a.1,(c.1,(i:Int))))=some (some (p,A,C,R,H2 p.2.1 p.1.2.2.2.2),(a.1,(c.1,(i:Int))),a,c,pr.1,k,I8 x.2.2.2.2 c.1 p.2.2.2.1):=by
  unfold P3;dsimp only
  rw [A0,A0,A0,A0,hA a ha,hC c hc,C5,C5,x3,A0,hk,A0,A0,
   AQ9 _ (a.1,(c.1,(i:Int))) a c pr.1 k U oh h7 p.2.2.2.1 Y.gr J,A0]
 obtain⟨f,H,h5⟩:∃f,NL (some (p,A,C,R,H2 p.2.1 p.1.2.2.2.2),(a.1,(c.1,(i:Int))),a,c,pr.1,k,I8 x.2.2.2.2 c.1 p.2.2.2.1)=some f/\∃s3 s2,f.2.2.2.1=h_ p R x pr.1 (I8 x.2.2.2.2 c.1 p.2.2.2.1) s3 s2:=
  ⟨_,hF p.2.2.2.2.2.2 k x0.2,_,_,x5 _ _⟩
 refine⟨f,oc,?_⟩;obtain⟨s3,s2,l⟩:=h5;have⟨g1,g2,g3,g4,g5,g6,g7,g8⟩:=A1H H;dsimp only at g3 g4 g5 g6 g7;have hh:∀z:JZ,z.1=a.1->z.2.1=c.1->z.2.2.1=(i:Int)->UI (some (p,A,C,R,H2 p.2.1 p.1.2.2.2.2),z)=some true:=λz z1 z2 z3=>AQV (hA a ha) (hC c hc) D h4 hj x1 hv hg hi hb z1 z2 z3;have hP:∀n,n<pr.1.length->f.2.2.2.1≠1/\PathR p.1 p.2.1 c.1 pr.1:=λn I=>by
  rcases x2 with h|⟨_,h⟩
  .grind
  .refine⟨λe=>?_,h⟩;rw[l]at e;unfold h_ at e;rw[show DT (pr.1.length:Int) 0=false from by grind[DX,decide_eq_false],A8]at e;revert e;cases s3<;>cases (DU (II R (I8 x.2.2.2.2 c.1 p.2.2.2.1)) [])<;>cases s2<;>cases (PM p x (I8 x.2.2.2.2 c.1 p.2.2.2.1))<;>simp
 have hW:f.2.2.2.1=6->pr.1≠[]/\∃(y:I7) (w:L4),f.2.2.2.2.2.2.2.1=[w]/\at? p.2.2.2.1 (0:Int)=some y/\GB y/\w.2.1.length<=3000/\w.2.2.length<=3000/\A1B y p.2.2.2.2.1 p.2.2.2.2.2.1 f.2.2.2.2.2.2.1 w/\f.2.2.2.2.2.2.1∈I8 x.2.2.2.2 c.1 p.2.2.2.1/\(DY DU f.2.2.2.2.2.2.1 R).getD false=true:=λd=>by
  have⟨S,fn,y,w,b,q1,Z,B,q4,q5,q6⟩:=AQh H d;cases q1;rw[A1E _ _ a c pr.1 k _ oa]at Z;have Z:=A2 Z;dsimp only at Z B q4;rw[l]at d;have K:II R (I8 x.2.2.2.2 c.1 p.2.2.2.1)≠[]:=λe=>by unfold h_ at d;rw[e,show DU ([]:DO) []=true from by rw[E3];rfl]at d;revert d;cases DT (pr.1.length:Int) 0<;>cases s3<;>cases s2<;>cases (PM p x (I8 x.2.2.2.2 c.1 p.2.2.2.1))<;>simp
  have L:pr.1≠[]:=λe=>by unfold h_ at d;rw[e]at d;have d:(1:Int)=6:=d;cases d
  have h8:=A8z K;have h3:(DY DU (II R (I8 x.2.2.2.2 c.1 p.2.2.2.1)) R).getD false=true:=by
   unfold II at K ⊢;cases y2:(I8 x.2.2.2.2 c.1 p.2.2.2.1).find? λf=>(DY DU f R).getD false with
   |none=>grind
   |some z=>grind
  have s:(p.2.2.2.1.length:Int)=1:=by have G:=A8x h8;have h2:=Y.gr;omega
  have⟨y',r,V,hr⟩:=k4 s;have B:at? p.2.2.2.1 (0:Int)=some y:=B;rw[B]at V;cases A2 V;have W:GB y:=by refine m.gr y ?_;unfold at? at B;rw[A6 (AV _)]at B;exact AE B
  have O:=hR s y (r,0) B hr (II R (I8 x.2.2.2.2 c.1 p.2.2.2.1));rw[h3]at O;have⟨r',N,_,x4⟩:=A1C W p.2.2.2.2.1 m.f0 m.f1;rw[hr]at N;cases A2 N;have⟨w',t',s',a1,a2,a3⟩:=x4 _ (AC O.symm);have⟨z,X,y3,y4,y5⟩:=A8t W p.2.2.2.2.1 m.f0 m.f1 (II R (I8 x.2.2.2.2 c.1 p.2.2.2.1));grind
 have y0:QV ((some (p,A,C,R,H2 p.2.1 p.1.2.2.2.2),(a.1,(c.1,(i:Int))),a,c,pr.1,k,I8 x.2.2.2.2 c.1 p.2.2.2.1),f)=some false:=by
  by_cases d:f.2.2.2.1=6
  .obtain⟨_,y,w,w1,w2,w3,w4,w5,w6,w7,w8⟩:=hW d;exact A95 (S:=(p,A,C,R,H2 p.2.1 p.1.2.2.2.2)) (m:=((a.1,(c.1,(i:Int))),a,c,pr.1,k,I8 x.2.2.2.2 c.1 p.2.2.2.1)) (y:=y) (x:=w) (b:=true) d w1 T w7 w8 w2 (A94 w3 w6 w4 w5).1
  .exact AQX H d
 refine⟨oc,λn I=>?_,?_,λz X=>?_⟩
 .rw[g6]at I ⊢;have⟨G,h2⟩:=hP n I;exact AQW E Q hh hm H y0 G M h2 I
 .by_cases d:f.2.2.2.1=6<;>grind
 .by_cases d:f.2.2.2.1=6
  .obtain⟨L,y,w,w1,w2,w3,w4,w5,w6,w7,w8⟩:=hW d;rw[w1]at X;have X:=AO.1 X;subst X;have⟨v1,v2⟩:=A94 w3 w6 w4 w5;refine⟨w4,⟨y,w2,v1⟩,λn I=>?_⟩;have⟨G,h2⟩:=hP 0 (List.length_pos_iff.2 L);have e1:DT f.2.2.2.1 1=false:=by rw[DX];exact A9 G
   refine A90 (h:=(a.1,(c.1,(i:Int)))) (a:=a) (c:=c) (pa:=pr.1) (wk:=I8 x.2.2.2.2 c.1 p.2.2.2.1) (b1:=false) (b2:=true) E Q (hh _ g3 g4 g5) ?_ ?_ ?_ g7 g1 g2
   .show P3 (_,(f.1,(f.2.1,f.2.2.1)))=_;grind
   .simp_all[bL,qB,A8,AQT,A0]
   .exact A95 (S:=(p,A,C,R,H2 p.2.1 p.1.2.2.2.2)) (m:=((a.1,(c.1,(i:Int))),a,c,pr.1,k,I8 x.2.2.2.2 c.1 p.2.2.2.1)) (y:=y) (x:=(z.1,z.2.1.eraseIdx n,z.2.2)) (b:=false) (f:=qB f [(z.1,z.2.1.eraseIdx n,z.2.2)]) d rfl T w7 w8 w2 (v2 n I)
  grind
theorem AQj{h:K7}(z:h∈p.2.2.1.2.1.flatMap (T3 p.1.2.2.2.1)):∃a∈p.2.2.1.2.1,∃(j:Nat) (c:F9),p.1.2.2.2.1[j]?=some c/\∃(i:Nat) (x:Af),a.2.2.2.2.2.2[i]?=some x/\a.2.2.2.2.1=false/\JO a p.1.2.2.2.1 j i=true/\h=(a.1,(c.1,(i:Int))):=by
 have⟨a,s,b⟩:=List.mem_flatMap.1 z;unfold T3 at b;split at b
 .cases b
 rename_i w;obtain⟨q,A,rfl⟩:=BP.1 b;obtain⟨c,i,l,rfl⟩:=(A19 _ _ _).1 A;have d:=l;unfold JO at d;split at d
 .rename_i y x r e m B;exact⟨a,s,c,y,e,i,x,m,by simpa using w,l,by simp[cI,e]⟩
 .cases d
theorem AQk(p:GG)(s:PrB p):Z1 (X6 p) (λr=>r.2.2≠0\/(r.2.1.length<=100000/\∀f∈r.2.1,Ok27 p f)):=by
 have⟨e,y,B⟩:=AQ2 p s;by_cases K:e=0
 .subst K;have⟨Q,_⟩:=B rfl;have⟨q,T,h2,J⟩:=APo s.bs s.bl s.bv;by_cases d:q.2=0
  .obtain⟨_,_,E,w,l⟩:=J d;obtain⟨A,C,R,N,b,U,V,X,rfl⟩:=AQO p s Q;have b:QS p=some (some (p,A,C,R,H2 p.2.1 p.1.2.2.2.2)):=b p.2.2.2.2.2.2;unfold X6;rw[y,A0,z0,A8,T,A0,d,z0,A8,b,A0];have key:=E_ (r:=nZ) (σ:=KX JZ) (Q:=λr=>r.length=q.1.length/\∀f∈r,Ok27 p f) q.1.length (λo i=>(some (p,A,C,R,H2 p.2.1 p.1.2.2.2.2),o,q.1,(q.1.length:Int),i)) (λi o=>o.length=i/\∀f∈o,Ok27 p f) oa (λnext o i hi W hn=>?_) (λnext o W=>?_) [] ⟨rfl,λf h=>om⟩
   .exact DP.2 (key.mono λr hr=>DQ.2 (.inr ⟨oc,hr.2⟩))
   .unfold nZ;dsimp only;have z:=A1 hi;have hm:=AG hi;have G:q.1[i]∈p.2.2.1.2.1.flatMap (T3 p.1.2.2.2.1):=by rw[<-l];exact hm
    have⟨a,L,j,c,O,k,x,hx,hg,Y,D⟩:=AQj G;have M:=AE O;have⟨f,Z,h1⟩:=AQi s Q y b U V X L (w a L) O (E c M) (s.bv c M) hx hg Y;rw[E4,A6 hi,A4,ET z,A0,EW oa,D];have⟨m,H,I⟩:=GP Z;rw[H,A0,I,A0];refine DP.2 (FF.2 ⟨oc,hn _ ⟨oc,λf' h'=>?_⟩⟩);grind
   simp_all[nZ,E4,A9,AA,A8,DQ]
  .refine⟨(none,[],q.2),?_,.inl d⟩;unfold X6;rw[y,A0,z0,A8,T,A0,show(!(DT q.2 0))=true from by rw[DX];simp[d],A4]
 .refine⟨(none,[],e),?_,.inl K⟩;unfold X6;rw[y,A0,show(!(DT e 0))=true from by rw[DX];simp[K],A4]
theorem AQl(p:GG)(h:PrB p):Z1 (o5 p) (λr=>r.2≠0\/(r.1.length<=100000/\∀f∈r.1,Ok27 p f)):=by grind[o5,DP,AQk,DQ]
theorem eq2:UL (([2]:KX Int),([2]:KX Int))=some true:=oe
theorem eq3:UL (([3]:KX Int),([3]:KX Int))=some true:=oe
theorem A96{α:Type}{l:KX α}(hi:i<l.length):TZ l (i:Int) ((i:Int)+1)=some (l.eraseIdx i):=by unfold TZ;rw[if_pos ⟨oa,oa,oa⟩,List.eraseIdx_eq_take_drop_succ];rfl
theorem AQm(h:Ok27 p f):A0K (p,f,(f.2.2.2.2.2.1.length:Int),0)=some (.inl (p,f)):=by
 have e:=h.pl;refine JN (E_ (r:=oH) (σ:=Unit) f.2.2.2.2.2.1.length (λ_ i=>(p,f,(f.2.2.2.2.2.1.length:Int),i)) (λ_ _=>True) oa (λnext _ i hi _ d=>?_) (λnext _ _=>?_) () trivial)
 .unfold oH A0A A09 vI;dsimp only;have a:=h.pa i hi;unfold p_ at a;have b:app? 24 ([]:KX DO) f.2.2.2.2.2.1=some f.2.2.2.2.2.1:=JN (FF.2 ⟨ot,rfl⟩);rw[E4,A6 hi,A4,b,A0,A0,EW oa,A96 hi,A0,a,A0];dsimp only;rw[show(!(!(DT (0:Int) 0)))=true from rfl,A4,A4,eq2,A0];exact d () trivial
 .unfold oH;dsimp only;rw[E4,A9 (AA _),A8];exact DQ.2 rfl
theorem AQn(h:Ok27 p f)(j:x∈f.2.2.2.2.2.2.2.1):A0L (p,f,x,(x.2.1.length:Int),0)=some (.inl (p,f)):=by
 have⟨l,_,e⟩:=h.wi x j;refine JN (E_ (r:=oI) (σ:=Unit) x.2.1.length (λ_ i=>(p,f,x,(x.2.1.length:Int),i)) (λ_ _=>True) oa (λnext _ i hi _ d=>?_) (λnext _ _=>?_) () trivial)
 .unfold oI A0J A0I vJ;dsimp only;have a:=e i hi;unfold qB at a;have b:app? 72 ([]:KX JY) x.2.1=some x.2.1:=JN (FF.2 ⟨ot,rfl⟩);rw[E4,A6 hi,A4,b,A0,A0,EW oa,A96 hi,A0,a,A0];dsimp only;rw[show(!(!(DT (0:Int) 0)))=true from rfl,A4,A4,eq3,A0];exact d () trivial
 .unfold oI;dsimp only;rw[E4,A9 (AA _),A8];exact DQ.2 rfl
theorem AQo(h:Ok27 p f):A0M (p,f,f.2.2.2.2.2.2.2.1,(f.2.2.2.2.2.2.2.1.length:Int),0)=some (.inl p):=by
 have j:=h.wl;refine JN (E_ (r:=oJ) (σ:=Unit) f.2.2.2.2.2.2.2.1.length (λ_ i=>(p,f,f.2.2.2.2.2.2.2.1,(f.2.2.2.2.2.2.2.1.length:Int),i)) (λ_ _=>True) oa (λnext _ i hi _ d=>?_) (λnext _ _=>?_) () trivial)
 .unfold oJ;dsimp only;have a:=AG hi;have⟨_,⟨y,e,b⟩,_⟩:=h.wi _ a;have i0:i=0:=oa;subst i0;rw[E4,A6 hi,A4,ET (A1 hi),A0,e,A0,b,A0,EW oa];dsimp only;rw[show(((!true)||(!(DT (0:Int) 0)))||(decide ((0:Int)<((0:Nat):Int))))=false from rfl,A8,AQn h a,A0];exact d () trivial
 .unfold oJ;dsimp only;rw[E4,A9 (AA _),A8];exact DQ.2 rfl
theorem AQp(p:GG)(e:PrB p):oL p=some true:=by
 have⟨r,j,h⟩:=AQl p e;unfold oL;rw[j,A0];by_cases b:r.2=0
 .obtain h|⟨l,a⟩:=h
  .omega
  have key:A0N (p,r.1,(r.1.length:Int),0)=some (.inl ()):=by
   refine JN (E_ (r:=oK) (σ:=Unit) r.1.length (λ_ i=>(p,r.1,(r.1.length:Int),i)) (λ_ _=>True) oa (λnext _ i hi _ m=>?_) (λnext _ _=>?_) () trivial)
   .unfold oK;dsimp only;have d:=a _ (AG hi);rw[E4,A6 hi,A4,AOP hi,A0,BV,AH,A1 hi,C5,EW oa,AQm d,A0];simp_all[AQo,A0,trivial]
   .unfold oK;dsimp only;rw[E4,A9 (AA _),A8];exact DQ.2 rfl
  rw[b,show DT (0:Int) 0=true from rfl,B7,A8,key,A0];rfl
 .rw[show(!(DT r.2 0))=true from by rw[DX];simp[b],A4,AQG];rfl
end Go.Ev.Pv
