/-
  The law as plain Lean, third part: reaching, the findings, and the law.
-/
import Derived.Test.YtngpbgokgpnamaaGreatDoorA2
set_option linter.all false
set_option maxRecDepth 100000
namespace Go.Ev.Pv
abbrev UC:=DL×Int×Int
abbrev HJ:=DL×List (Int×Int)×Int
abbrev IY:=Int×Bool
abbrev FJ:=List (IY×Bool)
def A7j{α d e:Type}{f:α->d->Option (Sum d e)}(J:d->Prop)(Q:e->Prop):∀(l:List α),(∀a∈l,∀u,J u->Tot (f a u) (λz=>match z with| .inl v=>J v| .inr c=>Q c))->∀u,J u->Tot (FF f l u) (λz=>match z with| .inl v=>J v| .inr c=>Q c):=by
 intro l;induction l with
 |nil=>intro _ u b;exact DN.2 b
 |cons a l m=>intro h u b;refine DM.2 ((h a AE u b).mono λz j=>?_);grind[List.mem_cons_of_mem,DN]
theorem pD(r:UC)(h:0<=r.2.1):Tot (L6 (some r)) (λc=>c=0\/r.2.1<r.1.length):=
 (U5.1 (some r) ⟨r,rfl,h⟩).mono λc a=>a.2.imp id λ⟨y,h1,b⟩=>oc
def ItR(s:DL)(a:Int)(q:Sum (UC×List (Int×Int)) (UC×List (Int×Int)×Bool)):Prop:=match q with
 | .inl y=>y.1.1=s/\a<=y.1.2.1/\y.1.2.1<=s.length/\(y.2.length:Int)+a<=y.1.2.1
 | .inr y=>y.1.1=s/\a<=y.1.2.1/\y.1.2.1<=s.length/\y.2.1=[]/\(y.2.2=true->a+1<=y.1.2.1)
def PtR(s:DL)(q:Sum (UC×HJ×HJ) (UC×HJ)):Prop:=match q with
 | .inl y=>y.1.1=s/\0<=y.1.2.1/\y.1.2.1<=s.length/\(y.2.2.2.1.length:Int)<=y.1.2.1
 | .inr y=>y.2.2.1.length<=s.length
def za{p:Prop}(h:p:=by grind[DM,F6,List.length_singleton,List.length_append]):p:=h
def A7k(s:DL)(a b:Int)(U:s.length<=1048576)(h0:0<=a)(h1:a<=s.length)(I:Bool):
 Tot (aR ((s,(a,b)),I)) (λq=>q.2.2.1=s/\a<=q.2.2.2.1/\q.2.2.2.1<=s.length/\(q.1.length:Int)+a<=q.2.2.2.1/\(q.2.1=true->a+1<=q.2.2.2.1)):=by
 unfold aR;dsimp only;refine DM.2 (Tot.mono (P:=ItR s a) ?_ λq p=>?_)
 .refine ES (R:=ItR s a) (λx:UC×Bool×List (Int×Int)=>x.1.1=s/\a<=x.1.2.1/\x.1.2.1<=s.length/\(x.2.2.length:Int)+a<=x.1.2.1) (λx=>((s.length:Int)-x.1.2.1).toNat) (λnext x O T=>?_) fuel ((s,(a,b)),I,[]) ⟨rfl,AR _,h1,oh⟩ (by grind[fuel]);obtain⟨⟨m,at_,d⟩,I,l⟩:=x;obtain⟨i1,M,H,N⟩:=O;dsimp only at i1 M H N T;subst i1;unfold A5S;dsimp only;refine DO.2 ⟨λ_=>?_,λ_=>DN.2 ⟨rfl,M,H,N⟩⟩;refine DM.2 ((pD (m,(at_,d)) oc).mono λc K=>?_);dsimp only at K;rw[DT];refine DO.2 ⟨λ_=>?_,λA=>?_⟩
  .refine DM.2 ((A6h.1 (m,(at_,d)) ⟨U,oc,H⟩).mono λq p=>?_);obtain⟨j,w,C,E⟩:=p;dsimp only at j w C E;refine DO.2 ⟨λ_=>DN.2 ⟨j,oc,C,oc⟩,λQ=>?_⟩;exact za
  .have A:c=42:=by simpa using A
   have R:at_<m.length:=K.resolve_left oa;rw[EH (n:=at_+1) oa oa];refine DM.2 ((pD (m,(at_+1,d)) oc).mono λV B=>?_);dsimp only at B;rw[DT];refine DO.2 ⟨λJ=>?_,λ_=>?_⟩
   .have J:=AB J;have L:at_+1<m.length:=B.resolve_left oa;refine DM.2 (Tot.mono (P:=λz=>z.length+(at_+1).toNat<=m.length\/z=[]) (DO.2 ⟨λ_=>I8.2 ⟨⟨oa,oa,AR _⟩,.inl oc⟩,λ_=>DN.2 (.inr rfl)⟩) λz G=>?_);refine DM.2 (Tot.mono (P:=λr=>r=true->2<=z.length) (DO.2 ⟨λ_=>(A6z.1 (z,[42,47]) trivial).mono λr D h=>by simpa using D h,λ_=>DN.2 λh=>oq⟩) λr D=>?_);refine DO.2 ⟨λ_=>?_,λQ=>?_⟩
    .refine DM.2 ((QI.1 ((m,(at_+1,d)),at_+1) trivial).mono λq p=>DN.2 ?_);obtain⟨j,w,_⟩:=p;dsimp only at j w;exact⟨j,oc,oc,rfl,λh=>oq⟩
    .have D:=D (by grind)
     rw[EH oa oa];have:z≠[]:=λe=>oc;have G:=G.resolve_right this;exact DN.2 ⟨rfl,oc,oc,rfl,λ_=>oc⟩
   .refine DM.2 (F6.2 ⟨oc,?_⟩);grind
 .cases q with
  |inl y=>obtain⟨j,w,C,E⟩:=p;dsimp only;refine DO.2 ⟨λ_=>?_,λ_=>DN.2 ⟨j,w,C,E,λh=>oq⟩⟩;refine DM.2 ((QI.1 (y.1,y.1.2.1) trivial).mono λz G=>DN.2 ?_);grind
  |inr y=>obtain⟨j,w,C,E,W⟩:=p;grind[DN,List.length_nil]
def AO3(s:DL)(I:s.length<=1048576)(b:Int):Tot (lK (s,(0,b))) (λq=>q.1.2.1.length<=s.length+1):=by
 unfold lK;refine DM.2 ((A6f.1 ((s,(0,b)),true) ⟨I,AR _,oh⟩).mono λZ H=>?_);obtain⟨k,s1,R,T⟩:=Z;obtain⟨M,N,O,_⟩:=H;dsimp only at M N O ⊢;subst M;refine DM.2 (Tot.mono (P:=PtR s1) ?_ λq p=>?_)
 .refine ES (R:=PtR s1) (λx:UC×HJ×HJ=>x.1.1=s1/\0<=x.1.2.1/\x.1.2.1<=s1.length/\(x.2.2.2.1.length:Int)<=x.1.2.1) (λx=>((s1.length:Int)-x.1.2.1).toNat) (λnext x U V=>?_) fuel ((s1,(R,T)),([],([],0)),(k,([],0))) ⟨rfl,N,O,by assumption⟩ (by grind[fuel]);obtain⟨⟨s',at_,E⟩,t2,X,pn,W⟩:=x;obtain⟨i1,J,K,Q⟩:=U;dsimp only at i1 J K Q V;subst i1;unfold A5U;dsimp only;refine DO.2 ⟨λ_=>?_,λ_=>DN.2 ⟨rfl,J,K,Q⟩⟩;refine DM.2 ((A7k s' at_ E I J K true).mono λq p=>?_);obtain⟨l,dp,d,a,A⟩:=q;obtain⟨w,C,D,L,Y⟩:=p;dsimp only at w C D L Y ⊢;subst w;refine DO.2 ⟨λ_=>DN.2 (by show pn.length<=_;omega),λ_=>?_⟩;refine DM.2 (Tot.mono (P:=λz=>(z.2.1.length:Int)<=a) ?_ λz B=>?_)
  .unfold yB;dsimp only;refine DO.2 ⟨λh=>DM.2 (F6.2 ⟨oc,DN.2 ?_⟩),λh=>DM.2 (F6.2 ⟨oa,DN.2 ?_⟩)⟩
   .grind
   grind
  .refine DM.2 ((pD (d,(a,A)) oc).mono λc m=>?_);dsimp only at m;rw[DT];refine DO.2 ⟨λ_=>DN.2 ⟨rfl,oc,D,B⟩,λe=>?_⟩;have e:c=47:=by simpa using e
   have G:a<d.length:=m.resolve_left oa;rw[EH (n:=a+1) oa oa];refine DO.2 ⟨λ_=>DM.2 (F6.2 ⟨oc,?_⟩),λ_=>?_⟩
   .grind
   grind
 .cases q with
  |inr y=>exact DN.2 (Nat.le_succ_of_le p)
  |inl y=>
   obtain⟨⟨d,a,A⟩,t2,X,pn,W⟩:=y;obtain⟨w,C,D,L⟩:=p;dsimp only at w C D L ⊢;subst w;refine DM.2 (Tot.mono (P:=λz=>z.2.2.1.length<=d.length+1) ?_ λz B=>?_)
   .unfold yC;dsimp only;refine DO.2 ⟨λ_=>DN.2 oc,λ_=>DO.2 ⟨λ_=>DM.2 (F6.2 ⟨oc,DN.2 oc⟩),λ_=>?_⟩⟩;refine DM.2 ((pD (d,(a,A)) C).mono λc m=>?_);dsimp only at m;rw[DT];refine DO.2 ⟨λj=>?_,λ_=>DN.2 oc⟩;have j:=AB j;have G:a<d.length:=m.resolve_left oa;rw[EH (n:=a+1) oa oa];refine DM.2 ((A7k d (a+1) A I oa oa false).mono λq p=>?_);grind[DM,F6,List.length_singleton,List.length_append,DN]
   .refine DO.2 ⟨λ_=>DM.2 ((QI.1 _ trivial).mono λ_ _=>DN.2 B),λ_=>DN.2 B⟩
def A7l(s:DL):Tot (aS s) (λq=>q.1.2.1.length<=3001):=by unfold aS;refine DO.2 ⟨λ_=>DN.2 oh,λh=>?_⟩;have h:=AG h;refine DM.2 ((AO3 s oa (-1)).mono λr a=>DO.2 ⟨λ_=>DN.2 oh,λ_=>?_⟩);refine DM.2 (Tot.mono (P:=λ_=>True) (DO.2 ⟨λ_=>(A6o.1 _ trivial).mono λ_ _=>trivial,λ_=>DN.2 trivial⟩) λz _=>?_);exact DO.2 ⟨λ_=>DN.2 oh,λ_=>DO.2 ⟨λ_=>DN.2 oh,λ_=>DN.2 oc⟩⟩
def AO4(s:DL):∃r,lL s=some r:=by have⟨r,h,_⟩:=A7l s;simp_all[lL,A0]
def GI(x y:IY):Bool:=DP x.1 y.1&&I6 x.2 y.2
theorem SK(x y:IY):GI x y=decide (x=y):=by grind[GI,DT,I6]
def A0R{α b:Type} [DecidableEq α]{eq:α->α->Bool}(h:∀x y,eq x y=decide (x=y))(k:α)(v:b):∀m:List (α×b),(EB eq k v m).map (·.1)=if k∈m.map (·.1)then m.map (·.1)else m.map (·.1)++[k]:=by
 intro m;induction m with
 |nil=>rfl
 |cons a m d=>simp only[EB];grind
def AO5{α b:Type}{eq:α->α->Bool}{k:α}{v:b}:∀{m:List (α×b)} {e:α×b},e∈EB eq k v m->e=(k,v)\/e∈m:=by
 intro m;induction m with
 |nil=>intro e h;exact .inl (AP.1 h)
 |cons a m d=>intro e h;simp only[EB]at h;grind
structure Sp(n:Nat)(l:FJ):Prop where
 tr:∀e∈l,e.2=true/\0<=e.1.1/\e.1.1<=n
 nd:(l.map (·.1)).Nodup
def Sp.nil{n:Nat}:Sp n []:=⟨λe h=>(oq),AW⟩
def Sp.put{n:Nat}{l:FJ}(h:Sp n l){x:IY}(h0:0<=x.1)(h1:x.1<=n):Sp n (EB GI x true l):=by
 refine⟨λe d=>?_,?_⟩
 .rcases AO5 d with rfl|d
  .grind
  .exact h.tr e d
 .rw[A0R SK];by_cases e:x∈l.map (·.1)
  .rw[if_pos e];exact h.nd
  .rw[if_neg e];exact AY.2 ⟨h.nd,oh,λa j b m=>oc⟩
def Sp.few{n:Nat}{l:FJ}(h:Sp n l):l.length<=2*(n+1):=by
 have:=List.Nodup.length_le_of_subset h.nd (l₂:=(List.range (n+1)).flatMap λi:Nat=>[((i:Int),false),((i:Int),true)]) λx m=>by obtain⟨e,j,rfl⟩:=B_.1 m;have⟨_,h0,h1⟩:=h.tr e j;refine List.mem_flatMap.2 ⟨e.1.1.toNat,CA.2 oa,?_⟩;have d:((e.1.1.toNat:Nat):Int)=e.1.1:=oa;rw[d];obtain⟨⟨a,b⟩,c⟩:=e;cases b<;>simp
 rw[B2,List.length_flatMap]at this;have p:((List.range (n+1)).map λi:Nat=>[((i:Int),false),((i:Int),true)].length).sum=2*(n+1):=by simp[List.map_const',CY]
 omega
def JT(o:FJ)(u:FJ):FJ:=o.foldl (λm e=>EB GI e.1 true m) u
theorem pE:∀(o u:FJ),FF S9 o u=some (.inl (JT o u)):=by
 intro o;induction o with
 |nil=>intro u;rfl
 |cons k o a=>intro u;exact a _
theorem A7m:∀(o u:FJ) (x:IY),x∈(JT o u).map (·.1)<->x∈o.map (·.1)\/x∈u.map (·.1):=by
 intro o;induction o with
 |nil=>intro u x;exact⟨.inr,λh=>h.elim (λh=>(oq)) id⟩
 |cons k o a=>intro u x;show x∈(JT o (EB GI k.1 true u)).map (·.1)<->_;rw[a,A0R SK,CQ,A_];grind
def AO6{n:Nat}:∀{o u:FJ},(∀e∈o,0<=e.1.1/\e.1.1<=n)->Sp n u->Sp n (JT o u):=by
 intro o;induction o with
 |nil=>intro u _ h;exact h
 |cons k o d=>intro u a h;exact d (λe b=>a e (AN _ b)) (h.put (a k AE).1 (a k AE).2)
theorem A7n(l:FJ)(x:IY):mD (l,x)=some (JT l [(x,true)]):=by unfold mD;dsimp only;rw[show(EB (λ(x y:Int×Bool)=>DP x.1 y.1&&I6 x.2 y.2) x true ([]:List ((Int×Bool)×Bool)))=[(x,true)]from rfl,pE,A0]
def A7o{n:Nat}{l:FJ}(h:Sp n l){x:IY}(h0:0<=x.1)(h1:x.1<=n):Sp n (JT l [(x,true)]):=
 AO6 (λe a=>(h.tr e a).2) ⟨λe a=>oc,oh⟩
def AO7{n:Nat}{l:FJ}(h:Sp n l){x:IY}(h0:0<=x.1)(h1:x.1<=n)(d:x ∉ l.map (·.1)):(JT l [(x,true)]).length=l.length+1:=by
 have b:=A7o h h0 h1;have a:((JT l [(x,true)]).map (·.1)).Perm (x::l.map (·.1)):=by refine(List.perm_ext_iff_of_nodup b.nd (AV.2 ⟨d,h.nd⟩)).2 λy=>?_;rw[A7m,A_];simp[or_comm]
 have:=a.length_eq;grind
def AO8{l:FJ}{x:IY}(h:∀e∈l,e.2=true):(DW GI x l).getD false=decide (x∈l.map (·.1)):=by
 induction l with
 |nil=>rfl
 |cons a l b=>simp only[DW];rw[SK,CQ];grind
section
variable(p:HJ)(hn:p.2.1.length<=100000)
include hn
theorem A7p(l:FJ)(h:Sp p.2.1.length l):Tot (a_ (p,l)) (λr=>Sp p.2.1.length r):=by
 unfold a_;dsimp only;refine DM.2 (Tot.mono (P:=λr=>Sp p.2.1.length r) ?_ λr K=>DN.2 K);refine ES (R:=λr=>Sp p.2.1.length r) (λx:FJ×HJ×Bool=>Sp p.2.1.length x.1/\x.2.1=p) (λx=>if x.2.2=true then 2*(p.2.1.length+1)+1-x.1.length else 0) (λnext x H d=>?_) fuel (l,p,true) ⟨h,rfl⟩ (by unfold fuel;grind);obtain⟨l,T,G⟩:=x;obtain⟨i1,y⟩:=H;have y:=y.symm;dsimp only at i1 y d;subst y;unfold A5i;dsimp only;refine DO.2 ⟨λa=>?_,λ_=>DN.2 i1⟩;have a:G=true:=a;subst a;rw[if_pos rfl]at d;have key:=A7j (f:=LY) (λu:FJ×HJ×Bool=>Sp p.2.1.length u.1/\u.2.1=p/\l.length<=u.1.length/\(u.2.2=true->l.length<u.1.length)) (λ_=>False) l (λk hk u L=>?_) (l,p,false) ⟨i1,rfl,AD _,λh=>oq⟩
 .refine DM.2 (key.mono λz E=>?_);cases z with
  |inr c=>exact E.elim
  |inl v=>obtain⟨N,O,Y,Z⟩:=E;refine d _ ⟨N,O⟩ ?_;dsimp only;have R:=i1.few;grind
 .obtain⟨M,U,V⟩:=u;obtain⟨j,A,C,D⟩:=L;have A:=A.symm;dsimp only at j A C D;subst A;have⟨_,k0,k1⟩:=i1.tr k hk;unfold LY;dsimp only;have m:∀(b:Bool),(b=true->k.1.1<p.2.1.length)->Tot (bif b then at? p.2.1 k.1.1 else some ((0:Int),(0:Int))) (λ_=>True):=λb w=>DO.2 ⟨λh=>EI.2 ⟨⟨k0,w h⟩,λ_ _=>trivial⟩,λ_=>DN.2 trivial⟩;refine DM.2 ((m _ λh=>?_).mono λW _=>DM.2 ((m _ λh=>?_).mono λX _=>DO.2 ⟨λ_=>DN.2 ⟨j,rfl,C,D⟩,λw=>?_⟩))
  .grind
  .grind
  .rw[BM,BM]at w;have J:=AG w.1.2;rw[EH (n:=k.1.1+1) oa oa];have s:=AO8 (x:=(k.1.1+1,false)) λe I=>(j.tr e I).1;unfold GI at s;rw[s];refine DO.2 ⟨λB=>?_,λ_=>DN.2 ⟨j,rfl,C,D⟩⟩;have B:(k.1.1+1,false) ∉ M.map (·.1):=by simpa using B
   rw[A7n,A0];have Q:=AO7 j (x:=(k.1.1+1,false)) oa oa B;exact DN.2 ⟨A7o j oa oa,rfl,oc,λ_=>oc⟩
theorem AO9(x:IY)(h0:0<=x.1)(sg:Int):Tot (O4 (p,x,sg)) (λr=>0<=r.1.1/\(r.1.1:Int)<=p.2.1.length):=by
 unfold O4;dsimp only;refine DO.2 ⟨λ_=>DN.2 ⟨AR _,oh⟩,λh=>?_⟩;have h:=AG h;rw[EH (n:=x.1+1) oa oa];refine DM.2 (EI.2 ⟨⟨h0,oa⟩,λy _=>?_⟩)
 repeat' first
  |(with_reducible first|refine DO.2 ⟨λ_=>?_,λ_=>?_⟩|refine DN.2 ?_)
 all_goals exact⟨om,om⟩
theorem AOA(l:FJ)(h:Sp p.2.1.length l)(sg:Int):Tot (mJ (p,l,sg)) (λr=>Sp p.2.1.length r):=by
 unfold mJ;dsimp only;have key:=A7j (f:=LZ) (λu:Int×HJ×FJ=>u.2.1=p/\Sp p.2.1.length u.2.2) (λ_=>False) l (λk hk u d=>?_) (sg,p,[]) ⟨rfl,Sp.nil⟩
 .refine DM.2 (key.mono λz m=>?_);grind[DM,A7p,DN]
 .obtain⟨e,s,w⟩:=u;obtain⟨j,a⟩:=d;have j:=j.symm;dsimp only at j a;subst j;unfold LZ;dsimp only;refine DM.2 ((AO9 p hn k.1 (h.tr k hk).2.1 e).mono λr b=>DO.2 ⟨λ_=>DN.2 ⟨rfl,a.put b.1 b.2⟩,λ_=>DN.2 ⟨rfl,a⟩⟩)
theorem AOB:Tot (mE p) (λr=>Sp p.2.1.length r):=by unfold mE;exact DM.2 ((A7p p hn _ (Sp.nil.put (x:=(0,false)) (AR _) oa)).mono λr h=>DN.2 h)
end
def AOC(o:List Int)(s:DL)(e:s.length<=1000)(d:o.length<=10000000):Tot (yV (o,s,(s.length:Int),0)) (λr=>r.length<=o.length+1000):=by
 refine EZ (r:=mF) (σ:=List Int) s.length (λo i=>(o,s,(s.length:Int),i)) (λi a=>a.length=o.length+i) oa (λnext a i hi h b=>?_) (λnext a h=>?_) o rfl
 .unfold mF;dsimp only;rw[E1,A7 hi,A6,ER (A1 hi),A0,ET oa];exact za
 simp_all[mF,E1,A9,AA,A8,DN]
def AOD(p:Pu)(h1:p.2.1.length<=200)(w:p.2.2.1.length<=200)(x:p.2.2.2.1.length<=200):Tot (mI p) (λr=>r.length<=1000000):=by
 unfold mI;refine DM.2 ((oJ.1 p.2.1 oa).mono λr ⟨C,D⟩=>DM.2 (F6.2 ⟨oc,?_⟩));have h:∀z∈r++[p.2.2.1],z.length<=1000:=λz B=>by grind
 have d:(r++[p.2.2.1]).length<=203:=by rw[AI,List.length_singleton];omega
 generalize r++[p.2.2.1]=l at h d ⊢;refine DM.2 (Tot.mono (P:=λo=>o.length<=203*1001) ?_ λo y=>?_)
 .refine EZ (r:=mG) (σ:=List Int) l.length (λo i=>(o,l,(l.length:Int),i)) (λi o=>o.length<=i*1001) oa (λnext o i hi j e=>?_) (λnext o j=>?_) [] (AD _)
  .unfold mG;dsimp only;rw[E1,A7 hi,A6,ER (A1 hi),A0,ET oa];refine DM.2 (Tot.mono (P:=λa=>a.length<=i*1001+1) ?_ λa m=>?_)
   .unfold yU;dsimp only;refine DO.2 ⟨λ_=>DM.2 (F6.2 ⟨oc,DN.2 oc⟩),λ_=>DN.2 oa⟩
   .exact DM.2 ((AOC a _ (h _ (AL hi)) oa).mono λq A=>e q oa)
  .unfold mG;dsimp only;rw[E1,A9 (AA _),A8];exact DN.2 oa
 .refine DO.2 ⟨λ_=>DM.2 (F6.2 ⟨oc,?_⟩),λ_=>DN.2 oa⟩;have b:(o++[(257:Int)]).length<=203*1001+1:=by rw[AI,List.length_singleton];omega
  generalize o++[(257:Int)]=l10 at b ⊢;refine DM.2 (Tot.mono (P:=λr=>r.length<=1000000) ?_ λr s=>DN.2 s);refine EZ (r:=mH) (σ:=List Int) p.2.2.2.1.length (λo i=>(p,o,(p.2.2.2.1.length:Int),i)) (λi a=>a.length=l10.length+i) oa (λnext a i hi j e=>?_) (λnext a j=>?_) l10 rfl
  .unfold mH;dsimp only;rw[E1,A7 hi,A6,ER (A1 hi),A0,ET oa];exact za
  .unfold mH;dsimp only;rw[E1,A9 (AA _),A8];exact DN.2 oa
def AOE(p:HJ)(x:IY)(h0:0<=x.1)(h1:x.1<=p.2.1.length):∃b,U2 (p,x)=some b:=by
 unfold U2;dsimp only;refine IN.1 (DM.2 (Tot.mono (P:=λ_=>True) (DO.2 ⟨λh=>?_,λ_=>DN.2 trivial⟩) λ_ _=>DN.2 trivial));rw[DT]at h;have h:¬x.1=p.2.1.length:=by simpa using h
 exact EI.2 ⟨⟨h0,oa⟩,λ_ _=>trivial⟩
def AOF(s:DL)(p:Pu)(B:p.2.2.2.2.1.length<=1048576):∃r,bA (s,p)=some r:=by
 unfold bA;dsimp only;refine IN.1 (DM.2 ((A7l s).mono λa U=>DO.2 ⟨λ_=>DN.2 trivial,λ_=>?_⟩));refine DM.2 ((bT p B).mono λe x=>DO.2 ⟨λ_=>DN.2 trivial,λh=>?_⟩);have x:=x (by grind[DT]);refine DM.2 ((oK p x).mono λX C=>DO.2 ⟨λ_=>DN.2 trivial,λ_=>?_⟩);obtain⟨_,J,K,L,_⟩:=C;have I:a.1.2.1.length<=100000:=oa;refine DM.2 ((AOB a.1 I).mono λW M=>DM.2 ((AOD X J K L).mono λG V=>?_));refine DM.2 (Tot.mono (P:=λq:Sum (HJ×FJ) (Bool×Int)=>match q with| .inl y=>y.1=a.1/\Sp a.1.2.1.length y.2| .inr _=>True) ?_ λq B=>?_)
 .refine EZ (r:=mK) (σ:=FJ) G.length (λl i=>(a.1,l,G,(G.length:Int),i)) (λ_ l=>Sp a.1.2.1.length l) oa (λnext l i hi w T=>?_) (λnext l w=>?_) W M
  .unfold mK;dsimp only;rw[E1,A7 hi,A6,ER (A1 hi),A0,ET oa];refine DM.2 ((AOA a.1 I l w _).mono λE N=>?_);have H:=N.few;have R:len? E.length=some (E.length:Int):=by unfold len?;rw[show Nat.ble E.length 281474976710656=true from CC oa];rfl
   simp_all[A0,DO,DN,trivial]
  .unfold mK;dsimp only;rw[E1,A9 (AA _),A8];exact DN.2 ⟨rfl,w⟩
 .cases q with
  |inr y=>exact DN.2 trivial
  |inl y=>
   obtain⟨Y,Z⟩:=B;dsimp only;rw[Y];have z:∃g:IY×Bool->Bool,∀k∈y.2,U2 (a.1,k.1)=some (g k):=by refine⟨λk=>(U2 (a.1,k.1)).getD false,λk hk=>?_⟩;have⟨_,k0,k1⟩:=Z.tr k hk;have⟨b,Q⟩:=AOE a.1 k.1 k0 k1;simp only[Q,DD]
   obtain⟨g,z⟩:=z;have e:QW (λo:FJ=>o.Perm y.2) (λo=>(FF U3 o a.1).bind λD=>match D with
    | .inl _=>some (false,(0:Int))
    | .inr d=>some (d.1,d.2))=some (y.2.any g,0):=by
    refine A1T ⟨y.2,List.Perm.refl _⟩ λo j=>?_;have A:∀k∈o,U2 (a.1,k.1)=some (g k):=λk hk=>z k (j.mem_iff.1 hk);have H:FF U3 o a.1=some (if o.any g=true then .inr (true,0)else .inl a.1):=by
     clear j;induction o with
     |nil=>rfl
     |cons k o ih=>
      unfold FF;have e1:U3 k a.1=some (bif g k then .inr (true,0)else .inl a.1):=by unfold U3;rw[A k AE,A0];cases g k<;>rfl
      grind
    have O:o.any g=y.2.any g:=by rw[Bool.eq_iff_iff,List.any_eq_true,List.any_eq_true];exact⟨λ⟨k,h1,m⟩=>⟨k,j.mem_iff.1 h1,m⟩,λ⟨k,h1,m⟩=>⟨k,j.mem_iff.2 h1,m⟩⟩
    rw[H,O];cases y.2.any g<;>rfl
   exact IN.2 ⟨_,e⟩
abbrev M2:=Int×DL×DL×DL
abbrev LA:=DL×DL×List M2×List DL
abbrev UD:=DL×List (DL×DL)
abbrev XD:=DL×List DL
abbrev JG:=List XD×List UD×List LA×List DL
abbrev P1:=Bool×List (DL×XD)×List (DL×Bool)×List (DL×Bool)
structure GB(g:JG):Prop where
 i0:g.1.length<=1048576
 i1:∀x∈g.1,x.1.length<=1048576/\x.2.length<=1048576/\∀s∈x.2,s.length<=1048576
 t0:g.2.1.length<=1048576
 t1:∀x∈g.2.1,x.1.length<=1048576/\x.2.length<=1048576/\∀s∈x.2,s.1.length<=1048576/\s.2.length<=1048576
 f0:g.2.2.1.length<=1048576
 f1:∀x∈g.2.2.1,x.1.length<=1048576/\x.2.1.length<=1048576/\x.2.2.1.length<=1048576/\x.2.2.2.length<=1048576/\(∀c∈x.2.2.1,c.2.2.2.length<=1048576)
 e0:g.2.2.2.length<=1048576
def SL{X R σ α:Type}{r:(X->Option R)->X->Option R}(l:List α)(enc:σ->Int->X)(f:σ->Nat->α->σ)(out:σ->R)(J:Nat->σ->Prop)(d:l.length<=1099511627776)
 (j:∀next s (i:Nat) y,l[i]?=some y->r next (enc s (i:Int))=next (enc (f s i y) ((i:Int)+1)))(a:∀next s,r next (enc s (l.length:Int))=some (out s))(s0:σ)(h0:J 0 s0)
 (b:∀s (i:Nat) y,l[i]?=some y->J i s->J (i+1) (f s i y)):Tot (DX r fuel (enc s0 0)) (λq=>∃s,q=out s/\J l.length s):=by
 refine EZ l.length enc J oa (λnext s i hi h e=>?_) (λnext s h=>?_) s0 h0
 .simp_all
 .rw[a];exact DN.2 ⟨s,rfl,h⟩
def NG(m:List (DL×Bool))(l:List DL):Prop:=∀s,DW DQ s m=if s∈l then some true else none
theorem UE{b:Type}(k a:DL)(v:b)(m:List (DL×b)):DW DQ k (EB DQ a v m)=if k=a then some v else DW DQ k m:=A0O E0 k a v m
theorem pF{m:List (DL×Bool)}{l:List DL}(h:NG m l)(s:DL):NG (EB DQ s true m) (l++[s]):=λk=>by rw[UE,h k];grind
def A0S:NG [] []:=λk=>rfl
def XE{m:List (DL×Bool)}{l:List DL}(h:NG m l)(s:DL):(DW DQ s m).getD false=decide (s∈l):=by rw[h s];grind
theorem XF{α a:Type}{l:List α}{i:Nat}{y:α}(f:α->a)(h:l[i]?=some y):(l.take (i+1)).map f=(l.take i).map f++[f y]:=by rw[GH h,D7];rfl
def AOG{g:JG}(d:GB g)(lo:Bool):Tot (kH (g,lo)) (λk=>k.1=lo/\(∀s x,DW DQ s k.2.1=some x->x∈g.1)/\NG k.2.2.1 (g.2.1.map (·.1))/\NG k.2.2.2 (g.2.2.1.map (·.1))):=by
 unfold kH;dsimp only
 refine DM.2 ((SL (σ:=P1) (α:=XD) g.1 (λs i=>(s,g.1,(g.1.length:Int),i)) (λk _ y=>(k.1,EB DQ y.1 y k.2.1,k.2.2.1,k.2.2.2)) (λk=>k)
  (λ_ k=>k.1=lo/\k.2.2=([],[])/\∀s x,DW DQ s k.2.1=some x->x∈g.1) (by have:=d.i0;omega) (λnext s i y h=>?_) (λnext s=>?_) _ ⟨rfl,rfl,λs x h=>oq⟩ (λk i y h b=>⟨b.1,?_,λs x e=>?_⟩)).mono λl A=>?_)
 .have a:=(A3.1 h).1;unfold xR;dsimp only;rw[E1,A7 a,A6,ER h,A0,ET (by have:=d.i0;omega)]
 .simp_all[xR,E1,A9,AA,A8]
 .exact b.2.1
 .have e:DW DQ s (EB DQ y.1 y k.2.1)=some x:=e;rw[UE]at e;grind
 obtain⟨H,rfl,m,j,D⟩:=A
 refine DM.2 ((SL (σ:=P1) (α:=UD) g.2.1 (λs i=>(s,g.2.1,(g.2.1.length:Int),i)) (λk _ y=>(k.1,k.2.1,EB DQ y.1 true k.2.2.1,k.2.2.2)) (λk=>k)
  (λi k=>k.1=lo/\k.2.1=l.2.1/\k.2.2.2=[]/\NG k.2.2.1 ((g.2.1.take i).map (·.1))) (by have:=d.t0;omega) (λnext s i y h=>?_) (λnext s=>?_) _ ⟨m,rfl,by rw[j],by rw[j];exact A0S⟩
  (λk i y h b=>⟨b.1,b.2.1,b.2.2.1,by grind[XF,pF]⟩)).mono λC B=>?_)
 .have a:=(A3.1 h).1;unfold xS;dsimp only;rw[E1,A7 a,A6,ER h,A0,ET (by have:=d.t0;omega)]
 .simp_all[xS,E1,A9,AA,A8]
 obtain⟨I,rfl,p,w,z,E⟩:=B
 refine DM.2 ((SL (σ:=P1) (α:=LA) g.2.2.1 (λs i=>(s,g.2.2.1,(g.2.2.1.length:Int),i)) (λk _ y=>(k.1,k.2.1,k.2.2.1,EB DQ y.1 true k.2.2.2)) (λk=>k)
  (λi k=>k.1=lo/\k.2.1=l.2.1/\k.2.2.1=C.2.2.1/\NG k.2.2.2 ((g.2.2.1.take i).map (·.1))) (by have:=d.f0;omega) (λnext s i y h=>?_) (λnext s=>?_) _ ⟨p,w,rfl,by rw[z];exact A0S⟩
  (λk i y h b=>⟨b.1,b.2.1,b.2.2.1,by grind[XF,pF]⟩)).mono λJ G=>DN.2 ?_)
 .have a:=(A3.1 h).1;unfold xT;dsimp only;rw[E1,A7 a,A6,ER h,A0,ET (by have:=d.f0;omega)]
 .simp_all[xT,E1,A9,AA,A8]
 grind
def A0T(s:DL)(j:s.length<=1048576):∃b,OW s=some b:=by
 unfold OW;refine IN.1 (DM.2 ((EZ (r:=WC) s.length (λ_ i=>(s,(s.length:Int),i)) (λ_ _=>True) (Q:=λ_=>True) oa (λnext _ i hi _ e=>?_) (λnext _ _=>?_) () trivial).mono λr _=>?_))
 .unfold WC;dsimp only;have h:=ER (A1 hi);rw[E1,A7 hi,A6,h,A0,ET oa];refine DM.2 (Tot.mono (P:=λ_=>True) (DO.2 ⟨λ_=>IN.2 ⟨_,rfl⟩,λ_=>DN.2 trivial⟩) λa _=>?_);refine DM.2 (Tot.mono (P:=λ_=>True) (DO.2 ⟨λ_=>IN.2 ⟨_,rfl⟩,λ_=>DN.2 trivial⟩) λd _=>?_);simp_all[DO,DN,trivial]
 .simp_all[WC,E1,A9,AA,A8,DN,trivial]
 .cases r<;>exact DN.2 trivial
def XG(s b:DL)(f:Bool)(a:s.length<=1048576):∃e,O2 (s,b,f)=some e:=by have⟨r,h⟩:=A0T s a;unfold O2;dsimp only;rw[h,A0];refine IN.1 (DO.2 ⟨λ_=>DN.2 trivial,λ_=>DO.2 ⟨λ_=>DN.2 trivial,λ_=>DN.2 trivial⟩⟩)
def A7q(k:P1)(l:List DL)(m:List (DL×Bool))(p:l.length<=1048576):Tot (aN (k,l,m)) (λe=>k.1=false->e=0->∀s∈l,(DW DQ s m).getD false=true):=by
 unfold aN
 refine DM.2 ((EZ (r:=kP) l.length (λ_ i=>(l,m,k,l,(l.length:Int),i)) (λi _=>k.1=false->∀ s∈l.take i,(DW DQ s m).getD false=true)
  (Q:=λq=>match q with| .inl _=>k.1=false->∀s∈l,(DW DQ s m).getD false=true| .inr e=>e≠0) oa (λnext _ i hi a b=>?_) (λnext _ a=>?_) () (λ_ s h=>oq)).mono λr w=>?_)
 .unfold kP;dsimp only;rw[E1,A7 hi,A6,ER (A1 hi),A0,ET oa];refine DO.2 ⟨λ_=>DN.2 (show(4:Int)≠0 by decide),λj=>?_⟩;refine DM.2 (Tot.mono (P:=λ_=>True) (DO.2 ⟨λh=>?_,λ_=>DN.2 trivial⟩) λy _=>?_)
  .have h:=AB h;rw[EH oa oa];exact EI.2 ⟨⟨oa,oa⟩,λ_ _=>trivial⟩
  .refine DO.2 ⟨λ_=>DN.2 (show(10:Int)≠0 by decide),λ_=>b () λhk s d=>?_⟩;rw[GH (A1 hi)]at d;grind
 .simp_all[kP,E1,A9,AA,A8,AQ,DN]
 grind[DN,hk,absurd]
def AOH(k:P1)(c:M2)(d:c.2.2.2.length<=1048576)(hk:∀s x,DW DQ s k.2.1=some x->x.2.length<=1048576):∃e,kO (k,c)=some e:=by
 have⟨r,l⟩:=A0T c.2.2.2 d;have a:∀b:Bool,∃y,(bif b then OW c.2.2.2 else some false)=some y:=λb=>match b with|true=>⟨_,l⟩|false=>⟨_,rfl⟩
 unfold kO;dsimp only;refine IN.1 (DO.2 ⟨λ_=>DO.2 ⟨λ_=>DN.2 trivial,λ_=>DO.2 ⟨λ_=>DN.2 trivial,λ_=>?_⟩⟩,λ_=>DO.2 ⟨λ_=>?_,λ_=>DN.2 trivial⟩⟩)
 .refine DM.2 ((IN.2 (a _)).mono λy _=>DO.2 ⟨λ_=>DN.2 trivial,λ_=>DN.2 trivial⟩)
 .refine DM.2 (Tot.mono (P:=λ_=>True) (DO.2 ⟨λh=>?_,λ_=>DN.2 trivial⟩) λy _=>DO.2 ⟨λ_=>DN.2 trivial,λ_=>?_⟩)
  .have m:((DW DQ c.2.1 k.2.1).getD (([]:DL),([]:List DL))).2.length<=1048576:=by
    cases j:DW DQ c.2.1 k.2.1 with
    |none=>simp
    |some x=>exact hk _ _ j
   simp_all[oX,trivial]
  .refine DM.2 ((IN.2 (a _)).mono λy _=>DO.2 ⟨λ_=>DN.2 trivial,λ_=>DN.2 trivial⟩)
def AOI(k:P1)(l:List XD)(y:l.length<=1048576)(p:∀x∈l,x.1.length<=1048576/\x.2.length<=1048576/\∀s∈x.2,s.length<=1048576):Tot (kK (k,l)) (λ_=>True):=by
 unfold kK;dsimp only;refine DM.2 ((EZ (r:=kJ) (σ:=DL) l.length (λb i=>(b,l,(l.length:Int),i)) (λ_ _=>True) (Q:=λ_=>True) oa (λnext b i hi _ z=>?_) (λnext _ _=>?_) [] trivial).mono λq _=>?_)
 .unfold kJ;dsimp only;have⟨e,w,m⟩:=p _ (AL hi);rw[E1,A7 hi,A6,ER (A1 hi),A0,ET oa];refine DM.2 ((IN.2 (XG _ _ _ e)).mono λr _=>DO.2 ⟨λ_=>DN.2 trivial,λ_=>DO.2 ⟨λ_=>DN.2 trivial,λ_=>DO.2 ⟨λ_=>DN.2 trivial,λ_=>?_⟩⟩⟩);refine DM.2 ((EZ (r:=kI) (σ:=DL) l[i].2.length (λb j=>(b,l[i].2,(l[i].2.length:Int),j)) (λ_ _=>True) (Q:=λ_=>True) oa (λa b j h _ d=>?_) (λa _ _=>?_) [] trivial).mono λq _=>?_)
  .unfold kI;dsimp only;rw[E1,A7 h,A6,ER (A1 h),A0,ET oa];exact DM.2 ((IN.2 (XG _ _ _ (m _ (AL h)))).mono λr _=>DO.2 ⟨λ_=>DN.2 trivial,λ_=>d _ trivial⟩)
  .simp_all[kI,E1,A9,AA,A8,DN,trivial]
  .cases q<;>simp_all[trivial,DN]
 .simp_all[kJ,E1,A9,AA,A8,DN,trivial]
 .cases q<;>exact DN.2 trivial
def AOJ(k:P1)(l:List UD)(z:l.length<=1048576)(p:∀x∈l,x.1.length<=1048576/\x.2.length<=1048576/\∀s∈x.2,s.1.length<=1048576/\s.2.length<=1048576):Tot (kN (k,l)) (λ_=>True):=by
 unfold kN;dsimp only;refine DM.2 ((EZ (r:=kM) (σ:=DL) l.length (λb i=>(k,b,l,(l.length:Int),i)) (λ_ _=>True) (Q:=λ_=>True) oa (λnext b i hi _ A=>?_) (λnext _ _=>?_) [] trivial).mono λq _=>?_)
 .unfold kM;dsimp only;have⟨e,y,m⟩:=p _ (AL hi);rw[E1,A7 hi,A6,ER (A1 hi),A0,ET oa];refine DM.2 ((IN.2 (XG _ _ _ e)).mono λr _=>DO.2 ⟨λ_=>DN.2 trivial,λ_=>DO.2 ⟨λ_=>DN.2 trivial,λ_=>?_⟩⟩);refine DM.2 ((EZ (r:=kL) (σ:=DL) l[i].2.length (λb j=>(k,b,l[i].2,(l[i].2.length:Int),j)) (λ_ _=>True) (Q:=λq=>match q with| .inl w=>w=k| .inr _=>True) oa (λa b j h _ d=>?_) (λa _ _=>?_) [] trivial).mono λq B=>?_)
  .unfold kL;dsimp only;rw[E1,A7 h,A6,ER (A1 h),A0,ET oa];exact DM.2 ((IN.2 (XG _ _ _ (m _ (AL h)).1)).mono λr _=>DO.2 ⟨λ_=>DN.2 trivial,λ_=>DO.2 ⟨λ_=>DN.2 trivial,λ_=>d _ trivial⟩⟩)
  .unfold kL;dsimp only;rw[E1,A9 (AA _),A8];exact DN.2 rfl
  .cases q<;>simp_all[trivial,DN]
 .simp_all[kM,E1,A9,AA,A8,DN,trivial]
 .cases q<;>exact DN.2 trivial
def A0U(k:P1)(x:LA):Prop:=x.2.2.1.length<=200/\∀s∈x.2.2.2,(DW DQ s k.2.2.1).getD false=true
def AOK(k:P1)(hk:k.1=false)(l:List LA)(K:l.length<=1048576)(d:∀x∈l,x.1.length<=1048576/\x.2.1.length<=1048576/\x.2.2.1.length<=1048576/\x.2.2.2.length<=1048576/\(∀c∈x.2.2.1,c.2.2.2.length<=1048576))
 (hi:∀s x,DW DQ s k.2.1=some x->x.2.length<=1048576):Tot (WF (k,l)) (λe=>e=0->∀x∈l,A0U k x):=by
 unfold WF;dsimp only;refine DM.2 ((EZ (r:=WE) (σ:=DL) l.length (λb i=>(k,b,l,(l.length:Int),i)) (λi _=>∀x∈l.take i,A0U k x) (Q:=λq=>match q with| .inl _=>∀x∈l,A0U k x| .inr e=>e≠0) oa (λnext b i a z H=>?_) (λnext _ z=>?_) [] (λx h=>oq)).mono λq y=>?_)
 .unfold WE;dsimp only;have⟨B,C,J,D,E⟩:=d _ (AL a);rw[E1,A7 a,A6,ER (A1 a),A0,ET oa];refine DM.2 ((IN.2 (XG _ _ _ B)).mono λr _=>DO.2 ⟨λh=>DN.2 (λe=>by rw[e]at h;cases h),λ_=>?_⟩);refine DM.2 ((IN.2 (A0T _ C)).mono λr _=>DO.2 ⟨λh=>DN.2 (show(8:Int)≠0 by decide),λ_=>DO.2 ⟨λ_=>DN.2 (show(3:Int)≠0 by decide),λA=>?_⟩⟩);have A:=AG A;refine DM.2 ((EZ (r:=WD) (σ:=Unit) l[i].2.2.1.length (λ_ j=>(k,l[i].2.2.1,(l[i].2.2.1.length:Int),j)) (λ_ _=>True) (Q:=λq=>match q with| .inl I=>I=k| .inr e=>e≠0) oa (λm b j p _ w=>?_) (λm _ _=>?_) () trivial).mono λq y=>?_)
  .unfold WD;dsimp only;rw[E1,A7 p,A6,ER (A1 p),A0,ET oa];exact DM.2 ((IN.2 (AOH k _ (E _ (AL p)) hi)).mono λr _=>DO.2 ⟨λh=>DN.2 (λe=>by rw[e]at h;cases h),λ_=>w () trivial⟩)
  .unfold WD;dsimp only;rw[E1,A9 (AA _),A8];exact DN.2 rfl
  .cases q with
   |inl u=>
    cases y;refine DM.2 ((A7q k l[i].2.2.2 k.2.2.1 D).mono λe G=>DO.2 ⟨λh=>DN.2 (λe=>by rw[e]at h;cases h),λh=>H _ λx d=>?_⟩);rw[GH (A1 a)]at d;rcases AZ.1 d with d|d
    .exact z x d
    .rw[AP]at d;subst d;refine⟨oa,G hk ?_⟩;grind[DT]
   |inr e=>exact DN.2 y
 .simp_all[WE,E1,A9,AA,A8,AQ,DN]
 grind[DN,absurd]
structure GrOk(g:JG):Prop where
 i:g.1.length<=200
 t:g.2.1.length<=500
 f:g.2.2.1.length<=3000
 calls:∀x∈g.2.2.1,x.2.2.1.length<=200
 makes:∀x∈g.2.2.1,∀s∈x.2.2.2,∃y∈g.2.1,y.1=s
 entries:∀s∈g.2.2.2,∃y∈g.2.2.1,y.1=s
theorem J6{e:Int}(h:(!(DP e 0))=false):e=0:=by grind[DT]
def AOL{g:JG}(a:GB g):Tot (aO g) (λe=>e=0->GrOk g):=by
 unfold aO;refine DM.2 ((AOG a false).mono λk ⟨k1,w,y,z⟩=>?_);have l:∀s x,DW DQ s k.2.1=some x->x.2.length<=1048576:=λs x h=>(a.i1 x (w s x h)).2.1;refine DM.2 (Tot.mono (P:=λe=>e=0->GrOk g) ?_ λe d=>DN.2 d);unfold kQ;dsimp only;refine DO.2 ⟨λ_=>DN.2 λh=>absurd h oi,λj=>?_⟩;refine DM.2 ((AOI k _ a.i0 a.i1).mono λe _=>DO.2 ⟨λh=>DN.2 (λe=>by rw[e]at h;cases h),λ_=>?_⟩);refine DM.2 ((AOJ k _ a.t0 a.t1).mono λe _=>DO.2 ⟨λh=>DN.2 (λe=>by rw[e]at h;cases h),λ_=>?_⟩);refine DM.2 ((AOK k k1 _ a.f0 a.f1 l).mono λe d=>DO.2 ⟨λh=>DN.2 (λe=>by rw[e]at h;cases h),λh=>?_⟩);have d:=d (J6 h);refine DM.2 ((A7q k _ k.2.2.2 a.e0).mono λA b=>DN.2 λp=>?_);have b:=b k1 p;simp only[BM,CX]at j;obtain⟨⟨s1,B⟩,C⟩:=j;refine⟨oa,oa,oa,λx m=>(d x m).1,λx m s j=>?_,λs j=>?_⟩
 .have:=(d x m).2 s j;rw[XE y]at this;grind
 .have:=b s j;rw[XE z]at this;grind
def AOM(l:List DL)(a:∀s∈l,s.length<=1048576):Tot (kS l) (λe=>e=0->l.length<=30):=by
 unfold kS;refine DO.2 ⟨λ_=>DN.2 λh=>absurd h oi,λh=>?_⟩;have h:=AG h;refine DM.2 ((EZ (r:=kR) (σ:=DL) l.length (λb i=>(b,l,(l.length:Int),i)) (λ_ _=>True) (Q:=λ_=>True) oa (λnext b i hi _ d=>?_) (λnext _ _=>?_) [] trivial).mono λq _=>?_)
 .unfold kR;dsimp only;rw[E1,A7 hi,A6,ER (A1 hi),A0,ET oa];exact DM.2 ((IN.2 (XG _ _ _ (a _ (AL hi)))).mono λr _=>DO.2 ⟨λ_=>DN.2 trivial,λ_=>d _ trivial⟩)
 .simp_all[kR,E1,A9,AA,A8,DN,trivial]
 grind[DN]
def A7r(s:DL)(a:s.length<=1048576):Tot (TM s) (λ_=>True):=by
 unfold TM;refine DM.2 ((EZ (r:=fU) s.length (λ_ i=>(s,(s.length:Int),i)) (λ_ _=>True) (Q:=λ_=>True) oa (λnext _ i hi _ h=>?_) (λnext _ _=>?_) () trivial).mono λr _=>?_)
 .unfold fU;dsimp only;rw[E1,A7 hi,A6,ET oa];simp_all[trivial,EI,DO,DN,DM,Tot.mono]
 .simp_all[fU,E1,A9,AA,A8,DN,trivial]
 .cases r<;>exact DN.2 trivial
def A7s(s:DL)(m:Int)(a:s.length<=1048576):Tot (VR (s,m)) (λ_=>True):=by
 unfold VR;refine DM.2 ((EZ (r:=fV) s.length (λ_ i=>(s,(s.length:Int),i)) (λ_ _=>True) (Q:=λ_=>True) oa (λnext _ i hi _ h=>?_) (λnext _ _=>?_) () trivial).mono λr _=>?_)
 .unfold fV;dsimp only;rw[E1,A7 hi,A6,ET oa];simp_all[trivial,EI,DO,DN,DM,Tot.mono]
 .simp_all[fV,E1,A9,AA,A8,DN,trivial]
 .cases r<;>exact DN.2 trivial
def AON(s:DL)(m:Int)(h:s.length<=1048576):Tot (gA (s,m)) (λ_=>True):=by
 unfold gA;refine DM.2 ((EZ (r:=f_) s.length (λ_ i=>(s,(s.length:Int),i)) (λ_ _=>True) (Q:=λ_=>True) oa (λnext _ i hi _ hn=>?_) (λnext _ _=>?_) () trivial).mono λr _=>?_)
 .unfold f_;dsimp only;rw[E1,A7 hi,A6,ET oa]
  repeat' first
   |exact hn () trivial
   |exact EI.2 ⟨⟨oa,oa⟩,λ_ _=>trivial⟩
   |exact(A6g.1 _ ⟨oa,by grind[E3]⟩).mono λ_ _=>trivial
   |(with_reducible first|refine DO.2 ⟨λ_=>?_,λ_=>?_⟩|refine DN.2 trivial|refine DM.2 (Tot.mono (P:=λ_=>True) ?_ λ_ _=>?_))
 .simp_all[f_,E1,A9,AA,A8,DN,trivial]
 .cases r<;>exact DN.2 trivial
def AOO(l:List (DL×DL))(a:∀x∈l,x.2.length<=1048576):Tot (gC l) (λ_=>True):=by
 unfold gC;refine DO.2 ⟨λ_=>DN.2 trivial,λh=>?_⟩;have h:=AG h;refine DM.2 ((EZ (r:=gB) l.length (λ_ i=>(l,l,(l.length:Int),i)) (λ_ _=>True) (Q:=λ_=>True) oa (λnext _ i hi _ d=>?_) (λnext _ _=>?_) () trivial).mono λr _=>?_)
 .unfold gB;dsimp only;rw[E1,A7 hi,A6,ER (A1 hi),A0,ET oa];unfold vA;dsimp only;refine DM.2 (Tot.mono (P:=λ_=>True) (DO.2 ⟨λ_=>DN.2 trivial,λ_=>DN.2 trivial⟩) λn _=>DO.2 ⟨λ_=>DN.2 trivial,λ_=>?_⟩);refine DM.2 ((AON _ _ (a _ (AL hi))).mono λb _=>DO.2 ⟨λ_=>DN.2 trivial,λ_=>?_⟩);refine DM.2 (Tot.mono (P:=λ_=>True) (DO.2 ⟨λh=>?_,λ_=>DN.2 trivial⟩) λ_ _=>DO.2 ⟨λ_=>DN.2 trivial,λ_=>d () trivial⟩);have h:=AB h;rw[EH oa oa];exact EI.2 ⟨⟨oa,oa⟩,λ_ _=>trivial⟩
 .simp_all[gB,E1,A9,AA,A8,DN,trivial]
 .cases r<;>exact DN.2 trivial
def AOP(k:Bool×List (DL×Bool))(l:List DL)(a:∀x∈l,x.length<=1048576):Tot (ZK (k,l)) (λ_=>True):=by
 unfold ZK;refine DO.2 ⟨λ_=>DN.2 trivial,λh=>?_⟩;have h:=AG h;refine DM.2 ((EZ (r:=gD) l.length (λ_ i=>(l,k,l,(l.length:Int),i)) (λ_ _=>True) (Q:=λ_=>True) oa (λnext _ i hi _ d=>?_) (λnext _ _=>?_) () trivial).mono λr _=>?_)
 .unfold gD;dsimp only;rw[E1,A7 hi,A6,ER (A1 hi),A0,ET oa];refine DM.2 ((A7s _ _ (a _ (AL hi))).mono λb _=>DO.2 ⟨λ_=>DN.2 trivial,λ_=>?_⟩);refine DM.2 (Tot.mono (P:=λ_=>True) (DO.2 ⟨λh=>?_,λ_=>DN.2 trivial⟩) λ_ _=>DO.2 ⟨λ_=>DN.2 trivial,λ_=>d () trivial⟩);have h:=AB (CW.1 h).2;rw[EH oa oa];exact EI.2 ⟨⟨oa,oa⟩,λ_ _=>trivial⟩
 .simp_all[gD,E1,A9,AA,A8,DN,trivial]
 .cases r<;>exact DN.2 trivial
structure BlB(b:IW):Prop where
 n:b.1.length<=1048576
 v:b.2.1.length<=1048576
 c:∀c∈b.2.2.2.1,c.1.length<=1048576/\c.2.1.2.2.2.2.1.length<=1048576/\(∀x∈c.2.2.1,x.2.length<=1048576)/\c.2.2.2.1.length<=1048576/\∀x∈c.2.2.2.2,x.length<=1048576
def AOQ(k:Bool×List (DL×Bool))(c:F3)(h1:c.1.length<=1048576)(d:c.2.1.2.2.2.2.1.length<=1048576)(j:∀x∈c.2.2.1,x.2.length<=1048576)(w:c.2.2.2.1.length<=1048576)(z:∀x∈c.2.2.2.2,x.length<=1048576):
 Tot (gF (k,c)) (λe=>e=0->KR c.2.1=some 0):=by
 unfold gF;dsimp only;refine DM.2 ((A7s _ _ h1).mono λA _=>DO.2 ⟨λ_=>DN.2 λh=>absurd h oi,λ_=>?_⟩);have⟨e,a,_⟩:=bT c.2.1 d;have p:e=0->KR c.2.1=some 0:=λh=>h▸a;refine DM.2 ⟨e,a,DO.2 ⟨λh=>DN.2 λh0=>(oc),λh=>?_⟩⟩;have a:=p (J6 h);refine DM.2 ((AOO _ j).mono λB _=>DO.2 ⟨λ_=>DN.2 λ_=>a,λ_=>?_⟩);refine DM.2 (Tot.mono (P:=λq:Sum F3 Int=>match q with| .inl y=>y=c| .inr _=>True) ?_ λq b=>?_)
 .refine EZ (r:=gE) (σ:=Unit) c.2.2.2.1.length (λ_ i=>(c,(c.2.2.2.1.length:Int),i)) (λ_ _=>True) oa (λnext _ i hi _ l=>?_) (λnext _ _=>?_) () trivial
  .unfold gE;dsimp only;rw[E1,A7 hi,A6,ET oa];refine DM.2 (EI.2 ⟨⟨oa,oa⟩,λs _=>DM.2 (Tot.mono (P:=λ_=>True) (DO.2 ⟨λ_=>EI.2 ⟨⟨oa,oa⟩,λ_ _=>trivial⟩,λ_=>DN.2 trivial⟩) λ_ _=>DO.2 ⟨λ_=>DN.2 trivial,λ_=>l () trivial⟩)⟩)
  .unfold gE;dsimp only;rw[E1,A9 (AA _),A8];exact DN.2 rfl
 .cases q with
  |inr y=>grind[DN]
  |inl y=>have b:y=c:=b;subst b;dsimp only;have⟨C,m⟩:=AII y.2.2.2.1;simp_all[DO,DM,AOP,DN,A0]
structure BlOk(b:IW):Prop where
 few:b.2.2.2.1.length<=3000
 edges:b.2.2.2.2.length<=20000
 purl:∀c∈b.2.2.2.1,KR c.2.1=some 0
 asc:b.2.2.2.1.Pairwise λa c=>a.1<c.1
 root:b.2.2.1∈b.2.2.2.1.map (·.1)
 ends:∀e∈b.2.2.2.2,e.1∈b.2.2.2.1.map (·.1)/\e.2.1∈b.2.2.2.1.map (·.1)
def A7t{α:Type}{R:α->α->Prop}(A:∀a b c,R a b->R b c->R a c){l:List α}{i:Nat}(h:(l.take i).Pairwise R)(hi:i<l.length)(s:0<i->∀y,l[i-1]?=some y->R y l[i]):(l.take (i+1)).Pairwise R:=by
 rw[GH (A1 hi)];refine List.pairwise_append.2 ⟨h,D4 _ _,λa m b d=>?_⟩;rw[AP]at d;subst d;obtain⟨j,w,rfl⟩:=DF.1 m;have p:j<i:=oa;have z:=s oa l[i-1] (A1 oa);by_cases e:j=i-1
 .grind
 .have x:=(C2.1 h) j (i-1) oc oc oa;grind
def zb{p:Prop}(h:p:=by grind[List.take_length,DN]):p:=h
def A0V(b:IW)(x:BlB b):Tot (S1 b) (λe=>e=0->BlOk b):=by
 unfold S1;refine DM.2 (Tot.mono (P:=λe=>e=0->BlOk b) ?_ λe p=>DN.2 p);unfold vC;dsimp only;refine DM.2 (Tot.mono (P:=λ_=>True) (DO.2 ⟨λ_=>A7r _ x.n,λ_=>DN.2 trivial⟩) λr1 _=>?_);refine DM.2 (Tot.mono (P:=λ_=>True) (DO.2 ⟨λ_=>A7r _ x.v,λ_=>DN.2 trivial⟩) λr2 _=>?_);refine DO.2 ⟨λ_=>DN.2 λh=>absurd h oi,λ_=>DO.2 ⟨λ_=>DN.2 λh=>absurd h oi,λB=>?_⟩⟩;rw[BM]at B;have D:=AG B.1;have X:=AG B.2;refine DM.2 (Tot.mono (P:=λq:Sum ((Bool×List (DL×Bool))×IW) Int=>match q with
  | .inl y=>y.2=b/\y.1.1=false/\NG y.1.2 (b.2.2.2.1.map (·.1))/\(∀c∈b.2.2.2.1,KR c.2.1=some 0)/\b.2.2.2.1.Pairwise (λa c=>a.1<c.1)
  | .inr e=>e≠0) ?_ λq G=>?_)
 .refine EZ (r:=gK) (σ:=List (DL×Bool)) b.2.2.2.1.length (λm i=>((false,m),b,b.2.2.2.1,(b.2.2.2.1.length:Int),i)) (λi m=>NG m ((b.2.2.2.1.take i).map (·.1))/\(∀c∈b.2.2.2.1.take i,KR c.2.1=some 0)/\(b.2.2.2.1.take i).Pairwise (λa c=>a.1<c.1)) oa (λnext m i hi s C=>?_) (λnext m s=>?_) [] ⟨A0S,λc h=>(oq),List.Pairwise.nil⟩
  .obtain⟨Z,j2,O⟩:=s;unfold gK;dsimp only;have l:=A1 hi;have⟨Q,R,T,U,V⟩:=x.c _ (AL hi);rw[E1,A7 hi,A6,ER l,A0,ET oa];refine DM.2 ((AOQ (false,m) b.2.2.2.1[i] Q R T U V).mono λe p=>DO.2 ⟨λh=>DN.2 λh0=>(by have h0:e=0:=h0;rw[h0]at h;cases h),λh=>?_⟩);have p:=p (J6 h);refine DM.2 (Tot.mono (P:=λy=>0<i->b.2.2.2.1[i-1]?=some y) (DO.2 ⟨λh=>?_,λh=>DN.2 λh0=>?_⟩) λy Y=>DO.2 ⟨λ_=>DN.2 (show(10:Int)≠0 by decide),λM=>?_⟩)
   .have h:=AB (CW.1 h).2;rw[EH oa oa];refine EI.2 ⟨⟨oa,oa⟩,λz N _=>?_⟩;simp_all
   .grind
   .refine C _ ⟨?_,λc A=>?_,A7t (R:=λa c:F3=>a.1<c.1) (λa b c h1 L=>X6 h1 L) O hi λh0 z N=>?_⟩
    .grind[XF,pF]
    .rw[GH l]at A;grind
    simp_all[CH,BK,A7,A0M]
  .unfold gK;dsimp only;rw[E1,A9 (AA _),A8];rw[AQ]at s;exact DN.2 ⟨rfl,rfl,s⟩
 .cases q with
  |inr e=>grind[DN,absurd]
  |inl y=>
   obtain⟨⟨lo,m⟩,d⟩:=y;obtain⟨H,I,w,J,K⟩:=G;dsimp only at H I w J K ⊢;subst H I;rw[XE w];refine DO.2 ⟨λ_=>DN.2 λh=>absurd h oi,λj=>?_⟩;have j:d.2.2.1∈d.2.2.2.1.map (·.1):=by simpa using j
   refine DM.2 (Tot.mono (P:=λe=>e=0->∀e∈d.2.2.2.2,e.1∈d.2.2.2.1.map (·.1)/\e.2.1∈d.2.2.2.1.map (·.1)) ?_ λe p=>DN.2 λh=>⟨oa,oa,J,K,j,p h⟩);unfold vB;dsimp only;refine DM.2 (Tot.mono (P:=λq:Sum Unit Int=>match q with
    | .inl _=>∀e∈d.2.2.2.2,e.1∈d.2.2.2.1.map (·.1)/\e.2.1∈d.2.2.2.1.map (·.1)
    | .inr e=>e≠0) ?_ λq G=>?_)
   .refine EZ (r:=gJ) (σ:=Unit) d.2.2.2.2.length (λ_ i=>(d.2.2.2.2,(false,m),d.2.2.2.2,(d.2.2.2.2.length:Int),i)) (λi _=>∀e∈d.2.2.2.2.take i,e.1∈d.2.2.2.1.map (·.1)/\e.2.1∈d.2.2.2.1.map (·.1)) oa (λnext _ i hi s C=>?_) (λnext _ s=>?_) () (λe h=>oq)
    .unfold gJ;dsimp only;have l:=A1 hi;rw[E1,A7 hi,A6,ER l,A0,ET oa,XE w,XE w];refine DO.2 ⟨λ_=>DN.2 (show(9:Int)≠0 by decide),λ_=>DO.2 ⟨λ_=>DN.2 (show(4:Int)≠0 by decide),λE=>DO.2 ⟨λ_=>DN.2 (show(2:Int)≠0 by decide),λ_=>?_⟩⟩⟩;refine DM.2 (Tot.mono (P:=λ_=>True) (DO.2 ⟨λh=>?_,λ_=>DN.2 trivial⟩) λW _=>DM.2 (Tot.mono (P:=λ_=>True) (DO.2 ⟨λ_=>?_,λ_=>DN.2 trivial⟩) λr5 _=>DO.2 ⟨λ_=>DN.2 (show(10:Int)≠0 by decide),λ_=>C () λe p=>?_⟩))
     .have h:=AB (CW.1 h).2;rw[EH oa oa];exact EI.2 ⟨⟨oa,oa⟩,λ_ _=>trivial⟩
     .obtain⟨c,D,_⟩:=AO0 W d.2.2.2.2[i];exact⟨c,D,trivial⟩
     .rw[GH l]at p;grind
    .unfold gJ;dsimp only;rw[E1,A9 (AA _),A8];exact zb
   grind[DN,absurd]
def A7u(i j:Nat)(h:i+j<=4398046511104):shr? IntKind.u64 (IntKind.u64.wrap (IntKind.i64.wrap ((i:Int)+(j:Int)))) 1=some (((i+j) / 2:Nat):Int):=by
 rw[EH oa oa];have e:IntKind.u64.wrap ((i:Int)+(j:Int))=(i:Int)+(j:Int):=by simp only[IntKind.wrap,IntKind.bits,IntKind.signed];simp;omega
 simp_all[shr?,A9,A8,min,Int.toNat,IntKind.bits,DE]
structure Srch{α:Type}(nm:α->DL)(l:List α)(t:DL)(r:Int×Bool):Prop where
 rng:0<=r.1/\r.1<=l.length
 is:r.2=true->∃y,l[r.1.toNat]?=some y/\nm y=t
 all:(l.Pairwise λa b=>nm a<nm b)->∀y∈l,nm y=t->r.2=true
def A0W{α:Type}(nm:α->DL)(t:DL)(f:α×DL->Option Int):Prop:=∀y,∃c,f (y,t)=some c/\(c<0<->nm y<t)/\(c=0<->nm y=t)
section
variable{α:Type}{nm:α->DL}{t:DL}{f:α×DL->Option Int}(hf:A0W nm t f)
include hf
structure BsI(nm:α->DL)(l:List α)(t:DL)(i j:Nat):Prop where
 le:i<=j/\j<=l.length
 lo:(l.Pairwise λa b=>nm a<nm b)->∀k y,k<i->l[k]?=some y->nm y<t
 hi:(l.Pairwise λa b=>nm a<nm b)->∀k y,j<=k->l[k]?=some y->¬nm y<t
theorem A7v{l:List α}{i j:Nat}(h:BsI nm l t i j)(m:i<j){y:α}(w:l[(i+j) / 2]?=some y):(nm y<t->BsI nm l t ((i+j) / 2+1) j)/\(¬nm y<t->BsI nm l t i ((i+j) / 2)):=by
 obtain⟨⟨h1,x⟩,d,e⟩:=h;obtain⟨p,rfl⟩:=A3.1 w;refine⟨λg=>⟨oa,λs k z hk b=>?_,e⟩,λg=>⟨oa,d,λs k z hk b=>?_⟩⟩
 .obtain⟨a,rfl⟩:=A3.1 b;grind[List.lt_trans,List.pairwise_iff_getElem]
 .obtain⟨a,rfl⟩:=A3.1 b;grind[List.lt_trans,List.pairwise_iff_getElem]
end
def AOR(l:List (DL×DL))(t:DL)(R:l.length<=1048576)(f:(DL×DL)×DL->Option Int)(w:A0W (λy:DL×DL=>y.1) t f):Tot (kT (l,t,f)) (Srch (λy:DL×DL=>y.1) l t):=by
 unfold kT;dsimp only;refine DM.2 (Tot.mono (P:=λr=>∃i:Nat,r=(i:Int)/\BsI (λy:DL×DL=>y.1) l t i i) ?_ λr M=>?_)
 .refine ES (R:=λr=>∃i:Nat,r=(i:Int)/\BsI (λy:DL×DL=>y.1) l t i i) (λx=>x.1=l/\x.2.1=t/\x.2.2.1=f/\∃i j:Nat,x.2.2.2=((i:Int),(j:Int))/\BsI (λy:DL×DL=>y.1) l t i j) (λx=>(x.2.2.2.2-x.2.2.2.1).toNat)
   (λnext x L A=>?_) _ _ ⟨rfl,rfl,rfl,0,l.length,rfl,⟨oa,λ_ k y h=>absurd h oa,λ_ k y h1 Q=>oc⟩⟩ (by grind[fuel])
  obtain⟨J,V,N,T,U⟩:=x;obtain⟨D,E,G,i,j,H,b⟩:=L;dsimp only at D E G H A;subst D E G;cases H;have z:=b.le;unfold A5A;dsimp only;refine DO.2 ⟨λs=>?_,λs=>DN.2 ⟨i,rfl,?_⟩⟩
  .have s:=AB s;have a:(i+j) / 2<J.length:=oa;rw[A7u i j oa,A0,EH (n:=(((i+j) / 2:Nat):Int)) oa oa,ER (A1 a),A0];have⟨c,p,C,_⟩:=w J[(i+j) / 2];rw[p,A0];have d:=A7v w b oa (A1 a);refine DO.2 ⟨λh=>?_,λh=>?_⟩
   .rw[ET oa];exact A _ ⟨rfl,rfl,rfl,(i+j) / 2+1,j,rfl,d.1 (C.1 (AB h))⟩ oc
   .exact A _ ⟨rfl,rfl,rfl,i,(i+j) / 2,rfl,d.2 (λg=>AG h (C.2 g))⟩ oc
  grind
 .obtain⟨i,rfl,b⟩:=M;have z:=b.le;by_cases h:i<l.length
  .rw[E1,A7 h,A6,ER (A1 h),A0];have⟨c,p,_,K⟩:=w l[i];rw[A6,p,A0];refine DN.2 ⟨⟨oa,oa⟩,λI=>?_,λm y B e=>?_⟩
   .simp_all[BK,DT,A1,AB]
   .dsimp only;rw[BK,DT];refine A7 (K.2 ?_);obtain⟨k,hk,rfl⟩:=List.mem_iff_getElem.1 B;have:k=i:=by
     rcases Nat.lt_trichotomy k i with g|g|g
     .exact absurd (b.lo m k _ g (A1 hk)) oc
     .exact g
     .have O:=b.hi m i _ (AD _) (A1 h);grind[List.pairwise_iff_getElem,absurd]
    grind
  .rw[E1,A9 h,A8,A0,A8,A0];refine DN.2 ⟨⟨oa,oa⟩,λI=>(by cases I),λm y B e=>?_⟩;obtain⟨k,hk,rfl⟩:=List.mem_iff_getElem.1 B;exact absurd (b.lo m k _ oa (A1 hk)) oc
def A7w(l:List F3)(t:DL)(R:l.length<=1048576)(f:F3×DL->Option Int)(w:A0W (λy:F3=>y.1) t f):Tot (m8 (l,t,f)) (Srch (λy:F3=>y.1) l t):=by
 unfold m8;dsimp only;refine DM.2 (Tot.mono (P:=λr=>∃i:Nat,r=(i:Int)/\BsI (λy:F3=>y.1) l t i i) ?_ λr M=>?_)
 .refine ES (R:=λr=>∃i:Nat,r=(i:Int)/\BsI (λy:F3=>y.1) l t i i) (λx=>x.1=l/\x.2.1=t/\x.2.2.1=f/\∃i j:Nat,x.2.2.2=((i:Int),(j:Int))/\BsI (λy:F3=>y.1) l t i j) (λx=>(x.2.2.2.2-x.2.2.2.1).toNat)
   (λnext x L A=>?_) _ _ ⟨rfl,rfl,rfl,0,l.length,rfl,⟨oa,λ_ k y h=>absurd h oa,λ_ k y h1 Q=>oc⟩⟩ (by grind[fuel])
  obtain⟨J,V,N,T,U⟩:=x;obtain⟨D,E,G,i,j,H,b⟩:=L;dsimp only at D E G H A;subst D E G;cases H;have z:=b.le;unfold A5d;dsimp only;refine DO.2 ⟨λs=>?_,λs=>DN.2 ⟨i,rfl,?_⟩⟩
  .have s:=AB s;have a:(i+j) / 2<J.length:=oa;rw[A7u i j oa,A0,EH (n:=(((i+j) / 2:Nat):Int)) oa oa,ER (A1 a),A0];have⟨c,p,C,_⟩:=w J[(i+j) / 2];rw[p,A0];have d:=A7v w b oa (A1 a);refine DO.2 ⟨λh=>?_,λh=>?_⟩
   .rw[ET oa];exact A _ ⟨rfl,rfl,rfl,(i+j) / 2+1,j,rfl,d.1 (C.1 (AB h))⟩ oc
   .exact A _ ⟨rfl,rfl,rfl,i,(i+j) / 2,rfl,d.2 (λg=>AG h (C.2 g))⟩ oc
  grind
 .obtain⟨i,rfl,b⟩:=M;have z:=b.le;by_cases h:i<l.length
  .rw[E1,A7 h,A6,ER (A1 h),A0];have⟨c,p,_,K⟩:=w l[i];rw[A6,p,A0];refine DN.2 ⟨⟨oa,oa⟩,λI=>?_,λm y B e=>?_⟩
   .simp_all[BK,DT,A1,AB]
   .dsimp only;rw[BK,DT];refine A7 (K.2 ?_);obtain⟨k,hk,rfl⟩:=List.mem_iff_getElem.1 B;have:k=i:=by
     rcases Nat.lt_trichotomy k i with g|g|g
     .exact absurd (b.lo m k _ g (A1 hk)) oc
     .exact g
     .have O:=b.hi m i _ (AD _) (A1 h);grind[List.pairwise_iff_getElem,absurd]
    grind
  .rw[E1,A9 h,A8,A0,A8,A0];refine DN.2 ⟨⟨oa,oa⟩,λI=>(by cases I),λm y B e=>?_⟩;obtain⟨k,hk,rfl⟩:=List.mem_iff_getElem.1 B;exact absurd (b.lo m k _ oa (A1 hk)) oc
abbrev IH:=JG×List (DL×Int)×List (DL×Int)×List (DL×List Int)×List (DL×Bool)×Bool
def A7x(t:UD)(n:DL)(b:t.2.length<=1048576):∃r,WG (t,n)=some r:=by
 unfold WG;dsimp only;refine IN.1 (DM.2 ((AOR t.2 n b _ ?_).mono λr a=>?_))
 .intro y;grind[U8,UB,xU,X7]
 .refine DO.2 ⟨λ_=>DN.2 trivial,λh=>?_⟩;have⟨y,d,_⟩:=a.is (by simpa using h);have e:r.1=((r.1.toNat:Nat):Int):=by have:=a.rng;omega
  rw[e,ER d];exact DN.2 trivial
def AOS(t:UD)(x:XD)(h:t.2.length<=1048576)(d:x.2.length<=1048576):∃b,kV (t,x)=some b:=by
 unfold kV;refine IN.1 (DM.2 ((EZ (r:=kU) (σ:=Unit) x.2.length (λ_ i=>(t,x.2,(x.2.length:Int),i)) (λ_ _=>True) (Q:=λ_=>True) oa (λnext b i hi _ a=>?_) (λnext _ _=>?_) () trivial).mono λq _=>?_))
 .unfold kU;dsimp only;rw[E1,A7 hi,A6,ER (A1 hi),A0,ET oa];exact DM.2 ((IN.2 (A7x t _ h)).mono λr _=>DO.2 ⟨λ_=>DN.2 trivial,λ_=>a () trivial⟩)
 .simp_all[kU,E1,A9,AA,A8,DN,trivial]
 .cases q<;>exact DN.2 trivial
def P2(m:List (DL×Int))(l:List DL):Prop:=(∀s i,DW DQ s m=some i->0<=i/\l[i.toNat]?=some s)/\∀s∈l,∃i,DW DQ s m=some i
def A0X:P2 [] []:=⟨λs i h=>(oq),λs h=>(oq)⟩
theorem A0Y{m:List (DL×Int)}{l:List DL}(h:P2 m l)(s:DL):P2 (EB DQ s (l.length:Int) m) (l++[s]):=by
 refine⟨λk i hk=>?_,λk hk=>?_⟩
 .rw[UE]at hk;by_cases e:k=s
  .grind
  .rw[if_neg e]at hk;have⟨h1,a⟩:=h.1 k i hk;grind
 .rw[UE];by_cases e:k=s
  .simp_all
  .rw[if_neg e];rcases AZ.1 hk with hk|hk
   .exact h.2 k hk
   grind
def GE(m:List (DL×Int))(s:DL):Int:=(DW DQ s m).getD 0
def QK{m:List (DL×Int)}{l:List DL}(h:P2 m l)(s:DL)(a:0<l.length):0<=GE m s/\GE m s<l.length:=by
 unfold GE;cases e:DW DQ s m with
 |none=>grind
 |some i=>have⟨h1,b⟩:=h.1 s i e;grind
def IZ(w:IH)(s:DL):List Int:=(DW DQ s w.2.2.2.1).getD []
structure WoOk(g:JG)(how:Int)(w:IH):Prop where
 gr:w.1=g
 fn:P2 w.2.1 (g.2.2.1.map (·.1))
 ty:P2 w.2.2.1 (g.2.1.map (·.1))
 fit:∀s,(IZ w s).length<=g.1.length*g.2.1.length/\∀t∈IZ w s,0<=t/\t<g.2.1.length
 made:w.2.2.2.2.2=DP how 2
theorem AOT{b:Type}(k a:DL)(v d:b)(m:List (DL×b)):(DW DQ k (EB DQ a v m)).getD d=if k=a then v else(DW DQ k m).getD d:=by rw[UE];grind
def zd{p:Prop}(h:p:=by grind[List.getElem?_eq_some_iff,A0Y,List.length_map,List.length_take,Nat.min_eq_left,XF]):p:=h
def AOU{g:JG}(E:GB g)(hi:g.1.length<=200)(x:g.2.1.length<=500)(a:Int)(fs:List DL)(h4:fs.length<=1048576):Tot (kW (g,a,fs)) (λr=>∃w,r=some w/\WoOk g a w):=by
 have h2:=E.f0;unfold kW;dsimp only
 refine DM.2 ((SL (σ:=IH) (α:=LA) g.2.2.1 (λs i=>(s,g.2.2.1,(g.2.2.1.length:Int),i)) (λw i y=>(w.1,EB DQ y.1 (i:Int) w.2.1,w.2.2)) (λw=>w)
  (λi w=>w.1=g/\w.2.2.1=[]/\w.2.2.2.1=[]/\w.2.2.2.2.2=DP a 2/\P2 w.2.1 ((g.2.2.1.take i).map (·.1))) oa (λnext s i y h=>?_) (λnext s=>?_) _ ⟨rfl,rfl,rfl,rfl,A0X⟩
  (λw i y h j=>⟨j.1,j.2.1,j.2.2.1,j.2.2.2.1,?_⟩)).mono λz h3=>?_)
 .have l:=(A3.1 h).1;unfold xV;dsimp only;rw[E1,A7 l,A6,ER h,A0,ET oa]
 .simp_all[xV,E1,A9,AA,A8]
 .exact zd
 obtain⟨w3,rfl,L,M,N,O,Q⟩:=h3;rw[AQ]at Q
 refine DM.2 ((SL (σ:=IH) (α:=UD) g.2.1 (λs i=>(s,g.2.1,(g.2.1.length:Int),i)) (λw i y=>(w.1,w.2.1,EB DQ y.1 (i:Int) w.2.2.1,w.2.2.2)) (λw=>w)
  (λi w=>w.1=g/\w.2.1=z.2.1/\w.2.2.2.1=[]/\w.2.2.2.2.2=DP a 2/\P2 w.2.2.1 ((g.2.1.take i).map (·.1))) oa (λnext s i y h=>?_) (λnext s=>?_) _ ⟨L,rfl,N,O,by rw[M];exact A0X⟩
  (λw i y h j=>⟨j.1,j.2.1,j.2.2.1,j.2.2.2.1,?_⟩)).mono λd h5=>?_)
 .have l:=(A3.1 h).1;unfold xW;dsimp only;rw[E1,A7 l,A6,ER h,A0,ET oa]
 .simp_all[xW,E1,A9,AA,A8]
 .exact zd
 obtain⟨w5,rfl,R,T,U,V,W⟩:=h5;rw[AQ]at W
 have key:Tot (xZ (g,(d.1,(d.2.1,(d.2.2.1,(d.2.2.2.1,(d.2.2.2.2.1,d.2.2.2.2.2))))),g.1,(g.1.length:Int),0))
  (λw=>w.1=g/\w.2.1=z.2.1/\w.2.2.1=d.2.2.1/\w.2.2.2.2.2=DP a 2/\∀s,(IZ w s).length<=g.1.length*g.2.1.length/\∀t∈IZ w s,0<=t/\t<g.2.1.length):=by
  refine EZ (σ:=IH) g.1.length (λw i=>(g,w,g.1,(g.1.length:Int),i)) (λi w=>w.1=g/\w.2.1=z.2.1/\w.2.2.1=d.2.2.1/\w.2.2.2.2.2=DP a 2/\∀s,(IZ w s).length<=i*g.2.1.length/\∀t∈IZ w s,0<=t/\t<g.2.1.length) oa (λnext w i m p B=>?_) (λnext w p=>?_) _ ⟨R,T,rfl,V,λs=>?_⟩
  .unfold xY;dsimp only;rw[E1,A7 m,A6,ER (A1 m),A0,ET oa];obtain⟨j1,j2,j3,j4,j5⟩:=p;have⟨x1,x2,x3⟩:=E.i1 _ (AL m);have H:(i+1)*g.2.1.length=i*g.2.1.length+g.2.1.length:=C8 _ _;have h7:i*g.2.1.length<=200*500:=Nat.mul_le_mul oa x;refine DM.2 (Tot.mono (P:=λw=>w.1=g/\w.2.1=z.2.1/\w.2.2.1=d.2.2.1/\w.2.2.2.2.2=DP a 2/\∀s,(IZ w s).length<=(i+1)*g.2.1.length/\∀t∈IZ w s,0<=t/\t<g.2.1.length) ?_ λh8 C=>B _ C);refine EZ (σ:=IH) g.2.1.length (λw k=>(w,g.1[i],g.2.1,(g.2.1.length:Int),k)) (λk w=>w.1=g/\w.2.1=z.2.1/\w.2.2.1=d.2.2.1/\w.2.2.2.2.2=DP a 2/\∀s,(IZ w s).length<=i*g.2.1.length+k/\∀t∈IZ w s,0<=t/\t<g.2.1.length) oa (λnext w k hk p B=>?_) (λnext w p=>?_) _ ⟨j1,j2,j3,j4,j5⟩
   .unfold xX;dsimp only;rw[E1,A7 hk,A6,ER (A1 hk),A0,ET oa];obtain⟨k1,I,J,K,A⟩:=p;refine DM.2 ((IN.2 (AOS _ _ (E.t1 _ (AL hk)).2.1 x2)).mono λb _=>DO.2 ⟨λ_=>?_,λ_=>B w ⟨k1,I,J,K,λs=>⟨oc,(A s).2⟩⟩⟩);have h6:=(A g.1[i].1).1;refine DM.2 (F6.2 ⟨by grind[IZ,List.length_singleton],?_⟩);rw[E0,A7 rfl,A6,A0];refine B _ ⟨k1,I,J,K,λs=>?_⟩;show((DW DQ s (EB DQ _ _ _)).getD []).length<=_/\∀t∈(DW DQ s (EB DQ _ _ _)).getD [],_;rw[AOT];by_cases e:s=g.1[i].1
    .rw[if_pos e];refine⟨by grind[List.length_append,List.length_singleton,IZ],λt x=>?_⟩;rcases AZ.1 x with x|x
     .exact(A g.1[i].1).2 t x
     grind
    .rw[if_neg e];exact⟨by have:=(A s).1;grind[IZ],(A s).2⟩
   .unfold xX;dsimp only;rw[E1,A9 (AA _),A8];grind[DN,IZ]
  .unfold xY;dsimp only;rw[E1,A9 (AA _),A8];exact DN.2 p
  .unfold IZ;rw[show(d.2.2.2.1:List (DL×List Int))=[]from U];exact⟨AS _,λt h=>oq⟩
 refine DM.2 (key.mono λG ⟨X,Y,Z,c4,c5⟩=>?_)
 refine DM.2 ((SL (σ:=IH) (α:=DL) fs (λs i=>(s,fs,(fs.length:Int),i)) (λw i y=>(w.1,w.2.1,w.2.2.1,w.2.2.2.1,EB DQ y true w.2.2.2.2.1,w.2.2.2.2.2)) (λw=>w)
  (λi w=>w.1=g/\w.2.1=z.2.1/\w.2.2.1=d.2.2.1/\w.2.2.2.2.2=DP a 2/\w.2.2.2.1=G.2.2.2.1) oa (λnext s i y h=>?_) (λnext s=>?_) _ ⟨X,Y,Z,c4,rfl⟩
  (λw i y h j=>j)).mono λh9 D=>DN.2 ⟨_,rfl,?_⟩)
 .have l:=(A3.1 h).1;unfold x_;dsimp only;rw[E1,A7 l,A6,ER h,A0,ET oa]
 .simp_all[x_,E1,A9,AA,A8]
 obtain⟨x0,rfl,d1,d2,d3,d4,d5⟩:=D;refine⟨d1,oc,oc,λs=>?_,d4⟩;have:=c5 s;grind[IZ]
abbrev LB:=Option IH×List Bool×List Bool×List ((DL×DL)×Bool)×List (DL×DL)×List Int×List Int
def AOV(l:List Int)(v:Int)(e:l.length<=1099511627776):kY (l,v)=some (decide (v∈l)):=by
 unfold kY yA;dsimp only
 refine M1 (DM.2 (Tot.mono (P:=λr=>(0<=r<->v∈l)) (DM.2 ((EZ (r:=kX) (σ:=Unit) l.length (λ_ i=>(l,v,(l.length:Int),i)) (λi _=>v ∉ l.take i)
  (Q:=λq=>match q with| .inl _=>v ∉ l| .inr n=>0<=n/\v∈l) oa (λnext _ i hi a b=>?_) (λnext _ a=>?_) () oh).mono λq j=>?_)) λr d=>DN.2 (decide_eq_decide.2 d)))
 .unfold kX;dsimp only;rw[E1,A7 hi,A6,ER (A1 hi),A0,ET oa,DT];refine DO.2 ⟨λh=>DN.2 ⟨oa,?_⟩,λh=>b () ?_⟩
  .grind
  .rw[GH (A1 hi)];grind
 .simp_all[kX,E1,A9,AA,A8,AQ,DN]
 grind[DN,absurd]
noncomputable def QL(w:IH)(m:DL)(t:Int):Int:=match w.1.2.1[t.toNat]? with
 |some y=>GE w.2.1 ((WG (y,m)).getD ([],false)).1
 |none=>0
def P3(w:IH)(c:M2):Bool:=(DW DQ c.2.2.2 w.2.2.2.2.1).getD false
def Goes(w:IH)(md:List Bool)(c:M2)(j:Int):Prop:=
 if c.1=1 then j=GE w.2.1 c.2.1 else ∃t∈IZ w c.2.1,(w.2.2.2.2.2=false\/md[t.toNat]?=some true)/\j=QL w c.2.2.1 t
inductive Rch (w:IH) (fs md:List Bool):Int->Prop where
 |entry (e:DL) (h:e∈w.1.2.2.2):Rch w fs md (GE w.2.1 e)
 |step (i:Nat) (f:LA) (c:M2) (j:Int) (h1:Rch w fs md (i:Int)) (h2:fs[i]?=some true) (h3:w.1.2.2.1[i]?=some f) (h4:c∈f.2.2.1) (h5:P3 w c=true) (h6:Goes w md c j):Rch w fs md j
def Mor(a b:List Bool):Prop:=∀i:Nat,a[i]?=some true->b[i]?=some true
theorem Mor.refl(a:List Bool):Mor a a:=λ_ h=>h
theorem Mor.trans{a b c:List Bool}(h:Mor a b)(k:Mor b c):Mor a c:=λi g=>k i (h i g)
def A7y(a:List Bool)(j:Nat):Mor a (a.set j true):=λi h=>by grind
theorem Goes.mono{w:IH}{a m:List Bool}{c:M2}{j:Int}(h:Goes w a c j)(k:Mor a m):Goes w m c j:=by
 unfold Goes at h ⊢;by_cases e:c.1=1
 .rwa[if_pos e]at h ⊢
 .rw[if_neg e]at h ⊢;obtain⟨t,h1,b,d⟩:=h;exact⟨t,h1,b.imp id (k _),d⟩
def Rch.mono{w:IH}{fs b a m:List Bool}{j:Int}(h:Rch w fs b j)(k1:Mor fs a)(z:Mor b m):Rch w a m j:=by
 induction h with
 |entry e h=>exact .entry e h
 |step i f c j _ d l p s x y=>exact .step i f c j y (k1 i d) l p s (x.mono z)
theorem AOW{l:List Bool}:∀{i:Nat},l[i]?=some false->(l.set i true).countP id=l.countP id+1:=by grind
structure SpI(w:IH)(s:LB)(p k:Nat):Prop where
 w0:s.1=some w
 fl:s.2.1.length=w.1.2.2.1.length
 ml:s.2.2.1.length=w.1.2.1.length
 cnt:s.2.1.countP id=p+s.2.2.2.2.2.2.length
 q:∀j∈s.2.2.2.2.2.2,0<=j/\s.2.1[j.toNat]?=some true
 r:∀i:Nat,s.2.1[i]?=some true->Rch w s.2.1 s.2.2.1 (i:Int)
 o:∀x∈s.2.2.2.2.1,∃(i:Nat) (f:LA) (c:M2),s.2.1[i]?=some true/\w.1.2.2.1[i]?=some f/\c∈f.2.2.1/\P3 w c=true/\c.1≠1/\c.2.1=x.1/\c.2.2.1=x.2
 ol:s.2.2.2.2.1.length<=k
def SpI.few{w:IH}{s:LB}{p k:Nat}(h:SpI w s p k):p+s.2.2.2.2.2.2.length<=w.1.2.2.1.length:=by rw[<-h.cnt,<-h.fl];grind
section
variable{g:JG}{how:Int}{w:IH}(hw:WoOk g how w)(hg:GB g)(ho:GrOk g)
include hw hg
theorem pG(c:M2){t:Int}(h0:0<=t)(h1:t<g.2.1.length):TZ (some w,c,t)=some (QL w c.2.2.1 t):=by have e:t=((t.toNat:Nat):Int):=oa;have h:t.toNat<g.2.1.length:=oa;have b:=A1 h;have⟨r,a⟩:=A7x g.2.1[t.toNat] c.2.2.1 (hg.t1 _ (AL h)).2.1;unfold TZ;dsimp only;rw[A0,hw.gr,e,ER b,A0,a,A0,A0];unfold QL;rw[hw.gr,BX,b];dsimp only;rw[a];rfl
omit hg in
theorem A0Z(m:DL)(t:Int)(h:0<g.2.2.1.length):0<=QL w m t/\QL w m t<g.2.2.1.length:=by
 unfold QL;split
 .have:=QK hw.fn;grind
 .omega
omit hg in
theorem pH{s:LB}{p k:Nat}(h:SpI w s p k){j:Int}(E:Rch w s.2.1 s.2.2.1 j)(h0:0<=j)(h1:j<g.2.2.1.length)(H:g.2.2.1.length<=1048576):
 Tot (TY (s,j)) (λz=>SpI w z p k/\z.2.2.1=s.2.2.1/\z.2.2.2.2.1=s.2.2.2.2.1/\Mor s.2.1 z.2.1/\z.2.1[j.toNat]?=some true):=by
 have l:=h.few;have m:=hw.gr;rw[m]at l;have C:=h.fl;rw[m]at C;obtain⟨b,B⟩:∃b,s.2.1[j.toNat]?=some b:=⟨_,A1 oa⟩;have D:s.2.1.getD j.toNat false=b:=by rw[AJ,B];rfl
 unfold TY;dsimp only;refine DM.2 (EV.2 ⟨⟨h0,oa⟩,?_⟩);rw[D];cases b with
 |true=>exact DN.2 ⟨h,rfl,rfl,Mor.refl _,B⟩
 |false=>
  refine DM.2 (EV.2 ⟨⟨h0,oa⟩,?_⟩);refine DM.2 (F6.2 ⟨oc,DN.2 ?_⟩);have A:=A7y s.2.1 j.toNat;have y:(s.2.1.set j.toNat true)[j.toNat]?=some true:=by rw[List.getElem?_set,if_pos rfl,if_pos oa]
  refine⟨⟨h.w0,oc,h.ml,?_,λa d=>?_,λi hi=>?_,λx G=>?_,h.ol⟩,rfl,rfl,A,y⟩
  .dsimp only;rw[AOW B,h.cnt,AI,List.length_singleton];omega
  .rcases AZ.1 d with d|d
   .exact⟨(h.q a d).1,A _ (h.q a d).2⟩
   grind
  .dsimp only at hi ⊢;by_cases e:i=j.toNat
   .have:((i:Nat):Int)=j:=oa;rw[this];exact E.mono A (Mor.refl _)
   .rw[List.getElem?_set,if_neg (λh=>e h.symm)]at hi;exact(h.r i hi).mono A (Mor.refl _)
  .obtain⟨i,f,c,k1,I⟩:=h.o x G;grind
theorem AOX{s:LB}{p k:Nat}(h:SpI w s p k){t:Int}(h0:0<=t)(h1:t<g.2.1.length)(hn:g.2.2.1.length<=3000)(hp:k<=1000000)(b:g.1.length*g.2.1.length<=1099511627776)(z:0<g.2.2.1.length):
 Tot (k_ (s,t)) (λa=>SpI w a p k/\Mor s.2.1 a.2.1):=by
 have j:=hw.gr;have y:=h.ml;rw[j]at y;have T:=h.ol;have e:=h.few;rw[j]at e;unfold k_;dsimp only;refine DM.2 (EV.2 ⟨⟨h0,oa⟩,DO.2 ⟨λ_=>DN.2 ⟨h,Mor.refl _⟩,λ_=>?_⟩⟩);refine DM.2 (EV.2 ⟨⟨h0,oa⟩,?_⟩);rw[h.w0,A0];have R:=A7y s.2.2.1 t.toNat;have J:(s.2.2.1.set t.toNat true)[t.toNat]?=some true:=by rw[List.getElem?_set,if_pos rfl,if_pos oa]
 have H:SpI w (some w,(s.2.1,((s.2.2.1.set t.toNat true),(s.2.2.2.1,(s.2.2.2.2.1,(s.2.2.2.2.2.1,s.2.2.2.2.2.2)))))) p k:=
  ⟨rfl,h.fl,oc,h.cnt,h.q,λi hi=>(h.r i hi).mono (Mor.refl _) R,h.o,h.ol⟩
 refine DO.2 ⟨λ_=>DN.2 ⟨H,Mor.refl _⟩,λ_=>?_⟩;refine DM.2 (Tot.mono (P:=λa=>SpI w a p k/\Mor s.2.1 a.2.1) ?_ λa A=>DN.2 A)
 refine EZ (r:=kZ) (σ:=LB) s.2.2.2.2.1.length (λa i=>(a,t,s.2.2.2.2.1,(s.2.2.2.2.1.length:Int),i)) (λ_ a=>SpI w a p k/\Mor s.2.1 a.2.1/\a.2.2.1=s.2.2.1.set t.toNat true/\a.2.2.2.2.1=s.2.2.2.2.1) oa
  (λnext a i hi G m=>?_) (λnext a G=>?_) _ ⟨H,Mor.refl _,rfl,rfl⟩
 .obtain⟨d,D,E,x⟩:=G;unfold kZ;dsimp only;rw[E1,A7 hi,A6,ER (A1 hi),A0,d.w0,A0,ET oa];have I:=AOV (IZ w s.2.2.2.2.1[i].1) t (AM (hw.fit _).1 b);unfold IZ at I;rw[I,A0];have l:(a.1,a.2.1,a.2.2.1,a.2.2.2.1,a.2.2.2.2.1,a.2.2.2.2.2.1,a.2.2.2.2.2.2)=a:=rfl;rw[d.w0]at l;refine DO.2 ⟨λQ=>?_,λ_=>m _ ⟨oc,D,E,x⟩⟩;rw[pG hw hg _ h0 h1,A0,l];have⟨B,C⟩:=A0Z hw s.2.2.2.2.1[i].2 t z;have U:s.2.2.2.2.1[i]∈a.2.2.2.2.1:=x.symm▸AL hi;have⟨K,f,c,k1,V,W,X,Y,Z,k7⟩:=d.o _ U;refine DM.2 ((pH hw d (j:=QL w s.2.2.2.2.1[i].2 t) ?_ B C oa).mono λs2 ⟨L,M,N,O,_⟩=>m s2 ⟨L,D.trans O,M.trans E,N.trans x⟩);refine .step K f c _ (d.r K k1) k1 V W X ?_;unfold Goes;rw[if_neg Y];refine⟨t,?_,.inr oc,by rw[k7]⟩;rw[Z];exact AB Q
 .unfold kZ;dsimp only;rw[E1,A9 (AA _),A8];grind[DN]
theorem AOY{s:LB}{p k:Nat}(h:SpI w s p k)(hn:g.2.2.1.length<=3000)(hp:k<1000000)(K:g.1.length*g.2.1.length<=1099511627776){i:Nat}{f:LA}{c:M2}(hi:s.2.1[i]?=some true)(hf:g.2.2.1[i]?=some f)(T:c∈f.2.2.1)(D:P3 w c=true):
 Tot (lB (s,c)) (λa=>SpI w a p (k+1)/\Mor s.2.1 a.2.1):=by
 have e:=hw.gr;have B:0<g.2.2.1.length:=by have:=(A3.1 hf).1;omega
 have L:=h.ml;rw[e]at L;have h2:=h.ol;have m:=h.few;rw[e]at m;have z:(s.1,s.2.1,s.2.2.1,s.2.2.2.1,s.2.2.2.2.1,s.2.2.2.2.2.1,s.2.2.2.2.2.2)=s:=rfl;have up:∀{a},SpI w a p k->SpI w a p (k+1):=λh=>⟨h.w0,h.fl,h.ml,h.cnt,h.q,h.r,h.o,by have:=h.ol;omega⟩;unfold lB;dsimp only;rw[h.w0]at z ⊢;rw[DT];refine DO.2 ⟨λG=>?_,λG=>?_⟩
 .rw[A0,z];have U:=QK hw.fn c.2.1;rw[B2]at U;have⟨r0,r1⟩:=U B;refine DM.2 ((pH hw h (j:=GE w.2.1 c.2.1) ?_ r0 r1 oa).mono λV ⟨I,W,X,J,_⟩=>DN.2 ⟨up I,J⟩);refine .step i f c _ (h.r i hi) hi oc T D ?_;unfold Goes;grind
 .have G:=AG G;refine DO.2 ⟨λ_=>DN.2 (by grind[Mor.refl]),λ_=>?_⟩;refine DM.2 (F6.2 ⟨oc,?_⟩);rw[A0];have Y:SpI w (some w,(s.2.1,(s.2.2.1,((EB (λ(x y:DL×DL)=>DQ x.1 y.1&&DQ x.2 y.2) (c.2.1,c.2.2.1) true s.2.2.2.1),(s.2.2.2.2.1++[(c.2.1,c.2.2.1)],(s.2.2.2.2.2.1,s.2.2.2.2.2.2)))))) p (k+1):=by
   refine⟨rfl,h.fl,h.ml,h.cnt,h.q,h.r,λx H=>?_,oc⟩;rcases AZ.1 H with H|H
   .exact h.o x H
   .grind
  have⟨fl,Q⟩:=hw.fit c.2.1;unfold IZ at fl Q;refine DM.2 (Tot.mono (P:=λa=>SpI w a p (k+1)/\Mor s.2.1 a.2.1) ?_ λa M=>DN.2 M)
  refine EZ (r:=lA) (σ:=LB) ((DW DQ c.2.1 w.2.2.2.1).getD []).length (λa i=>(a,c,(DW DQ c.2.1 w.2.2.2.1).getD [],(((DW DQ c.2.1 w.2.2.2.1).getD []).length:Int),i)) (λ_ a=>SpI w a p (k+1)/\Mor s.2.1 a.2.1) oa
   (λnext a n j R C=>?_) (λnext a R=>?_) _ ⟨Y,Mor.refl _⟩
  .obtain⟨l,E⟩:=R;unfold lA;dsimp only;have d:=AL j;have⟨t0,t1⟩:=Q _ d;have A:=l.ml;rw[e]at A;rw[E1,A7 j,A6,ER (A1 j),A0,l.w0,A0,ET oa];have b:(a.1,a.2.1,a.2.2.1,a.2.2.2.1,a.2.2.2.2.1,a.2.2.2.2.2.1,a.2.2.2.2.2.2)=a:=rfl;rw[l.w0]at b;refine DM.2 (Tot.mono (P:=λ_=>True) (DO.2 ⟨λ_=>EV.2 ⟨⟨t0,oa⟩,trivial⟩,λ_=>DN.2 trivial⟩) λ_ _=>?_);refine DO.2 ⟨λZ=>?_,λ_=>C _ ⟨oc,E⟩⟩;rw[pG hw hg _ t0 t1,A0,b];have⟨N,O⟩:=A0Z hw c.2.2.1 ((DW DQ c.2.1 w.2.2.2.1).getD [])[n] B;refine DM.2 ((pH hw l ?_ N O oa).mono λV ⟨I,W,X,J,_⟩=>C V ⟨I,E.trans J⟩);refine .step i f c _ (l.r i (E i hi)) (E i hi) oc T D ?_;unfold Goes;rw[if_neg G];refine⟨_,d,?_,rfl⟩;grind
  simp_all[lA,E1,A9,AA,A8,DN]
end
structure SpOk(w:IH)(s:LB):Prop where
 w0:s.1=some w
 fl:s.2.1.length=w.1.2.2.1.length
 ml:s.2.2.1.length=w.1.2.1.length
 r:∀i:Nat,s.2.1[i]?=some true->Rch w s.2.1 s.2.2.1 (i:Int)
section
variable{g:JG}{how:Int}{w:IH}(hw:WoOk g how w)(hg:GB g)(ho:GrOk g)
include hw hg ho
theorem A7z:Tot (aP (some w,-1)) (λr=>∃s,r=some s/\SpOk w s):=by
 have d:=hw.gr;have X:=ho.f;have hm:=ho.t;have A:g.1.length*g.2.1.length<=1099511627776:=by have:=Nat.mul_le_mul ho.i ho.t;omega
 have h6:=hg.e0;unfold aP;dsimp only;rw[A0,d];have mk:∀n:Nat,n<=3000->mks? 24 (n:Int) (n:Int) false=some (List.replicate n false):=λn h=>by grind[mks?,decide_eq_true]
 rw[mk _ X,A0,A0,d,mk _ oa,A0,A0,d];have hS:SpI w (some w,(List.replicate g.2.2.1.length false,(List.replicate g.2.1.length false,(([]:List ((DL×DL)×Bool)),(([]:List (DL×DL)),(([]:List Int),([]:List Int))))))) 0 0:=by refine⟨rfl,oc,oc,oh,λj h=>(oq),λi h=>?_,λx h=>(oq),AD _⟩;dsimp only at h;rw[D3]at h;split at h<;>cases h
 refine DM.2 (Tot.mono (P:=λs=>SpI w s 0 0) ?_ λr9 T=>?_)
 .refine EZ (r:=lC) (σ:=LB) g.2.2.2.length (λs i=>(some w,s,g.2.2.2,(g.2.2.2.length:Int),i)) (λ_ s=>SpI w s 0 0) oa (λnext s i hi b C=>?_) (λnext s b=>?_) _ hS
  .unfold lC;dsimp only;have B:=AL hi;have⟨y,Z,_⟩:=ho.entries _ B;have K:0<g.2.2.1.length:=List.length_pos_of_mem Z;rw[E1,A7 hi,A6,ER (A1 hi),A0,A0,ET oa];have L:=QK hw.fn g.2.2.2[i];rw[B2]at L;have⟨r0,r1⟩:=L K;exact DM.2 ((pH hw b (j:=GE w.2.1 g.2.2.2[i]) (.entry _ oc) r0 r1 oa).mono λM D=>C M D.1)
  simp_all[lC,E1,A9,AA,A8,DN]
 refine DM.2 (Tot.mono (P:=SpOk w) ?_ λs hs=>DN.2 ⟨_,rfl,hs⟩);refine ES (R:=SpOk w) (λx=>x.1=some w/\x.2.1= -1/\∃p,SpI w x.2.2 p (200*p)) (λx=>(x.2.2.2.1.countP λb=>!b)+x.2.2.2.2.2.2.2.2.length) (λnext x hI C=>?_) _ _ ⟨rfl,rfl,0,T⟩ ?_
 .obtain⟨w',u,s⟩:=x;obtain⟨e1,e2,p,b⟩:=hI;dsimp only at e1 e2 b C;subst e1 e2;have z:=b.few;have E:=b.cnt;have Q:=b.fl;rw[d]at z Q;have G:∀l:List Bool,l.countP id+l.countP (λb=>!b)=l.length:=λl=>by induction l<;>grind
  unfold A5N;dsimp only;obtain⟨s1,fs,md,sl,od,ty,R⟩:=s;dsimp only at b z E Q C ⊢;cases R with
  |nil=>rw[show decide ((0:Int)<(([]:List Int).length:Int))=false from rfl,A8];exact DN.2 ⟨b.w0,b.fl,b.ml,b.r⟩
  |cons j R=>
   have⟨j0,W⟩:=b.q j AE;dsimp only at W;have h7:=(A3.1 W).1;have ec:((j.toNat:Nat):Int)=j:=oa;obtain⟨f,U⟩:∃f,g.2.2.1[j.toNat]?=some f:=⟨_,A1 oa⟩;rw[BL]at E z;rw[show decide ((0:Int)<((j::R).length:Int))=true from A7 oh,A6];refine DM.2 (EV.2 ⟨⟨oa,oh⟩,?_⟩);refine DM.2 (I8.2 ⟨⟨oa,oc,oa⟩,?_⟩);rw[show((j::R).getD 0 (0:Int))=j from rfl,BX,AQ,show(Int.toNat 1)=1 from rfl,List.drop_one,List.tail_cons,show DP j (-1)=false from by grind[DT,decide_eq_false],A8,A0,d];have O:at? g.2.2.1 j=some f:=by rw[<-ec];exact ER U
   rw[O,A0];have b':SpI w (s1,(fs,(md,(sl,(od,(ty,R)))))) (p+1) (200*p):=⟨b.w0,b.fl,b.ml,oc,λa ha=>b.q a (AN _ ha),b.r,b.o,b.ol⟩;have I:=AH U;refine DM.2 (Tot.mono (P:=λs=>SpI w s (p+1) (200*p)/\Mor fs s.2.1) ?_ λx3 ⟨c1,c2⟩=>?_)
   .have h8:=(hg.f1 f I).2.2.2.1;refine EZ (r:=lD) (σ:=LB) f.2.2.2.length (λs i=>(some w,s,f.2.2.2,(f.2.2.2.length:Int),i)) (λ_ s=>SpI w s (p+1) (200*p)/\Mor fs s.2.1) oa (λnext s i hi H m=>?_) (λnext s H=>?_) _ ⟨b',Mor.refl _⟩
    .unfold lD;dsimp only;have B:=AL hi;have⟨y,Z,_⟩:=ho.makes f I _ B;have K:0<g.2.1.length:=List.length_pos_of_mem Z;rw[E1,A7 hi,A6,ER (A1 hi),A0,A0,ET oa];have L:=QK hw.ty f.2.2.2[i];rw[B2]at L;have⟨r0,r1⟩:=L K;exact DM.2 ((AOX hw hg H.1 (t:=GE w.2.2.1 f.2.2.2[i]) r0 r1 X oa A oa).mono λM D=>m M ⟨D.1,H.2.trans D.2⟩)
    simp_all[lD,E1,A9,AA,A8,DN]
   rw[A0,d,O,A0];have h5:=ho.calls f I;refine DM.2 (Tot.mono (P:=λr=>∃s,r=Sum.inr s/\∃k,k<=200*(p+1)/\SpI w s (p+1) k/\Mor fs s.2.1) ?_ λx4 L=>?_)
   .refine EZ (r:=lE) (σ:=LB) f.2.2.1.length (λs i=>(some w,-1,s,f.2.2.1,(f.2.2.1.length:Int),i)) (λn s=>∃k,k<=200*p+n/\SpI w s (p+1) k/\Mor fs s.2.1) oa (λnext s n J H m=>?_) (λnext s H=>?_) _ ⟨200*p,AD _,c1,c2⟩
    .obtain⟨k,k1,e,N⟩:=H;unfold lE;dsimp only;rw[E1,A7 J,A6,ER (A1 J),A0,A0,ET oa];refine DO.2 ⟨λ_=>m s ⟨k,oa,e,N⟩,λx2=>?_⟩;refine DM.2 ((AOY hw hg e X oa A (N _ W) U (AL J) (by grind[P3])).mono λM D=>?_);rw[show decide ((0:Int)<= -1)=false from oi,A8,A0,D0,A8];exact m M ⟨k+1,oa,D.1,N.trans D.2⟩
    .obtain⟨k,k1,e,N⟩:=H;unfold lE;dsimp only;rw[E1,A9 (AA _),A8];exact DN.2 ⟨s,rfl,k,oa,e,N⟩
   .obtain⟨M,rfl,k,k1,e,N⟩:=L;have Y:=e.ol;have h4:=e.cnt;have V:=e.fl;have x0:=G fs;have x1:=G M.2.1;rw[d]at V;refine C _ ⟨rfl,rfl,p+1,⟨e.w0,e.fl,e.ml,e.cnt,e.q,e.r,e.o,AM Y k1⟩⟩ ?_;grind
 .dsimp only;have h1:=T.few;rw[d]at h1;have D:r9.2.1.countP (λb=>!b)<=r9.2.1.length:=List.countP_le_length;have h3:=T.fl;grind[fuel]
end
def SM(nx:List (List Int)):Prop:=nx.length<=1048576/\∀r∈nx,r.length<=1099511627776/\∀j∈r,0<=j/\j<nx.length
structure Bf(nx:List (List Int))(t:Nat)(D:Int)(o q:List Int)(p cur k:Nat):Prop where
 len:o.length=nx.length
 cnt:o.countP (λx=>decide (0<=x))=p+q.length
 t0:o[t]?=some 0
 qin:∀j∈q,0<=j/\∃x:Int,o[j.toNat]?=some x/\0<=x/\D<=x
 low:∀(j:Nat) (x:Int),o[j]?=some x-> -1<=x/\x<=D+1/\x<p+q.length
 pre:∀(j:Nat) (x:Int),o[j]?=some x->0<=x->(x=0/\j=t)\/∃(i:Nat) (y:Int) (r:List Int),o[i]?=some y/\0<=y/\x=y+1/\nx[i]?=some r/\(j:Int)∈r
 srt:q.Pairwise λa b=>∀x y,o[a.toNat]?=some x->o[b.toNat]?=some y->x<=y
 clo:∀(i:Nat) (y:Int) (r:List Int),o[i]?=some y->0<=y->nx[i]?=some r->(i:Int)∈q\/∀j∈(if i=cur then r.take k else r),∃x:Int,o[j.toNat]?=some x/\0<=x/\x<=y+1
theorem A80{l:List Int}{P:Int->Bool}:∀{i:Nat} {a b:Int},l[i]?=some a->P a=false->P b=true->(l.set i b).countP P=l.countP P+1:=by grind
def AOZ{nx:List (List Int)}{t:Nat}{D:Int}{o q r:List Int}{p b k:Nat}{j x:Int}(h:Bf nx t D o q p b k)(m:o[b]?=some D)(J:nx[b]?=some r)(I:r[k]?=some j)
 (L:o[j.toNat]?=some x)(h0:0<=x):Bf nx t D o q p b (k+1):=by
 obtain⟨h1,A,B,C,E,G,H,d⟩:=h;refine⟨h1,A,B,C,E,G,H,λi y K s z w=>?_⟩;rcases d i y K s z w with d|d
 .exact .inl d
 .refine .inr λa l=>?_;by_cases e:i=b
  .subst e;rw[if_pos rfl]at d l;rw[J]at w;cases w;rw[m]at s;cases s;rw[GH I]at l;rcases AZ.1 l with l|l
   .exact d a l
   grind[List.mem_singleton]
  simp_all
def AO_{nx:List (List Int)}{t:Nat}{D:Int}{o q r:List Int}{p l k:Nat}{j x:Int}(h:Bf nx t D o q p l k)(m:o[l]?=some D)(I:0<=D)(L:nx[l]?=some r)(hj:r[k]?=some j)
 (h9:0<=j)(hx:o[j.toNat]?=some x)(h0:x<0):Bf nx t D (o.set j.toNat (D+1)) (q++[j]) p l (k+1):=by
 obtain⟨h1,h2,U,H,V,W,X,A⟩:=h;have E:j.toNat<o.length:=(A3.1 hx).1;have old:∀(i:Nat) y,o[i]?=some y->0<=y->(o.set j.toNat (D+1))[i]?=some y:=λi y w z=>by rw[List.getElem?_set];by_cases e:j.toNat=i<;>grind
 have s:∀(i:Nat) y,(o.set j.toNat (D+1))[i]?=some y->(i=j.toNat/\y=D+1)\/(i≠j.toNat/\o[i]?=some y):=λi y g=>by rw[List.getElem?_set]at g;by_cases e:j.toNat=i<;>grind
 have K:(o.set j.toNat (D+1))[j.toNat]?=some (D+1):=by rw[List.getElem?_set,if_pos rfl,if_pos E]
 have Y:=(V _ _ m).2.2;refine⟨oc,?_,old _ _ U (AR _),λa d=>?_,λi y g=>?_,λi y g T=>?_,?_,λi y O w z C=>?_⟩
 .grind[A80,List.length_append,List.length_singleton]
 .rcases AZ.1 d with d|d
  .obtain⟨a0,y,w,z⟩:=H a d;grind
  .rw[AP]at d;grind
 .rw[AI,List.length_singleton];rcases s i y g with⟨_,rfl⟩|⟨_,g⟩<;>grind
 .rcases s i y g with⟨e,rfl⟩|⟨_,g⟩
  .refine .inr ⟨l,D,r,old _ _ m I,I,rfl,L,?_⟩;have:((i:Nat):Int)=j:=oa;grind[List.mem_of_getElem?]
  .rcases W i y g T with h|⟨i',Q,O,k1,B,M,k4,k5⟩<;>grind
 .refine List.pairwise_append.2 ⟨?_,D4 _ _,λa d b J G Q w z=>?_⟩
  .refine X.imp_of_mem λ{a b} d J Z G Q w z=>?_;have⟨_,u,k1,B,_⟩:=H a d;grind
  .rw[AP]at J;grind
 .rcases s i y w with⟨e,rfl⟩|⟨e,g⟩
  .refine .inl (BP _ ?_);rw[AP];omega
  .rcases A i y O g z C with A|A
   .grind
   .refine .inr λa d=>?_;have N:(∃x,o[a.toNat]?=some x/\0<=x/\x<=y+1)->∃x,(o.set j.toNat (D+1))[a.toNat]?=some x/\0<=x/\x<=y+1:=λ⟨G,k1,B,M⟩=>⟨G,old _ _ k1 B,B,M⟩;by_cases R:i=l
    .subst R;rw[if_pos rfl]at A d;rw[L]at C;cases C;rw[m]at g;cases g;rw[GH hj]at d;rcases AZ.1 d with d|d
     .simp_all
     .rw[AP]at d;grind
    simp_all
def AOa{nx:List (List Int)}(G:SM nx){t:Nat}{D:Int}{o q r:List Int}{p a:Nat}(h:Bf nx t D o q p a 0)(j:o[a]?=some D)(K:0<=D)(z:nx[a]?=some r):
 Tot (mA (-1,o,q,(a:Int),r,(r.length:Int),0)) (λy=>Bf nx t D y.1 y.2 p a r.length/\y.1[a]?=some D):=by
 have⟨T,A⟩:=G.2 r (AH z);refine EZ (σ:=List Int×List Int) r.length (λs k=>(-1,s.1,s.2,(a:Int),r,(r.length:Int),k)) (λk s=>Bf nx t D s.1 s.2 p a k/\s.1[a]?=some D) oa (λnext s k hk H l=>?_) (λnext s H=>?_) (o,q) ⟨h,j⟩
 .obtain⟨e,V⟩:=s;obtain⟨b,c⟩:=H;dsimp only at b c;unfold WJ;dsimp only;have d:=A1 hk;have⟨C,U⟩:=A _ (AL hk);have w:(r[k]).toNat<e.length:=by rw[b.len];omega
  obtain⟨E,B⟩:∃E,e[(r[k]).toNat]?=some E:=⟨_,A1 w⟩;have M:=(A3.1 c).1;have N:e.countP (λx=>decide (0<=x))<=e.length:=List.countP_le_length;have Q:=b.len;have O:=b.cnt;have L:=(b.low _ _ c).2.2;have R:=G.1;rw[E1,A7 hk,A6,ER d,A0,ET oa];refine DM.2 (EV.2 ⟨⟨C,oa⟩,?_⟩);have I:e.getD (r[k]).toNat 0=E:=by rw[AJ,B];rfl
  have J:e.getD ((a:Int)).toNat 0=D:=by rw[AJ,BX,c];rfl
  rw[I,J,show DP r[k] (-1)=false from by grind[DT,decide_eq_false],CH,DK];refine DO.2 ⟨λm=>?_,λm=>?_⟩
  .have m:=AB m;refine DM.2 (EV.2 ⟨⟨oa,oa⟩,?_⟩);refine DM.2 (EV.2 ⟨⟨C,oa⟩,?_⟩);refine DM.2 (F6.2 ⟨oc,?_⟩);rw[EH oa oa];refine l (_,_) ⟨AO_ b c K z d C B m,?_⟩;grind
  .exact l (_,_) ⟨AOZ b c z d B oc,c⟩
 simp_all[WJ,E1,A9,AA,A8,DN]
structure Dist(nx:List (List Int))(t:Nat)(o:List Int):Prop where
 len:o.length=nx.length
 t0:o[t]?=some 0
 low:∀(j:Nat) (x:Int),o[j]?=some x-> -1<=x/\x<nx.length
 pre:∀(j:Nat) (x:Int),o[j]?=some x->0<=x->(x=0/\j=t)\/∃(i:Nat) (y:Int) (r:List Int),o[i]?=some y/\0<=y/\x=y+1/\nx[i]?=some r/\(j:Int)∈r
 clo:∀(i:Nat) (y:Int) (r:List Int),o[i]?=some y->0<=y->nx[i]?=some r->∀j∈r,∃x:Int,o[j.toNat]?=some x/\0<=x/\x<=y+1
def A81(o:List Int):o.countP (λx=>decide (0<=x))+o.countP (λx=>decide (x<0))=o.length:=by induction o<;>grind
def cA(n:Nat)(o:List Int):List Int->Int
 |[]=>n
 |j::_=>o.getD j.toNat 0
def A82{nx:List (List Int)}(W:SM nx){t:Nat}{o:List Int}(hl:o.length=nx.length)(Y:∀(j:Nat),j<nx.length->o[j]?=some (if j=t then 0 else -1))(ht:t<nx.length):
 Tot (yR (nx,-1,o,[(t:Int)])) (Dist nx t):=by
 have h6:=W.1
 refine ES (R:=Dist nx t) (λx=>x.1=nx/\x.2.1= -1/\∃p,Bf nx t (cA nx.length x.2.2.1 x.2.2.2) x.2.2.1 x.2.2.2 p nx.length 0) (λx=>x.2.2.2.length+(x.2.2.1.countP λv=>decide (v<0)))
  (λnext x hI G=>?_) _ _ ⟨rfl,rfl,0,?_⟩ ?_
 .obtain⟨d,wo,C,q⟩:=x;obtain⟨R,T,p,b⟩:=hI;dsimp only at R T b G;subst R T;unfold aX;dsimp only;have X:=A81 C;have h5:=b.len;have O:=b.cnt;cases q with
  |nil=>
   rw[show decide ((0:Int)<(([]:List Int).length:Int))=false from rfl,A8];refine DN.2 ⟨b.len,b.t0,λj x hx=>⟨(b.low j x hx).1,?_⟩,b.pre,λi y r w A B=>?_⟩
   .have:=(b.low j x hx).2.2;omega
   .rcases b.clo i y r w A B with h|h<;>grind
  |cons j q=>
   have⟨j0,D,I,J,_⟩:=b.qin j AE;have h4:=(A3.1 I).1;obtain⟨r,Z⟩:∃r,d[j.toNat]?=some r:=⟨_,A1 oa⟩;have U:((j.toNat:Nat):Int)=j:=oa;rw[show decide ((0:Int)<((j::q).length:Int))=true from A7 oh,A6];refine DM.2 (EV.2 ⟨⟨oa,oh⟩,?_⟩);refine DM.2 (I8.2 ⟨⟨oa,oc,oa⟩,?_⟩);rw[show((j::q).getD 0 (0:Int))=j from rfl,BX,AQ,show(Int.toNat 1)=1 from rfl,List.drop_one,List.tail_cons];have K:at? d j=some r:=by rw[<-U];exact ER Z
   rw[K,A0];have eD:cA d.length C (j::q)=D:=by show C.getD j.toNat 0=D;rw[AJ,I];rfl
   rw[eD]at b;have b':Bf d t D C q (p+1) j.toNat 0:=by
    refine⟨b.len,oc,b.t0,λa l=>b.qin a (AN _ l),λi y g=>?_,b.pre,(List.pairwise_cons.1 b.srt).2,λi y Q w A B=>?_⟩
    .have:=b.low i y g;grind
    .by_cases e:i=j.toNat
     .grind
     .rw[if_neg e];rcases b.clo i y Q w A B with h|h<;>grind
   have m:=AOa W b' I J Z;rw[U]at m;refine DM.2 (m.mono λy hy=>?_);obtain⟨c,N⟩:=hy;obtain⟨s,E⟩:=y;dsimp only at c N;have L:=c.cnt;have M:=c.len;have h2:=A81 s;have h3:s.countP (λx=>decide (0<=x))<=s.length:=List.countP_le_length;rw[BL]at O;have V:C.countP (λx=>decide (0<=x))<=C.length:=List.countP_le_length;refine G _ ⟨rfl,rfl,p+1,⟨M,L,c.t0,λa l=>?_,λi x g=>?_,c.pre,c.srt,λi x Q w A B=>?_⟩⟩ oc
   .obtain⟨a0,x,k1,k2,k3⟩:=c.qin a l;refine⟨a0,x,k1,k2,?_⟩;dsimp only at l ⊢;cases E with
    |nil=>cases l
    |cons b E=>
     have⟨b0,z,H,m2,m3⟩:=c.qin b AE;have:cA d.length s (b::E)=z:=by show s.getD b.toNat 0=z;rw[AJ,H];rfl
     rw[this];rcases A_.1 l with rfl|l
     .grind
     .exact(List.pairwise_cons.1 c.srt).1 a l _ _ H k1
   .obtain⟨k1,k2,k3⟩:=c.low i x g;refine⟨k1,?_,k3⟩;dsimp only;cases E with
    |nil=>show x<=(d.length:Int)+1;omega
    |cons b E=>
     have⟨b0,z,H,m2,m3⟩:=c.qin b AE;have:cA d.length s (b::E)=z:=by show s.getD b.toNat 0=z;rw[AJ,H];rfl
     omega
   .rcases c.clo i x Q w A B with h|h<;>grind
 .dsimp only;have e0:cA nx.length o [(t:Int)]=0:=by show o.getD ((t:Int)).toNat 0=0;rw[AJ,BX,Y t ht,if_pos rfl];rfl
  rw[e0];have hv:∀(j:Nat) x,o[j]?=some x->(j=t/\x=0)\/(j≠t/\x= -1):=λj x g=>by grind
  refine⟨hl,?_,by rw[Y t ht,if_pos rfl],λj hj=>?_,λj x g=>?_,λj x g g0=>?_,D4 _ _,λi y r w A B=>?_⟩
  .have e:o=(List.replicate nx.length (-1)).set t 0:=by
    refine BR λi=>?_;rw[List.getElem?_set];by_cases hi:i<nx.length
    .grind
    .rw[CK oa,if_neg oa,CK oc]
   simp_all[A80,D3,if_pos,List.countP_replicate]
  .grind
  .grind
  .grind
  grind
 grind[decide,List.countP_le_length,fuel,List.length_singleton]
def A83(z:List Int)(e:z.length<=1048576):yQ (z,(z.length:Int),0)=some (List.replicate z.length (-1)):=by
 refine M1 (EZ (σ:=List Int) z.length (λo i=>(o,(z.length:Int),i)) (λi o=>o.length=z.length/\∀j,j<i->o[j]?=some (-1)) oa (λnext o i hi a b=>?_) (λnext o a=>?_) z ⟨rfl,λj h=>absurd h (Nat.not_lt_zero j)⟩)
 .unfold yP;dsimp only;rw[E1,A7 hi,A6,ET oa];refine DM.2 (EV.2 ⟨⟨oa,by rw[a.1];omega⟩,b _ ⟨oc,λj d=>?_⟩⟩);grind
 .unfold yP;dsimp only;rw[E1,A9 (AA _),A8];refine DN.2 (BR λj=>?_);grind
def A0_{nx:List (List Int)}(h:SM nx){t:Nat}(d:t<nx.length):Tot (aY (nx,(t:Int),-1)) (Dist nx t):=by
 have a:=h.1;unfold aY;dsimp only;rw[show mks? 24 (nx.length:Int) (nx.length:Int) (0:Int)=some (List.replicate nx.length 0)from ?_,A0]
 .have:=A83 (List.replicate nx.length 0) oc;rw[this,A0,B8,show DP (t:Int) (-1)=false from by rfl,A8];refine DM.2 (EV.2 ⟨⟨oa,oc⟩,?_⟩);refine DM.2 ((A82 h (by rw[B0,B8]) (λj e=>?_) d).mono λr b=>DN.2 b);grind
 grind[mks?,decide_eq_true]
theorem A84{l:List Int}{x:Int}:x∈Lib.compact l<->x∈l:=by
 unfold Lib.compact Lib.compactUpTo;have d:∀j (h:j<l.length),l.toArray[j]! =l[j]:=λj h=>oc;constructor
 .grind
 .intro h;obtain⟨j,m,rfl⟩:=List.mem_iff_getElem.1 h;refine B_.2 ?_;have:∀(n:Nat) (b:n<l.length),∃a,a∈(List.range l.length).filter (Lib.keeps l.toArray)/\l.toArray[a]! =l[n]:=by
   intro n;induction n with
   |zero=>exact λb=>⟨0,D8.2 ⟨CA.2 b,by simp[Lib.keeps]⟩,d 0 b⟩
   |succ n p=>
    intro b;by_cases e:l[n+1]=l[n]
    .grind
    .refine⟨n+1,D8.2 ⟨CA.2 b,?_⟩,d _ b⟩;refine Lib.keeps_pos ?_;grind
  exact this j m
theorem A85(l:List Int):(Lib.compact l).length<=l.length:=by grind[Lib.compact,Lib.compactUpTo,List.length_map,Nat.le_trans,List.length_filter_le]
section
variable{g:JG}{how:Int}{w:IH}(hw:WoOk g how w)(hg:GB g)(ho:GrOk g)
include hw hg ho
theorem A86{m:List Bool}(O:m.length=g.2.1.length)(c:M2)(A:0<g.2.2.1.length):
 Tot (bI (some w,c,if w.2.2.2.2.2=true then some m else none)) (λl=>l.length<=100000/\(∀j,j∈l<->Goes w m c j)/\∀j∈l,0<=j/\j<g.2.2.1.length):=by
 have J:=QK hw.fn c.2.1;rw[B2]at J;have E:g.1.length*g.2.1.length<=100000:=by have:=Nat.mul_le_mul ho.i ho.t;omega
 unfold bI;dsimp only;rw[DT];refine DO.2 ⟨λp=>?_,λp=>?_⟩
 .rw[A0];refine DN.2 ⟨oh,λj=>?_,λj z=>?_⟩
  .unfold Goes;rw[if_pos (AB p),AP];rfl
  .rw[AP]at z;subst z;exact J A
 .have p:=AG p;rw[A0];have⟨fl,G⟩:=hw.fit c.2.1;unfold IZ at fl G
  have key:Tot (z6 (some w,(if w.2.2.2.2.2=true then some m else none),c,([]:List Int),((DW DQ c.2.1 w.2.2.2.1).getD []),(((DW DQ c.2.1 w.2.2.2.1).getD []).length:Int),0))
   (λl=>l.length<=((DW DQ c.2.1 w.2.2.2.1).getD []).length/\∀j,j∈l<->∃t∈(DW DQ c.2.1 w.2.2.2.1).getD [],(w.2.2.2.2.2=false\/m[t.toNat]?=some true)/\j=QL w c.2.2.1 t):=by
   refine EZ (r:=mS) (σ:=List Int) ((DW DQ c.2.1 w.2.2.2.1).getD []).length (λs i=>(some w,(if w.2.2.2.2.2=true then some m else none),c,s,((DW DQ c.2.1 w.2.2.2.1).getD []),(((DW DQ c.2.1 w.2.2.2.1).getD []).length:Int),i))
    (λi l=>l.length<=i/\∀j,j∈l<->∃t∈((DW DQ c.2.1 w.2.2.2.1).getD []).take i,(w.2.2.2.2.2=false\/m[t.toNat]?=some true)/\j=QL w c.2.2.1 t) oa (λnext l i hi H C=>?_) (λnext l H=>?_) [] ⟨AD _,λj=>⟨λh=>(oq),λ⟨t,h,_⟩=>(oq)⟩⟩
   .obtain⟨T,K⟩:=H;unfold mS;dsimp only;have d:=A1 hi;have⟨t0,t1⟩:=G _ (AL hi);rw[E1,A7 hi,A6,ER d,A0,ET oa];generalize ((DW DQ c.2.1 w.2.2.2.1).getD [])[i]=t at d t0 t1 ⊢;have R:((t.toNat:Nat):Int)=t:=oa;obtain⟨b,D⟩:∃b,m[t.toNat]?=some b:=⟨_,A1 oa⟩;have B:nilM? (if w.2.2.2.2.2=true then some m else none)=some (!w.2.2.2.2.2):=by
     cases w.2.2.2.2.2 with
     |false=>rfl
     |true=>
      cases m with
      |nil=>grind
      |cons a m=>rfl
    rw[B,A0];have Q:(bif (!(!w.2.2.2.2.2))then at? ((if w.2.2.2.2.2=true then some m else none).getD []) t else some false)=some (w.2.2.2.2.2&&b):=by
     cases w.2.2.2.2.2 with
     |false=>rfl
     |true=>grind[at?,ER]
    rw[Q,A0,pG hw hg c t0 t1,A0];have I:((!w.2.2.2.2.2)||(w.2.2.2.2.2&&b))=true<->(w.2.2.2.2.2=false\/m[t.toNat]?=some true):=by rw[D];cases w.2.2.2.2.2<;>cases b<;>simp
    refine DO.2 ⟨λN=>DM.2 (F6.2 ⟨oc,C _ ⟨oc,λj=>?_⟩⟩),λN=>C _ ⟨oa,λj=>?_⟩⟩
    .rw[GH d,AZ,AP,K];grind
    .rw[GH d,K];grind
   .simp_all[mS,E1,A9,AA,A8,AQ,DN]
  refine DM.2 (key.mono λM ⟨U,L⟩=>?_);unfold slices_Sort_int slices_Compact_int;rw[A0,A0];have e:∀j,j∈Lib.compact (M.mergeSort λx y=>decide (x<=y))<->j∈M:=λj=>by grind[A84,List.mergeSort_perm]
  refine DN.2 ⟨?_,λj=>?_,λj z=>?_⟩
  .grind[A85,decide,List.length_mergeSort]
  .rw[e,L];unfold Goes;rw[if_neg p];rfl
  .rw[e,L]at z;obtain⟨t,_,_,rfl⟩:=z;exact A0Z hw _ _ A
end
def AOb(k:Nat)(o q:List Int)(i:Int)(t:List Int)(n m:Int):DX mW k (o,q,i,t,n,m)=DX WJ k (-1,o,q,i,t,n,m):=by
 have e:∀(next:List Int×List Int×Int×List Int×Int×Int->Option (List Int×List Int)) (a:Int×List Int×List Int×Int×List Int×Int×Int->Option (List Int×List Int)) (o q:List Int) (i:Int) (t:List Int) (n m:Int),
  (∀o q i t n m,next (o,q,i,t,n,m)=a (-1,o,q,i,t,n,m))->mW next (o,q,i,t,n,m)=WJ a (-1,o,q,i,t,n,m):=λnext a o q i t n m h=>by
  unfold mW WJ;dsimp only;simp only[h];cases decide (m<n)with
  |false=>rfl
  |true=>
   rw[A6,A6];cases at? t m with
   |none=>rfl
   |some y=>
    rw[A0,A0];cases hi:in? o.length y with
    |none=>rfl
    |some u=>
     have h0:0<=y:=by have:=(EV (Q:=λ_=>True)).1 ⟨u,hi,trivial⟩;exact this.1.1
     rw[A0,A0,show DP y (-1)=false from by grind[DT,decide_eq_false],CH,DK];rfl
 induction k generalizing o q i t n m with
 |zero=>rfl
 |succ k b=>exact e _ _ o q i t n m b
theorem AOc(k:Nat)(b:List (List Int))(o q:List Int):DX mX k (b,o,q)=DX aX k (b,-1,o,q):=by
 have e:∀(next:List (List Int)×List Int×List Int->Option (List Int)) (a:List (List Int)×Int×List Int×List Int->Option (List Int)) (b:List (List Int)) (o q:List Int),(∀b o q,next (b,o,q)=a (b,-1,o,q))->mX next (b,o,q)=aX a (b,-1,o,q):=λnext a b o q h=>by simp_all[mX,aX,zB,mA,AOb]
 induction k generalizing b o q with
 |zero=>rfl
 |succ k d=>exact e _ _ b o q d
def Ed(w:IH)(s:LB)(i:Nat)(j:Int):Prop:=s.2.1[i]?=some true/\∃(f:LA) (c:M2),w.1.2.2.1[i]?=some f/\c∈f.2.2.1/\P3 w c=true/\Goes w s.2.2.1 c j
def Rws(n:Nat)(b:List (List Int))(P:Nat->Int->Prop)(B:Nat):Prop:=b.length=n/\∀(k:Nat) (r:List Int),b[k]?=some r->r.length<=B/\∀x,x∈r<->P k x
def Rws.mono{n:Nat}{b:List (List Int)}{P Q:Nat->Int->Prop}{B C:Nat}(h:Rws n b P B)(h1:∀k x,k<n->(P k x<->Q k x))(d:B<=C):Rws n b Q C:=
 ⟨h.1,λk r a=>⟨AM (h.2 k r a).1 d,λx=>((h.2 k r a).2 x).trans (h1 k x (by rw[<-h.1];grind))⟩⟩
def A0a{n:Nat}{b:List (List Int)}{P:Nat->Int->Prop}{B:Nat}(h:Rws n b P B)(k:Nat)(hk:k<n)(x:Int):Rws n (b.set k (b.getD k []++[x])) (λj y=>P j y\/(j=k/\y=x)) (B+1):=by
 refine⟨by rw[B0];exact h.1,λj r d=>?_⟩;have a:k<b.length:=by rw[h.1];exact hk
 rw[List.getElem?_set]at d;by_cases e:k=j
 .subst e;rw[if_pos rfl,if_pos a]at d;cases d;have m:b.getD k []=b[k]:=by rw[AJ,A1 a];rfl
  have⟨h1,l⟩:=h.2 k _ (A1 a);grind
 .rw[if_neg e]at d;have⟨h1,l⟩:=h.2 j r d;grind
def AOd{n:Nat}(i:Int)(l:List Int)(H:l.length<=100000)(D:∀j∈l,0<=j/\j<n){b:List (List Int)}{P:Nat->Int->Prop}{B:Nat}(G:B+100000<=1099511627776)(h:Rws n b P B):
 Tot (z7 (b,i,l,(l.length:Int),0)) (λa=>Rws n a (λk x=>P k x\/(x=i/\(k:Int)∈l)) (B+100000)):=by
 refine EZ (r:=mT) (σ:=List (List Int)) l.length (λs k=>(s,i,l,(l.length:Int),k)) (λm a=>Rws n a (λk x=>P k x\/(x=i/\(k:Int)∈l.take m)) (B+m)) oa (λnext a m w e y=>?_) (λnext a e=>?_) b (h.mono (λk x _=>oh) oa)
 .unfold mT;dsimp only;have d:=A1 w;have⟨z,E⟩:=D _ (AL w);rw[E1,A7 w,A6,ER d,A0,ET oa];generalize l[m]=j at d z E ⊢;have p:j.toNat<a.length:=by rw[e.1];omega
  have A:a.getD j.toNat []=a[j.toNat]:=by rw[AJ,A1 p];rfl
  have C:=(e.2 _ _ (A1 p)).1;refine DM.2 (EV.2 ⟨⟨z,oa⟩,DM.2 (F6.2 ⟨oc,DM.2 (EV.2 ⟨⟨z,oa⟩,?_⟩)⟩)⟩);rw[show Nat.beq j.toNat j.toNat=true from CM _,A6,A0];refine y _ ((A0a e j.toNat oa i).mono (λk x hk=>?_) (AD _));rw[GH d,AZ,AP];grind
 .unfold mT;dsimp only;rw[E1,A9 (AA _),A8];rw[AQ]at e;exact DN.2 (e.mono (λ_ _ _=>Iff.rfl) oa)
section
variable{g:JG}{how:Int}{w:IH}(hw:WoOk g how w)(hg:GB g)(ho:GrOk g){s:LB}(hs:SpOk w s)
include hw hg ho hs
omit hw hg ho in
theorem A87:bH (some w,some s)=some (if w.2.2.2.2.2=true then some s.2.2.1 else none):=by unfold bH;grind
theorem AOe{t:Nat}(X:t<g.2.2.1.length):Tot (mY (some w,some s,(t:Int))) (λd=>∃nx,Dist nx t d/\nx.length=g.2.2.1.length/\∀(k:Nat) r x,nx[k]?=some r->(x∈r<->∃i:Nat,x=(i:Int)/\Ed w s i (k:Int))):=by
 have D:=hw.gr;have hn:=ho.f;have N:=hs.fl;have J:=hs.ml;rw[D]at N J;unfold mY;dsimp only;rw[A0,D];have mk:∀{α:Type} (z:α),mks? 24 (g.2.2.1.length:Int) (g.2.2.1.length:Int) z=some (List.replicate g.2.2.1.length z):=λz=>by grind[mks?,decide_eq_true]
 rw[mk,A0,A0,D];have h0:Rws g.2.2.1.length (List.replicate g.2.2.1.length ([]:List Int)) (λ_ _=>False) 0:=⟨B8,λk r L=>by grind⟩
 have key:Tot (z8 (some w,some s,List.replicate g.2.2.1.length ([]:List Int),g.2.2.1,(g.2.2.1.length:Int),0)) (λb=>Rws g.2.2.1.length b (λk x=>∃i:Nat,x=(i:Int)/\Ed w s i (k:Int)) 60000000000):=by
  refine EZ (r:=mV) (σ:=List (List Int)) g.2.2.1.length (λb i=>(some w,some s,b,g.2.2.1,(g.2.2.1.length:Int),i)) (λm b=>Rws g.2.2.1.length b (λk x=>∃i:Nat,i<m/\x=(i:Int)/\Ed w s i (k:Int)) (20000000*m)) oa (λnext b m Q A a=>?_) (λnext b A=>?_) _ (h0.mono (λk x _=>⟨λh=>h.elim,λ⟨i,h,_⟩=>absurd h (Nat.not_lt_zero _)⟩) oa)
  .unfold mV;dsimp only;have M:=A1 Q;have W:=ho.calls _ (AL Q);obtain⟨U,C⟩:∃b,s.2.1[m]?=some b:=⟨_,A1 oa⟩;rw[E1,A7 Q,A6,ER M,A0,A0,ER C,A0,ET oa];cases U with
   |false=>
    refine a _ (A.mono (λk x _=>⟨λ⟨i,h,V⟩=>⟨i,oa,V⟩,λ⟨i,h1,y,B⟩=>⟨i,?_,y,B⟩⟩) oa);have:i≠m:=λe=>by subst e;rw[B.1]at C;cases C
    omega
   |true=>
    refine DM.2 (Tot.mono (P:=λG=>Rws g.2.2.1.length G (λk x=>(∃i:Nat,i<m/\x=(i:Int)/\Ed w s i (k:Int))\/(x=(m:Int)/\∃c∈g.2.2.1[m].2.2.1,P3 w c=true/\Goes w s.2.2.1 c (k:Int))) (20000000*m+20000000)) ?_ λG H=>a G (H.mono (λk x _=>?_) oa))
    .refine EZ (r:=mU) (σ:=List (List Int)) g.2.2.1[m].2.2.1.length (λb i=>(some w,some s,b,(m:Int),g.2.2.1[m].2.2.1,(g.2.2.1[m].2.2.1.length:Int),i)) (λu G=>Rws g.2.2.1.length G (λk x=>(∃i:Nat,i<m/\x=(i:Int)/\Ed w s i (k:Int))\/(x=(m:Int)/\∃c∈g.2.2.1[m].2.2.1.take u,P3 w c=true/\Goes w s.2.2.1 c (k:Int))) (20000000*m+100000*u))
      oa (λnext b u T A a=>?_) (λnext b A=>?_) _ (A.mono (λk x _=>oh) oa)
     .unfold mU;dsimp only;have p:=A1 T;rw[E1,A7 T,A6,ER p,A0,A0,ET oa,A87 hs,A0];generalize g.2.2.1[m].2.2.1[u]=c at p ⊢;refine DO.2 ⟨λK=>?_,λK=>a _ (A.mono (λk x _=>?_) oa)⟩
      .refine DM.2 ((A86 hw hg ho J c oa).mono λl ⟨Y,Z,l3⟩=>?_);refine DM.2 ((AOd (m:Int) l Y l3 oa A).mono λG H=>a G (H.mono (λk x _=>?_) oa));rw[Z,GH p];constructor
       .rintro((h|⟨h1,c',y,B⟩)|⟨h1,y⟩)
        .exact .inl h
        .grind
        .exact .inr ⟨h1,c,BP _ (AP.2 rfl),K,y⟩
       grind
      .rw[GH p];simp_all[BV,AZ,AP,P3]
     .unfold mU;dsimp only;rw[E1,A9 (AA _),A8];rw[AQ]at A;exact DN.2 (A.mono (λ_ _ _=>Iff.rfl) oa)
    .constructor
     .rintro(⟨i,h1,y⟩|⟨h1,c,y,B,R⟩)
      .grind
      .exact⟨m,oa,h1,C,_,c,oc,y,B,R⟩
     .rintro⟨i,h1,y,B⟩;by_cases e:i=m
      .subst e;obtain⟨_,f,c,R,h5,h6,h7⟩:=B;grind
      grind
  .unfold mV;dsimp only;rw[E1,A9 (AA _),A8];refine DN.2 (A.mono (λk x _=>⟨λ⟨i,_,h⟩=>⟨i,h⟩,λ⟨i,h1,y⟩=>⟨i,?_,h1,y⟩⟩) oa);have:=(A3.1 y.1).1;omega
 refine DM.2 (key.mono λb E=>?_);rw[A0,D,mk,A0];have I:zA (List.replicate g.2.2.1.length (0:Int),((List.replicate g.2.2.1.length (0:Int)).length:Int),0)=some (List.replicate g.2.2.1.length (-1)):=by have:=A83 (List.replicate g.2.2.1.length 0) oc;rw[B8]at this ⊢;exact this
 rw[I,A0];refine DM.2 (EV.2 ⟨⟨oa,oc⟩,?_⟩);have a:SM b:=⟨by rw [E.1]; omega,λr L=>by obtain⟨k,hk,rfl⟩:=List.mem_iff_getElem.1 L;have⟨h1,y⟩:=E.2 k _ (A1 hk);refine⟨oa,λj O=>?_⟩;obtain⟨i,rfl,B⟩:=(y j).1 O;have:=(A3.1 B.1).1;rw[E.1];omega⟩
 unfold zC;rw[AOc];refine DM.2 ((A82 a (t:=t) (by rw[B0,B8,E.1]) (λj O=>?_) (by rw[E.1];exact X)).mono λr L=>DN.2 ⟨b,L,E.1,λk r x hk=>(E.2 k r hk).2 x⟩);rw[E.1]at O;grind
end
abbrev pI:=(DL×Int)×DL
abbrev cB:=DL×List pI×List (DL×DL)
def KV{α:Type}{l:List α}{i:Int}(h0:0<=i)(h1:i<l.length):∃x,at? l i=some x/\l[i.toNat]?=some x:=by have⟨x,a,b⟩:=EI (Q:=λx=>l[i.toNat]?=some x).2 ⟨⟨h0,h1⟩,λx h=>h⟩;grind
section
variable{g:JG}{how:Int}{w:IH}(hw:WoOk g how w)(hg:GB g)(ho:GrOk g){s:LB}(hs:SpOk w s)
include hw hg ho hs
theorem AOf{d:List Int}(hd:d.length=g.2.2.1.length){f:Nat}{x:Int}(Y:d[f]?=some x)(hb:-4611686018427387904<=x/\x<=4611686018427387904){i:Nat}(hi:d[i]?=some (x-1))(X:Ed w s f (i:Int)):
 Tot (m_ (some w,some s,d,(f:Int))) (λq=>∃j:Nat,q.2.2=(j:Int)/\d[j]?=some (x-1)):=by
 have e:=hw.gr;have B:=hs.ml;rw[e]at B;obtain⟨_,fn,c0,A,e2,e3,e4⟩:=X;rw[e]at A;have Z:=(A3.1 A).1;have W:=ho.calls fn (AH A);have hn:=ho.f;unfold m_;dsimp only;rw[A0,e,ER A,A0];refine DM.2 (Tot.mono (P:=λr=>match r with| .inl _=>False| .inr q=>∃j:Nat,q.2.2=(j:Int)/\d[j]?=some (x-1)) ?_ λr O=>?_)
 .refine EZ (r:=zD) (σ:=pI×M2) fn.2.2.1.length (λz u=>(some w,some s,d,(f:Int),z.1,z.2,fn.2.2.1,(fn.2.2.1.length:Int),u)) (λu _=>∀c∈fn.2.2.1.take u,P3 w c=true->∀j,Goes w s.2.2.1 c j->d[j.toNat]?≠some (x-1))
   oa (λnext z u Q V C=>?_) (λnext z V=>?_) ((([],0),[]),(0,[],[],[])) (λc h=>oq)
  .unfold zD;dsimp only;have p:=A1 Q;rw[E1,A7 Q,A6,ER p,A0,A0,ET oa];generalize fn.2.2.1[u]=c at p ⊢;refine DO.2 ⟨λK=>C _ λU a E=>?_,λK=>?_⟩
   .rw[GH p]at a;rcases AZ.1 a with a|a
    .grind
    grind[List.mem_singleton,P3]
   .rw[A87 hs,A0];refine DM.2 ((A86 hw hg ho B c oa).mono λl ⟨l1,l2,l3⟩=>?_);refine DM.2 (Tot.mono (P:=λr=>match r with| .inl z=>∀j∈l,d[j.toNat]?≠some (x-1)| .inr q=>∃j:Nat,q.2.2=(j:Int)/\d[j]?=some (x-1)) ?_ λN O=>?_)
    .refine EZ (r:=mZ) (σ:=Unit) l.length (λ_ m=>(some w,d,(f:Int),z.1,z.2,(u:Int),c,l,(l.length:Int),m)) (λm _=>∀j∈l.take m,d[j.toNat]?≠some (x-1)) oa (λnext _ m J H D=>?_) (λnext _ H=>?_) () (λj h=>oq)
     .unfold mZ;dsimp only;have b:=A1 J;have⟨M,R⟩:=l3 _ (AL J);rw[E1,A7 J,A6,ER b,A0,ET oa];generalize l[m]=j at b M R ⊢;have⟨y,hy,h2⟩:=KV (l:=d) M oa;rw[hy,A0,ER Y,A0,EH oa oa,DT];refine DO.2 ⟨λG=>?_,λG=>D () λj' I=>?_⟩
      .have G:=AB G;subst G;have⟨y2,L,_⟩:=KV (l:=g.2.2.1) M R;rw[A0,e,ER A,A0,A0,e,L,A0];grind[DN]
      .rw[GH b]at I;grind
     simp_all[mZ,E1,A9,AA,A8,AQ,DN]
    .cases N with
     |inl T=>refine C (T.1,T.2) λU a E j hj=>?_;rw[GH p]at a;grind
     |inr q=>exact DN.2 O
  grind
 grind[DN]
theorem AOg(c:M2)(j:Int):Tot (nB (some w,some s,c,j)) (λ_=>True):=by
 have h:=hw.gr;have b:=hs.ml;rw[h]at b;have a:g.1.length*g.2.1.length<=100000:=by have:=Nat.mul_le_mul ho.i ho.t;omega
 have⟨fl,e⟩:=hw.fit c.2.1;unfold IZ at fl e;unfold nB;dsimp only;rw[A0];refine DM.2 ((EZ (r:=nA) (σ:=Unit) ((DW DQ c.2.1 w.2.2.2.1).getD []).length (λ_ i=>(some w,some s,j,c,((DW DQ c.2.1 w.2.2.2.1).getD []),(((DW DQ c.2.1 w.2.2.2.1).getD []).length:Int),i)) (λ_ _=>True) (Q:=λ_=>True) oa (λnext _ i hi _ d=>?_) (λnext _ _=>?_) () trivial).mono λq _=>?_)
 .unfold nA;dsimp only;have⟨t0,t1⟩:=e _ (AL hi);rw[E1,A7 hi,A6,ER (A1 hi),A0,A0,ET oa];generalize ((DW DQ c.2.1 w.2.2.2.1).getD [])[i]=t at t0 t1 ⊢;have⟨y,l,_⟩:=KV (l:=s.2.2.1) t0 oa;rw[l,A0,pG hw hg c t0 t1];refine DM.2 (Tot.mono (P:=λ_=>True) (DO.2 ⟨λ_=>DN.2 trivial,λ_=>DN.2 trivial⟩) λr _=>DO.2 ⟨λ_=>?_,λ_=>d () trivial⟩);have⟨p,m,_⟩:=KV (l:=g.2.1) t0 t1;simp_all[A0,DN,trivial]
 .simp_all[nA,E1,A9,AA,A8,DN,trivial]
 .cases q<;>exact DN.2 trivial
theorem AOh(t:DL):Tot (nD (some w,some s,t)) (λ_=>True):=by
 have h:=hw.gr;have a:=hs.fl;rw[h]at a;have e:=ho.f;unfold nD;dsimp only;rw[A0,h];refine DM.2 ((EZ (r:=nC) (σ:=Unit) g.2.2.1.length (λ_ i=>(some s,t,g.2.2.1,(g.2.2.1.length:Int),i)) (λ_ _=>True) (Q:=λ_=>True) oa (λnext _ i hi _ b=>?_) (λnext _ _=>?_) () trivial).mono λq _=>?_)
 .unfold nC;dsimp only;have⟨y,d,_⟩:=KV (l:=s.2.1) (i:=(i:Int)) oa oa;rw[E1,A7 hi,A6,ER (A1 hi),A0,A0,d,A0,ET oa];refine DM.2 (Tot.mono (P:=λ_=>True) (DO.2 ⟨λ_=>(oX _ (hg.f1 _ (AL hi)).2.2.2.1).mono λ_ _=>trivial,λ_=>DN.2 trivial⟩) λr _=>DO.2 ⟨λ_=>DN.2 trivial,λ_=>b () trivial⟩)
 .simp_all[nC,E1,A9,AA,A8,DN,trivial]
 .cases q<;>exact DN.2 trivial
theorem AOi{nx:List (List Int)}{t:Nat}{d:List Int}(l:Dist nx t d)(D:nx.length=g.2.2.1.length)(E:∀(k:Nat) r x,nx[k]?=some r->(x∈r<->∃i:Nat,x=(i:Int)/\Ed w s i (k:Int))){j:Int}(b:Rch w s.2.1 s.2.2.1 j):
 (0<=j/\∃x,d[j.toNat]?=some x/\0<=x)->∃e∈g.2.2.2,∃x,d[(GE w.2.1 e).toNat]?=some x/\0<=x:=by
 have B:=hw.gr;induction b with
 |entry e h=>grind
 |step i f c j h1 m p z A I J=>rintro⟨K,x,k1,G⟩;have a:=(A3.1 k1).1;rw[l.len]at a;have b:=A1 a;have H:((j.toNat:Nat):Int)=j:=oa;have C:=((E _ _ (i:Int) b).2 ⟨i,rfl,m,f,c,p,z,A,oc⟩);have⟨y,L,M,_⟩:=l.clo j.toNat x _ k1 G b _ C;simp_all
end
theorem A88{b:Type}(s:DL)(v:b):∀m:List (DL×b),(EB DQ s v m).map (·.1)=if s∈m.map (·.1)then m.map (·.1)else m.map (·.1)++[s]:=by
 intro m;induction m with
 |nil=>rfl
 |cons a m d=>simp only[EB];rw[E0];grind
def AOj{a:Type}{s:DL}{v:a}{m:List (DL×a)}(h:(m.map (·.1)).Nodup):((EB DQ s v m).map (·.1)).Nodup:=by rw[A88];grind
def AOk{a:Type}(s:DL)(v:a)(m:List (DL×a)):(EB DQ s v m).length<=m.length+1:=by have h:=congrArg List.length (A88 s v m);grind
def A89{a b:List (DL×DL)}(m:a.Perm b)(A:(b.map (·.1)).Nodup):∃r,r.length=b.length/\fR (a,(λx=>(SB x).bind λr=>some r))=some r/\fR (b,(λx=>(SB x).bind λr=>some r))=some r:=by
 have l:∀x y:DL×DL,(λx=>(SB x).bind λr=>some r) (x,y)=some (JF x.1 y.1):=λx y=>by grind[SB,X7]
 have⟨w,h1,p1,D⟩:=A79 a (λx=>(SB x).bind λr=>some r) (λx=>x.1) l;have⟨G,z,p,E⟩:=A79 b (λx=>(SB x).bind λr=>some r) (λx=>x.1) l;have s:∀r:List (DL×DL),r.Perm b->r.Pairwise (λa b=>¬b.1<a.1)->r.Pairwise (λa b=>a.1<b.1):=λr C B=>by
  have h:(r.map (·.1)).Nodup:=((C.map (·.1)).nodup_iff).2 A;have h:=List.pairwise_map.1 h;exact(List.Pairwise.and B h).imp λ{a b} ⟨d,j⟩=>by grind
 have e:w=G:=List.Perm.eq_of_pairwise (le:=λx y:DL×DL=>x.1<y.1) (λa b _ _ d j=>absurd j (oQ d)) (s _ (p1.trans m) D) (s _ p E) ((p1.trans m).trans p.symm);subst e;exact⟨w,p.length_eq,h1,z⟩
def AOl:∀(o:List (DL×DL)) (a:DL) (h:List pI) (m:List (DL×DL)),m.length+o.length<=1048576->FF WP o (a,(h,m))=some (.inl (a,(h,m++o))):=by
 intro o;induction o with
 |nil=>grind[FF]
 |cons k o j=>
  intro a h m b;rw[BL]at b;have e:app? 48 m [k]=some (m++[k]):=M1 (F6.2 ⟨oc,rfl⟩);have d:WP k (a,(h,m))=some (.inl (a,(h,m++[k]))):=by unfold WP;dsimp only;rw[e,A0]
  unfold FF;grind
abbrev QN:=IW×Int×List (List Int)×List (List Int)
def P4(b:IW)(sc:Int)(ix:List (DL×Int))(l:List SJ)(k x:Int):Prop:=∃e∈l,e.2.2<=sc/\GE ix e.1=k/\GE ix e.2.1=x
structure GpOk(b:IW)(sc:Int)(g:QN):Prop where
 bl:g.1=b
 root:0<=g.2.1/\g.2.1<b.2.2.2.1.length
 ix:∃ix,P2 ix (b.2.2.2.1.map (·.1))/\g.2.1=GE ix b.2.2.1/\Rws b.2.2.2.1.length g.2.2.1 (λk x=>P4 b sc ix b.2.2.2.2 (k:Int) x) 20000/\Rws b.2.2.2.1.length g.2.2.2 (λk x=>P4 b sc ix b.2.2.2.2 x (k:Int)) 20000
theorem AOm{n:Nat}{l:List (List Int)}{P:Nat->Int->Prop}{B:Nat}(h:Rws n l P B)(k:Nat)(hk:k<n){r:List Int}(h1:∀x,x∈r<->x∈l.getD k [])(p:r.length<=(l.getD k []).length):Rws n (l.set k r) P B:=by
 refine⟨by rw[B0];exact h.1,λd m b=>?_⟩;have a:k<l.length:=by rw[h.1];exact hk
 rw[List.getElem?_set]at b;by_cases e:k=d
 .subst e;rw[if_pos rfl,if_pos a]at b;cases b;have j:l.getD k []=l[k]:=by rw[AJ,A1 a];rfl
  have⟨s,w⟩:=h.2 k _ (A1 a);grind
 .rw[if_neg e]at b;exact h.2 d m b
def A8A(b:IW)(I:BlOk b)(sc:Int):Tot (m7 (b,sc)) (GpOk b sc):=by
 have hn:=I.few;have N:=I.edges;have Z:0<b.2.2.2.1.length:=by have:=List.length_pos_of_mem I.root;rwa[B2]at this
 unfold m7;dsimp only
 refine DM.2 ((SL (σ:=List (DL×Int)) (α:=F3) b.2.2.2.1 (λs i=>(s,b.2.2.2.1,(b.2.2.2.1.length:Int),i)) (λm i y=>EB DQ y.1 (i:Int) m) (λm=>m)
  (λi m=>P2 m ((b.2.2.2.1.take i).map (·.1))) oa (λnext s i y h=>?_) (λnext s=>?_) [] A0X (λm i y h hj=>?_)).mono λix j=>?_)
 .have a:=(A3.1 h).1;unfold yO;dsimp only;rw[E1,A7 a,A6,ER h,A0,ET oa]
 .simp_all[yO,E1,A9,AA,A8]
 .exact zd
 obtain⟨h5,rfl,j⟩:=j;rw[AQ]at j;have mk:mks? 24 (b.2.2.2.1.length:Int) (b.2.2.2.1.length:Int) ([]:List Int)=some (List.replicate b.2.2.2.1.length []):=by unfold mks?;rw[A7 (show(0:Int)≤(b.2.2.2.1.length:Int) by omega),A7 (show(b.2.2.2.1.length:Int)≤(b.2.2.2.1.length:Int) by omega),A7 (show(b.2.2.2.1.length:Int).toNat*24≤70368744177664 by omega)];rfl
 rw[mk,A0,A0];have h0:∀ P:Nat->Int->Prop,(∀ k x,¬ P k x)->Rws b.2.2.2.1.length (List.replicate b.2.2.2.1.length ([]:List Int)) P 0:=λP hP=>⟨B8,λk r hr=>by grind⟩
 have z:∀s,0<=GE ix s/\GE ix s<b.2.2.2.1.length:=λs=>by have:=QK j s;grind
 refine DM.2 (Tot.mono (P:=λg:QN=>g.1=b/\g.2.1=GE ix b.2.2.1/\Rws b.2.2.2.1.length g.2.2.1 (λk x=>P4 b sc ix b.2.2.2.2 (k:Int) x) 20000/\Rws b.2.2.2.1.length g.2.2.2 (λk x=>P4 b sc ix b.2.2.2.2 x (k:Int)) 20000) ?_ λg J=>?_)
 .refine EZ (r:=l_) (σ:=QN) b.2.2.2.2.length (λg i=>(sc,ix,g,b.2.2.2.2,(b.2.2.2.2.length:Int),i)) (λi g=>g.1=b/\g.2.1=GE ix b.2.2.1/\Rws b.2.2.2.1.length g.2.2.1 (λk x=>P4 b sc ix (b.2.2.2.2.take i) (k:Int) x) i/\Rws b.2.2.2.1.length g.2.2.2 (λk x=>P4 b sc ix (b.2.2.2.2.take i) x (k:Int)) i)
   oa (λnext g i hi d D=>?_) (λnext g d=>?_) _ ⟨rfl,rfl,h0 _ λk x ⟨e,h,_⟩=>(oq),h0 _ λk x ⟨e,h,_⟩=>(oq)⟩
  .obtain⟨E,G,A,B⟩:=d;unfold l_;dsimp only;have p:=A1 hi;rw[E1,A7 hi,A6,ER p,A0,ET oa];generalize b.2.2.2.2[i]=e at p ⊢;refine DO.2 ⟨λl=>?_,λl=>?_⟩
   .have l:=AB l;refine D _ ⟨E,G,A.mono (λk x _=>?_) oa,B.mono (λk x _=>?_) oa⟩
    all_goals
     unfold P4;rw[GH p];constructor
     .rintro⟨C,h1,w⟩;exact⟨C,BV _ h1,w⟩
     .rintro⟨C,h1,w,H⟩;rcases AZ.1 h1 with h1|h1
      .exact⟨C,h1,w,H⟩
      .rw[AP]at h1;subst h1;omega
   .have l:=AG l;have⟨M,a1⟩:=z e.1;have⟨c0,c1⟩:=z e.2.1;have O:(DW DQ e.1 ix).getD 0=GE ix e.1:=rfl;have Q:(DW DQ e.2.1 ix).getD 0=GE ix e.2.1:=rfl;rw[O,Q];have K:=A.1;have L:=B.1;have X:(g.2.2.1.getD (GE ix e.1).toNat []).length≤i:=by have a:(GE ix e.1).toNat<g.2.2.1.length:=oa;rw[AJ,A1 a];exact(A.2 _ _ (A1 a)).1
    have Y:(g.2.2.2.getD (GE ix e.2.1).toNat []).length<=i:=by have a:(GE ix e.2.1).toNat<g.2.2.2.length:=oa;rw[AJ,A1 a];exact(B.2 _ _ (A1 a)).1
    refine DM.2 (EV.2 ⟨⟨M,oa⟩,DM.2 (F6.2 ⟨oc,DM.2 (EV.2 ⟨⟨c0,oa⟩,DM.2 (F6.2 ⟨oc,DM.2 (EV.2 ⟨⟨M,oa⟩,?_⟩)⟩)⟩)⟩)⟩);rw[show Nat.beq (GE ix e.1).toNat (GE ix e.1).toNat=true from CM _,A6,A0];refine DM.2 (EV.2 ⟨⟨c0,oa⟩,?_⟩);rw[show Nat.beq (GE ix e.2.1).toNat (GE ix e.2.1).toNat=true from CM _,A6,A0];refine D _ ⟨E,G,(A0a A _ oa _).mono (λk x _=>?_) oa,(A0a B _ oa _).mono (λk x _=>?_) oa⟩
    all_goals
     unfold P4;rw[GH p];constructor
     .rintro(⟨C,h1,w⟩|⟨h1,w⟩)
      .exact⟨C,BV _ h1,w⟩
      .exact⟨e,BP _ (AP.2 rfl),oa,oa,oa⟩
     .rintro⟨C,h1,w,H,W⟩;rcases AZ.1 h1 with h1|h1
      .exact .inl ⟨C,h1,w,H,W⟩
      .rw[AP]at h1;subst h1;exact .inr ⟨oa,oa⟩
  .unfold l_;dsimp only;rw[E1,A9 (AA _),A8];rw[AQ]at d;exact DN.2 ⟨d.1,d.2.1,d.2.2.1.mono (λ_ _ _=>Iff.rfl) N,d.2.2.2.mono (λ_ _ _=>Iff.rfl) N⟩
 .obtain⟨R,T,U,V⟩:=J;refine DM.2 (Tot.mono (P:=GpOk b sc) ?_ λg J=>DN.2 J)
  refine EZ (r:=m6) (σ:=QN) b.2.2.2.1.length (λg i=>(g,(b.2.2.2.1.length:Int),i)) (λ_ g=>g.1=b/\g.2.1=GE ix b.2.2.1/\Rws b.2.2.2.1.length g.2.2.1 (λk x=>P4 b sc ix b.2.2.2.2 (k:Int) x) 20000/\Rws b.2.2.2.1.length g.2.2.2 (λk x=>P4 b sc ix b.2.2.2.2 x (k:Int)) 20000)
   oa (λnext g i hi d D=>?_) (λnext g d=>?_) _ ⟨R,T,U,V⟩
  .obtain⟨E,G,A,B⟩:=d;unfold m6 slices_Compact_int;dsimp only;have K:=A.1;have L:=B.1;rw[E1,A7 hi,A6,ET oa];refine DM.2 (EV.2 ⟨⟨oa,oa⟩,?_⟩);rw[A0];refine DM.2 (EV.2 ⟨⟨oa,oa⟩,?_⟩);rw[A0];refine DM.2 (EV.2 ⟨⟨oa,oa⟩,?_⟩);rw[show Nat.beq (i:Int).toNat (i:Int).toNat=true from CM _,A6,A0];refine DM.2 (EV.2 ⟨⟨oa,oa⟩,?_⟩);rw[A0];grind[AOm,A84,A85]
  .unfold m6;dsimp only;rw[E1,A9 (AA _),A8];obtain⟨E,G,A,B⟩:=d;exact DN.2 ⟨E,oc,ix,j,G,A,B⟩
def AOn(l:List Int)(f:Int->Option Bool)(P:Int->Prop)(x:l.length<=1099511627776)(m:∀j∈l,∃c,f j=some c/\(c=true<->P j))(w:∃j∈l,P j):Tot (mB (l,f)) (λr=>∃n:Nat,r=(n:Int)/\∃j,l[n]?=some j/\P j):=by
 unfold mB;dsimp only;refine DM.2 (Tot.mono (P:=λq:Sum Unit Int=>match q with| .inl _=>False| .inr r=>∃n:Nat,r=(n:Int)/\∃j,l[n]?=some j/\P j) ?_ λq y=>?_)
 .refine EZ (r:=yT) (σ:=Unit) l.length (λ_ i=>(l,f,(l.length:Int),i)) (λi _=>∀j∈l.take i,¬P j) oa (λnext _ i hi e s=>?_) (λnext _ e=>?_) () (λj h=>oq)
  .unfold yT;dsimp only;have a:=A1 hi;have⟨c,b,d⟩:=m _ (AL hi);rw[E1,A7 hi,A6,ER a,A0,ET oa,b,A0];refine DO.2 ⟨λh=>DN.2 ⟨i,rfl,_,a,d.1 h⟩,λh=>s () λj p=>?_⟩;rw[GH a]at p;grind
  grind
 grind[DN]
def A8B{b:IW}{sc:Int}{g:QN}(hg:GpOk b sc g)(hn:b.2.2.2.1.length<=3000){t:Nat}(ht:t<b.2.2.2.1.length):Tot (aZ (g,(t:Int))) (λl=>l.length<=3001/\∀j∈l,0<=j/\j<b.2.2.2.1.length):=by
 obtain⟨h5,E,ix,M,h8,Z,hi⟩:=hg;have m:∀s,0<=GE ix s/\GE ix s<b.2.2.2.1.length:=λs=>by have:=QK M s;grind
 have Q:SM g.2.2.2:=⟨by rw [hi.1]; omega,λr hr=>by obtain⟨k,hk,rfl⟩:=List.mem_iff_getElem.1 hr;have⟨h1,h2⟩:=hi.2 k _ (A1 hk);refine⟨oa,λj C=>?_⟩;have⟨e,_,_,h3,_⟩:=(h2 j).1 C;rw[<-h3,hi.1];exact m _⟩
 unfold aZ;dsimp only;refine DM.2 ((A0_ Q (t:=t) (by rw[hi.1];exact ht)).mono λd G=>?_);have h4:d.length=b.2.2.2.1.length:=G.len.trans hi.1;have er:((g.2.1.toNat:Nat):Int)=g.2.1:=oa;have⟨x0,T,p⟩:=KV (l:=d) E.1 oa;rw[T,A0];refine DO.2 ⟨λ_=>DN.2 ⟨oh,λj h=>oq⟩,λw=>?_⟩;have w:=AG w;have H:=(G.low _ _ p).2;rw[hi.1]at H;refine DM.2 (Tot.mono (P:=λl:List Int=>l.length<=3001/\∀j∈l,0<=j/\j<b.2.2.2.1.length) ?_ λl hl=>DN.2 hl)
 refine ES (R:=λl:List Int=>l.length<=3001/\∀j∈l,0<=j/\j<b.2.2.2.1.length) (λz:Int×QN×List Int×List Int×Int=>z.1=(t:Int)/\z.2.1=g/\z.2.2.1=d/\(∀j∈z.2.2.2.1,0<=j/\j<b.2.2.2.1.length)/\∃i:Nat,z.2.2.2.2=(i:Int)/\∃x:Int,d[i]?=some x/\0<=x/\(z.2.2.2.1.length:Int)+x<=3001) (λz=>(d.getD z.2.2.2.2.toNat 0).toNat)
  (λnext z hI D=>?_) fuel ((t:Int),g,d,([g.2.1]:List Int),g.2.1) ⟨rfl,rfl,rfl,λj C=>?_,g.2.1.toNat,oc,x0,p,oa,oc⟩ ?_
 .obtain⟨t',g',d',o,i'⟩:=z;obtain⟨i1,J,K,i4,i,i5,x,I,i7,i8⟩:=hI;dsimp only at i1 J K i4 i5 i8 D;have J:=J.symm;have K:=K.symm;subst i1 J K i5;have U:d.getD (i:Int).toNat 0=x:=by rw[AJ,BX,I];rfl
  rw[U]at D;have h6:=(A3.1 I).1;unfold mC;dsimp only;rw[DT];refine DO.2 ⟨λL=>?_,λL=>DN.2 ⟨oa,i4⟩⟩;have L:¬(i:Int)=(t:Int):=by simpa using L
  rcases G.pre i x I i7 with⟨_,e⟩|⟨k,y,r,p1,p2,p3,p4,p5⟩
  .omega
  .have h7:=(A3.1 p1).1;have hE:=((hi.2 k r p4).2 (i:Int)).1 p5;have R:i<g.2.2.1.length:=by rw[Z.1];omega
   obtain⟨row,A⟩:∃row,g.2.2.1[i]?=some row:=⟨_,A1 R⟩;have⟨o1,X⟩:=Z.2 i row A;have V:=(G.low i x I).2;rw[hi.1]at V;rw[ER A,A0];refine DM.2 ((AOn row _ (λj=>d[j.toNat]?=some (x-1)) oa (λj C=>?_) ⟨(k:Int),(X (k:Int)).2 hE,oc⟩).mono λn ⟨n',O,j,C,B⟩=>?_)
   .obtain⟨e,_,_,_,Y⟩:=(X j).1 C;have:=m e.2.1;rw[Y]at this;have⟨y2,W,x2⟩:=KV (l:=d) this.1 oa;unfold yS;dsimp only;rw[A0,W,A0,A0,A0,ER I,A0,EH oa oa,A0,DT];grind
   .rw[O,A0,ER C,A0];have⟨e,_,_,_,Y⟩:=(X j).1 (AH C);have N:=m e.2.1;rw[Y]at N;have x1:d.getD j.toNat 0=x-1:=by rw[AJ,B];rfl
    have h9:=(G.low _ _ B).1;refine DM.2 (F6.2 ⟨oc,D _ ⟨rfl,rfl,rfl,λa ha=>?_,j.toNat,oc,x-1,B,oa,oc⟩ oc⟩);grind
 .grind
 .dsimp only;rw[AJ,p];grind[fuel]
def A8C{b:IW}{g:QN}(h:g.1=b)(l:List Int)(w:l.length<=1048576)(d:∀j∈l,0<=j/\j<b.2.2.2.1.length):Tot (U1 (g,l)) (λr=>r.length=l.length):=by
 unfold U1;dsimp only;refine DM.2 (Tot.mono (P:=λr=>r.length=l.length) ?_ λr e=>DN.2 e);refine EZ (r:=U0) (σ:=List DL) l.length (λo i=>(g,o,l,(l.length:Int),i)) (λi o=>o.length=i) oa (λnext o i hi a x=>?_) (λnext o a=>?_) [] rfl
 .unfold U0;dsimp only;have⟨p,s⟩:=d _ (AL hi);have⟨y,m,_⟩:=KV (l:=b.2.2.2.1) p s;rw[E1,A7 hi,A6,ER (A1 hi),A0,ET oa,h,m,A0];exact za
 simp_all[U0,E1,A9,AA,A8,DN]
def AOo(b:IW)(x:BlB b)(s:DL)(sc:Int):Tot (WK (b,s,sc)) (λr=>r.1.length<=3001):=by
 unfold WK;dsimp only;refine DM.2 (Tot.mono (P:=λr=>r.2.2=0->BlOk b/\GpOk b sc r.1/\∃t:Nat,r.2.1=(t:Int)/\t<b.2.2.2.1.length) ?_ λG p=>DO.2 ⟨λ_=>DN.2 oh,λh=>?_⟩)
 .unfold aW;dsimp only;refine DM.2 (Tot.mono (P:=λr=>r.2=0->BlOk b/\GpOk b sc r.1) ?_ λr w=>DO.2 ⟨λh=>DN.2 λh0=>(by have h0:r.2=0:=h0;rw[h0]at h;cases h),λh=>?_⟩)
  .unfold WI;dsimp only;refine DM.2 ((A0V b x).mono λe z=>DO.2 ⟨λh=>DN.2 λh0=>(by have h0:e=0:=h0;rw[h0]at h;cases h),λh=>DO.2 ⟨λ_=>DN.2 λh=>absurd h oi,λ_=>?_⟩⟩);have a:=z (J6 h);simp_all[DM,A8A,DN]
  .obtain⟨a,d⟩:=w (J6 h);have C:=a.few;unfold aV;dsimp only;refine DM.2 (Tot.mono (P:=Srch (λy:F3=>y.1) b.2.2.2.1 s) ?_ λq j=>?_)
   .refine DM.2 ((A7w b.2.2.2.1 s oa _ λy=>⟨_,?_,U8 _ _,UB _ _⟩).mono λq j=>DN.2 j);grind[m9,X7]
   .refine DO.2 ⟨λ_=>DN.2 λh=>absurd h oi,λm=>DN.2 λ_=>⟨a,d,q.1.toNat,?_,?_⟩⟩
    .have:=j.rng;grind
    .obtain⟨y,D,_⟩:=j.is (by simpa using m);grind
 .obtain⟨a,d,t,e,A⟩:=p (J6 h);rw[e];refine DM.2 ((A8B d a.few A).mono λl ⟨E,B⟩=>DM.2 ((A8C d.bl l oa B).mono λr w=>DN.2 oc))
def key_ok{p:Pu}(h:KR p=some 0)(j:p.2.2.2.2.1.length<=1048576):∃k,J4 p=some (k,0):=by have e:=ANw (bT p j) h rfl;have⟨l,a,b⟩:=oK p e;have⟨m,d,_⟩:=A6w l b;exact⟨m,by unfold J4;rw[h,A0,show(!(DP (0:Int) 0))=false from rfl,A8,a,A0,d,A0]⟩
section
variable{cs:List F3}(hn:cs.length<=3000)(hk:∀c∈cs,J4 c.2.1=some (IP c,0)/\(OC c).length<=1048576)
include hn hk
theorem AOp:Tot (yJ ([],cs,(cs.length:Int),0)) (BkOk cs cs.length):=by
 refine EZ cs.length (λm i=>(m,cs,(cs.length:Int),i)) (λi m=>BkOk cs i m) oa (λnext m i hi d e=>?_) (λnext m d=>?_) [] ⟨λk=>List.Pairwise.nil,λk x=>⟨λh=>(oq),λ⟨j,_,h,_⟩=>absurd h oa⟩⟩
 .unfold yI;dsimp only;have⟨k1,_⟩:=hk _ (AL hi);rw[E1,A7 hi,A6,ER (A1 hi),A0,k1,A0,ET oa];have p:=bk_len d (IP cs[i]);refine DM.2 (F6.2 ⟨by grind[IX,IP],?_⟩);dsimp only;rw[E0,A7 rfl,A6,A0];have l:∀k,IX (EB DQ (IP cs[i]) ((DW DQ (IP cs[i]) m).getD []++[(i:Int)]) m) k=if k=IP cs[i]then IX m k++[(i:Int)]else IX m k:=λk=>by unfold IX;rw[AO1 k];grind
  refine e _ ⟨λk=>?_,λk x=>?_⟩
  .show(IX (EB DQ (IP cs[i]) ((DW DQ (IP cs[i]) m).getD []++[(i:Int)]) m) k).Pairwise _;rw[l];split
   .rw[List.pairwise_append];refine⟨d.asc _,D4 _ _,λa s b w=>?_⟩;rw[AP]at w;have⟨j,c,h1,_,z,_⟩:=(d.mem _ a).1 s;omega
   .exact d.asc k
  .show x∈IX (EB DQ (IP cs[i]) ((DW DQ (IP cs[i]) m).getD []++[(i:Int)]) m) k<->_;rw[l];have A:=d.mem k x;have y:=A1 hi;grind
 simp_all[yI,E1,A9,AA,A8,DN]
noncomputable def KG(a:FG)(cs:List F3)(c i:Nat):Bool:=match cs[c]?,a.2.2.2.2.2.2[i]?,(NF a)[i]? with
 |some c,some x,some r=>decide (IP c=x.1)&&XC x r x.1 (OC c)
 |_,_,_=>false
noncomputable def pJ(a:FG)(cs:List F3)(c:Nat):List (Int×Int):=((List.range a.2.2.2.2.2.2.length).filter λi=>KG a cs c i).map λi:Nat=>((c:Int),(i:Int))
noncomputable def MO(a:FG)(cs:List F3):List (Int×Int):=(List.range cs.length).flatMap (pJ a cs)
omit hn hk in
theorem A8D(a:FG)(cs:List F3):(MO a cs).Pairwise MN:=by
 unfold MO;rw[List.pairwise_flatMap];refine⟨λc _=>?_,?_⟩
 .unfold pJ;rw[List.pairwise_map];refine((List.pairwise_lt_range).filter _).imp λ{x y} h=>Or.inr ⟨rfl,oa⟩
 .refine(List.pairwise_lt_range).imp λ{c d} h x b y e=>Or.inl ?_;obtain⟨i,_,rfl⟩:=B_.1 b;obtain⟨j,_,rfl⟩:=B_.1 e;omega
omit hn hk in
theorem A0b(a:FG)(cs:List F3)(p:Int×Int):p∈MO a cs<->∃c i:Nat,KG a cs c i=true/\p=((c:Int),(i:Int)):=by
 unfold MO pJ;simp only[List.mem_flatMap,B_,D8,CA];constructor
 .grind
 .rintro⟨c,i,h,rfl⟩;have b:=h;unfold KG at b;grind
theorem AOq{b:IW}(hb:b.2.2.2.1=cs){m:KM}(G:BkOk cs cs.length m){a:FG}(ha:L8 a)(hc:MK a=0):lR (a,b,m)=some (MO a cs):=by
 have⟨h1,K,h3,h4⟩:=A0Q ha hc;refine M1 ?_;unfold lR;dsimp only;rw[h1,A0];have z:∀k,(IX m k).length<=3000:=λk=>AM (bk_len G k) hn;have L:Tot (yH (m,b,NF a,[],a.2.2.2.2.2.2,(a.2.2.2.2.2.2.length:Int),0)) (λq=>q.Nodup/\∀p,p∈q<->p∈MO a cs):=by
  refine EZ (σ:=List (Int×Int)) a.2.2.2.2.2.2.length (λo i=>(m,b,NF a,o,a.2.2.2.2.2.2,(a.2.2.2.2.2.2.length:Int),i)) (λi o=>o.length<=3000*i/\o.Nodup/\∀p,p∈o<->∃c j:Nat,j<i/\KG a cs c j=true/\p=((c:Int),(j:Int))) oa (λnext o i hi A w=>?_) (λnext o A=>?_) [] ⟨oh,oh,oh⟩
  .obtain⟨o1,o2,o3⟩:=A;unfold yG;dsimp only;have C:i<(NF a).length:=oa;have Q:=A1 hi;have O:=A1 C;rw[E1,A7 hi,A6,ER Q,A0,ET oa];generalize a.2.2.2.2.2.2[i]=x at Q ⊢;have E:=h3 _ (AL C);generalize (NF a)[i]=r at O E;have hH:∀(j:Nat) (c:F3),cs[j]?=some c->IP c=x.1->(KG a cs j i=true<->XC x r x.1 (OC c)=true):=λj c hj he=>by grind[KG]
   have h7:=z x.1;have M:(IX m x.1).Nodup:=(G.asc x.1).imp λ{a b} h6 e=>oa;refine DM.2 (Tot.mono (P:=λq:IW×List (Int×Int)=>q.1=b/\q.2.length<=3000*i+(IX m x.1).length/\q.2.Nodup/\∀p,p∈q.2<->p∈o\/∃c:Nat,(c:Int)∈IX m x.1/\KG a cs c i=true/\p=((c:Int),(i:Int))) ?_ λq B=>?_)
   .refine EZ (r:=lQ) (σ:=List (Int×Int)) (IX m x.1).length (λo n=>(b,NF a,o,(i:Int),x,IX m x.1,((IX m x.1).length:Int),n)) (λn u=>u.length<=3000*i+n/\u.Nodup/\∀p,p∈u<->p∈o\/∃c:Nat,(c:Int)∈(IX m x.1).take n/\KG a cs c i=true/\p=((c:Int),(i:Int))) oa (λnext u n s J w=>?_) (λnext u J=>?_) o ⟨oa,o2,oh⟩
    .obtain⟨u1,u2,u3⟩:=J;unfold lQ;dsimp only;have hy:=A1 s;have⟨j,c,j1,R,j3,j4⟩:=(G.mem x.1 _).1 (AL s);have I:=GH hy;have N:(IX m x.1)[n] ∉ (IX m x.1).take n:=λh5=>by rw[<-List.take_append_drop n (IX m x.1),AY]at M;have hd:=BD s;grind
     rw[E1,A7 s,A6,ER hy,A0,ER O,A0,ET oa,hb];rw[j3]at N I ⊢;rw[ER R,A0];have⟨Z,_⟩:=A7i x E x.1 (hk c (AH R)).2;have hh:=hH j c R j4;unfold OC at Z hh;rw[Z,A0];refine DO.2 ⟨λht=>DM.2 (F6.2 ⟨oc,w _ ⟨oc,?_,λp=>?_⟩⟩),λhf=>w _ ⟨oa,u2,λp=>?_⟩⟩
     .rw[AY];refine⟨u2,oh,λp H q B e=>?_⟩;rw[AP]at B;subst e;rcases(u3 p).1 H with H|⟨X,k1,_,U⟩<;>grind
     .grind
     .rw[u3,I];simp only[AZ,AP];constructor
      .grind
      .rintro(h|⟨X,k1|k1,T,U⟩)
       .exact .inl h
       .grind
       .have:X=j:=oa;grind
    .unfold lQ;dsimp only;rw[E1,A9 (AA _),A8];rw[AQ]at J;exact DN.2 ⟨rfl,J⟩
   .obtain⟨V,q2,q3,q4⟩:=B;rw[V];refine w q.2 ⟨oa,q3,λp=>?_⟩;rw[q4,o3];constructor
    .grind
    .rintro⟨c,j,k1,T,U⟩;by_cases e:j=i
     .subst e;refine .inr ⟨c,?_,T,U⟩;have l:=T;unfold KG at l;rw[Q,O]at l;split at l
      .rename_i d _ _ Y e2 e3;cases e2;rw[A5,BA]at l;exact(G.mem x.1 _).2 ⟨c,d,(A3.1 Y).1,Y,rfl,l.1⟩
      .cases l
     grind
  .obtain⟨_,o2,o3⟩:=A;unfold yG;dsimp only;rw[E1,A9 (AA _),A8];grind[DN,A0b,KG,List.getElem?_eq_some_iff]
 refine DM.2 (L.mono λo A=>DM.2 ?_);have I:=ANz o (λx=>(lP x).bind λr=>some r) MN (λa b=>?_) (λa h=>?_) (λa b c h1 K=>?_) λa b c h1 K h3=>?_
 .refine Tot.mono I λq B=>DN.2 ?_;have W:∀a b:Int×Int,¬MN a b->¬MN b a->a=b:=λa b h1 K=>by grind[MN,Prod.ext]
  have D:=A8D a cs;have H:q.Perm (MO a cs):=B.1.trans ((List.perm_ext_iff_of_nodup A.1 (D.imp λ{x y} h e=>by grind[MN])).2 A.2);exact List.Perm.eq_of_pairwise (le:=λa b=>¬MN b a) (λa b _ _ V q2=>W a b q2 V) B.2 (D.imp λ{x y} h h'=>by grind[MN]) H
 .refine⟨MM [O7 a.1 b.1,O7 a.2 b.2],?_,?_⟩
  .simp_all[lP,oR,A0,A7g]
  .simp only[MM];unfold MN;by_cases h:a.1=b.1
   .rw[if_pos ((b_ _ _).2 h)];by_cases h':a.2=b.2<;>simp_all[if_pos,b_,if_neg,A0P]
   simp_all[if_neg,b_,A0P]
 .unfold MN at h;omega
 .unfold MN at *;omega
 grind[MN]
end
noncomputable def JU(cs:List F3)(a:FG):List IA:=if a.2.2.2.2.1=true then []else(MO a cs).map λp=>(a.1,QJ cs p.1,p.2)
def A0c{a:FG}{cs:List F3}{p:Int×Int}(h:p∈MO a cs):0<=p.1/\p.1<cs.length/\0<=p.2/\p.2<a.2.2.2.2.2.2.length:=by obtain⟨c,i,h1,rfl⟩:=(A0b a cs p).1 h;grind[KG,List.getElem?_eq_some_iff]
def AOr{b:IW}(a:FG)(q:List (Int×Int))(s:∀p∈q,0<=p.1/\p.1<b.2.2.2.1.length)(w:q.length<=1000000)(out:List IA)(l:out.length<=100000):
 Tot (yK (b,out,a,q,(q.length:Int),0)) (λr=>match r with| .inl y=>y=(b,out++q.map λp=>(a.1,QJ b.2.2.2.1 p.1,p.2))/\y.2.length<=100000| .inr y=>y.1.length<=100000/\y.2≠0):=by
 refine EZ (r:=lS) (σ:=List IA) q.length (λo i=>(b,o,a,q,(q.length:Int),i)) (λi o=>o=out++(q.take i).map (λp=>(a.1,QJ b.2.2.2.1 p.1,p.2))/\o.length<=100000) oa (λnext o i hi e m=>?_) (λnext o e=>?_) out ⟨oh,l⟩
 .unfold lS;dsimp only;have⟨p0,p1⟩:=s _ (AL hi);rw[E1,A7 hi,A6,ER (A1 hi),A0,ET oa];refine DO.2 ⟨λ_=>DN.2 ⟨oh,show(3:Int)≠0 by decide⟩,λh=>?_⟩;rw[DT]at h;have h:=AG h;have⟨c,d,j⟩:=KV (l:=b.2.2.2.1) p0 oa;rw[d,A0];refine DM.2 (F6.2 ⟨oc,m _ ⟨?_,oc⟩⟩);rw[GH (A1 hi),D7,<-C1,<-e.1];grind[QJ]
 .unfold lS;dsimp only;rw[E1,A9 (AA _),A8];exact zb
def AOs{bs:Bs}(E:BB bs){b:IW}(w:BlB b)(V:∀c∈b.2.2.2.1,c.2.1.2.2.2.1.length<=1048576):Tot (lU (bs,b)) (λq=>q.1.length<=100000/\(q.2=0->X9 bs/\BlOk b/\(∀c∈b.2.2.2.1,J4 c.2.1=some (IP c,0))/\(∀a∈bs.2.1,MK a=0)/\q.1=bs.2.1.flatMap (JU b.2.2.2.1))):=by
 unfold lU;dsimp only;refine DM.2 ((A7c bs E).mono λe G=>DO.2 ⟨λh=>DN.2 ⟨oh,λh0=>(by have h0:e=0:=h0;rw[h0]at h;cases h)⟩,λh=>?_⟩);have L:=G.1 (J6 h);refine DM.2 ((A0V b w).mono λe G=>DO.2 ⟨λh=>DN.2 ⟨oh,λh0=>(oc)⟩,λh=>?_⟩);have z:=G (J6 h);have d:∀a∈bs.2.1,MK a=0:=λa l=>by have⟨j,R,e⟩:=List.mem_iff_getElem.1 l;exact((L.2.2.2 j R).1 a oc).1
 have M:=L.2.1;have J:=z.few;have H:∀c∈b.2.2.2.1,J4 c.2.1=some (IP c,0):=λc A=>by have⟨k,hk⟩:=key_ok (z.purl c A) (w.c c A).2.1;grind[IP]
 have hk:∀c∈b.2.2.2.1,J4 c.2.1=some (IP c,0)/\(OC c).length<=1048576:=λc A=>⟨H c A,V c A⟩;refine DM.2 ((AOp J hk).mono λm T=>?_);refine DM.2 (Tot.mono (P:=λq:Sum (List IA) (List IA×Int)=>match q with| .inl o=>o=bs.2.1.flatMap (JU b.2.2.2.1)/\o.length<=100000| .inr y=>y.1.length<=100000/\y.2≠0) ?_ λq X=>?_)
 .refine EZ (r:=lT) (σ:=List IA) bs.2.1.length (λo i=>(b,m,o,bs.2.1,(bs.2.1.length:Int),i)) (λi o=>o=(bs.2.1.take i).flatMap (JU b.2.2.2.1)/\o.length<=100000) oa (λnext o i hi C B=>?_) (λnext o C=>?_) [] ⟨oh,oh⟩
  .unfold lT;dsimp only;have s:=A1 hi;have l:=AL hi;have K:=GH s;rw[E1,A7 hi,A6,ER s,A0,ET oa];rw[K,List.flatMap_append,<-C.1,List.flatMap_singleton]at B;refine DO.2 ⟨λQ=>B o ⟨by unfold JU;grind,C.2⟩,λQ=>?_⟩;have I:(MO bs.2.1[i] b.2.2.2.1).length<=1000000:=by
    have⟨_,_,_,O⟩:=A0Q (E _ l) (d _ l);have U:∀p∈MO bs.2.1[i] b.2.2.2.1,p∈(List.range b.2.2.2.1.length).flatMap λc:Nat=>(List.range bs.2.1[i].2.2.2.2.2.2.length).map λj:Nat=>((c:Int),(j:Int)):=λp D=>by have⟨p0,p1,Y,Z⟩:=A0c D;exact List.mem_flatMap.2 ⟨p.1.toNat,CA.2 oa,B_.2 ⟨p.2.toNat,CA.2 oa,Prod.ext ot ot⟩⟩
    have:=List.Nodup.length_le_of_subset ((A8D _ _).imp λ{x y} h e=>by grind[MN]) U;rw[List.length_flatMap]at this;simp only[B2,List.length_range]at this;have W:((List.range b.2.2.2.1.length).map λ_=>bs.2.1[i].2.2.2.2.2.2.length).sum=b.2.2.2.1.length*bs.2.1[i].2.2.2.2.2.2.length:=by simp[List.map_const']
    have:=Nat.mul_le_mul J O;omega
   rw[AOq J hk rfl T (E _ l) (d _ l),A0];refine DM.2 ((AOr bs.2.1[i] (MO bs.2.1[i] b.2.2.2.1) (λp D=>⟨(A0c D).1,(A0c D).2.1⟩) I o C.2).mono λr N=>?_);rcases r with r|r
   .obtain⟨r1,r2⟩:=N;simp_all[JU,if_neg]
   .exact DN.2 N
  .unfold lT;dsimp only;rw[E1,A9 (AA _),A8];exact zb
 grind[DN,absurd]
def AOt{r:Rg}{v:DL}{q:Bool×Int}(h:S7 (r,v)=some q){b:Int}(a:T_ (r.1,v)=some b)(e:b≠0):q.1=false:=by
 unfold S7 at h;dsimp only at h;have⟨j,_,h⟩:=FH h;rcases FW h with⟨_,h⟩|⟨_,h⟩
 .cases h;rfl
 unfold T_ at a;dsimp only at a;have⟨l,d,a⟩:=FH a;cases a;rw[d,A0]at h;rcases FW h with⟨_,h⟩|⟨c,h⟩
 .cases h;rfl
 grind[DT,absurd]
def AOu{x:Af}{p:Pu}{k:DL}{r:Rg}(hk:J4 p=some (k,0))(z:LW x=some (r,0))(A:r.1=x.2.1)(a:∀s∈r.2,GQ s)(d:p.2.2.2.1.length<=1048576):
 bK (x,p)=some (decide (k=x.1)&&XC x r x.1 p.2.2.2.1):=by
 have⟨y,B⟩:=A7i x a x.1 d;unfold bK;dsimp only;rw[hk,A0,z,A0,show(!(DP (0:Int) 0))=false from rfl,C0,C0,E0,E0];by_cases e:k=x.1
 .by_cases l:p.2.2.2.1=[]
  .grind
  .rw[A7 e,A9 l,BS,Bool.or_false,A8,BK,<-y];unfold S8;dsimp only;have⟨w,b,_⟩:=A7a x.2.1 p.2.2.2.1 d;have⟨q,m,_⟩:=A7f r p.2.2.2.1 (λs h=>⟨oc,oc⟩) d;rw[E0,A7 (rfl:x.1=x.1),E0,A9 l,BS,Bool.or_false,CH,A6,b,A0,C0,m,A0];by_cases j:w=0
   .subst j;rfl
   .rw[show(!(DP w 0))=true from by rw[DT];simp[j],A6,AOt m oc j,Bool.and_false]
 grind
def AOv{a:FG}{rs:List Rg}(h:LX a=some (rs,0)):∀(i:Nat) (x:Af) (r:Rg),a.2.2.2.2.2.2[i]?=some x->rs[i]?=some r->LW x=some (r,0):=by
 have N:∀z,S5 (([]:List Rg),a.2.2.2.2.2.2,(a.2.2.2.2.2.2.length:Int),0)=some z->match z with| .inl y=>∀(i:Nat) (x:Af) (r:Rg),a.2.2.2.2.2.2[i]?=some x->y[i]?=some r->LW x=some (r,0)| .inr y=>y.2≠0:=λz b=>by
  refine bZ (r:=aM) (λs=>s.2.1=a.2.2.2.2.2.2/\∃n:Nat,s.2.2.2=(n:Int)/\s.1.length=n/\n<=a.2.2.2.2.2.2.length/\s.2.2.1=(a.2.2.2.2.2.2.length:Int)/\∀(i:Nat) (x:Af) (r:Rg),a.2.2.2.2.2.2[i]?=some x->s.1[i]?=some r->LW x=some (r,0)) (Q:=λz=>match z with| .inl y=>∀(i:Nat) (x:Af) (r:Rg),a.2.2.2.2.2.2[i]?=some x->y[i]?=some r->LW x=some (r,0)| .inr y=>y.2≠0) (λnext s z Q E b=>?_) _ _ _ ⟨rfl,0,rfl,rfl,AS _,rfl,λi x r _ h=>by simp at h⟩ b;obtain⟨o,l,t,i⟩:=s;obtain⟨rfl,n,J,D,M,K,E⟩:=E;dsimp only at J D M K E;subst J K;unfold aM at b;dsimp only at b;rcases FW b with⟨p,b⟩|⟨_,b⟩
  .have p:=AB p;have j:n<a.2.2.2.2.2.2.length:=oa;have⟨x,A,b⟩:=FH b;rw[ER (A1 j)]at A;cases A;have⟨R,T,b⟩:=FH b;rcases FW b with⟨c,b⟩|⟨c,b⟩
   .grind[DT]
   .obtain⟨G,d,b⟩:=FH b;have C:G=o++[R.1]:=by
     unfold app? at d;rcases FW d with⟨_,d⟩|⟨_,d⟩
     .cases d;rfl
     .cases d
    subst C;by_cases O:n<4611686018427387904
    .rw[ET O]at b;refine Q _ _ ⟨rfl,n+1,oh,by simp[D],j,rfl,λi x r A B=>?_⟩ b;rw[List.getElem?_append]at B;split at B
     .grind
     .rename_i hi;have:i=n:=by have:=(A3.1 B).1;simp at this;omega
      subst this;rw[A1 j]at A;cases A;rw[D,Nat.sub_self]at B;grind[DT]
    grind[absurd,A7h]
  grind
 have h0:=h;unfold LX TW at h;have⟨_,_,h⟩:=FH h;rcases FW h with⟨_,h⟩|⟨_,h⟩
 .cases h
 have⟨U,_,h⟩:=FH h;rcases FW h with⟨c,h⟩|⟨_,h⟩
 .grind
 have⟨_,_,h⟩:=FH h;rcases FW h with⟨_,h⟩|⟨_,h⟩
 .cases h
 rcases FW h with⟨_,h⟩|⟨_,h⟩
 .cases h
 have L:((bif (decide ((50)<(a.2.2.2.2.2.2.length:Int))) then some (([]:List Rg),(3:Int)) else
  (S5 (([]:List Rg),a.2.2.2.2.2.2,(a.2.2.2.2.2.2.length:Int),(0))).bind λH=>
  match H with
  | .inl I=>some (I,(0))
  | .inr e=>some (e.1,e.2))=some (rs,0))->∀(i:Nat) (x:Af) (r:Rg),a.2.2.2.2.2.2[i]?=some x->rs[i]?=some r->LW x=some (r,0):=λm=>by
  rcases FW m with⟨_,m⟩|⟨_,m⟩
  .cases m
  have⟨z,b,m⟩:=FH m;grind
 have⟨W,w,h⟩:=FH h;rcases FW w with⟨_,w⟩|⟨_,w⟩
 .obtain⟨V,_,w⟩:=FH w;grind
 grind
def AOw{a:FG}(d:L8 a)(m:MK a=0){cs:List F3}{j i:Nat}{c:F3}{x:Af}(p:cs[j]?=some c)(h:a.2.2.2.2.2.2[i]?=some x)(hk:J4 c.2.1=some (IP c,0))(s:(OC c).length<=1048576):bK (x,c.2.1)=some (KG a cs j i):=by have⟨h1,w,l,_⟩:=A0Q d m;have hi:=(A3.1 h).1;have b:=A1 (show i<(NF a).length by omega);have e:=AOv h1 i x _ h b;rw[AOu hk e (ANW (d.2.2.2.2.2.2 x (AH h)) e) (l _ (AH b)) s];unfold KG;rw[p,h,b];rfl
def AOx{b:IW}{g:QN}(h:g.1=b)(l:List Int)(B:l.length<=1048576)(d:∀j∈l,0<=j/\j<b.2.2.2.1.length):Tot (U1 (g,l)) (λr=>r.length=l.length/\∀s∈r,∃j∈l,∃c,b.2.2.2.1[j.toNat]?=some c/\c.1=s):=by
 unfold U1;dsimp only;refine DM.2 (Tot.mono (P:=λr=>r.length=l.length/\∀s∈r,∃j∈l,∃c,b.2.2.2.1[j.toNat]?=some c/\c.1=s) ?_ λr p=>DN.2 p);refine EZ (r:=U0) (σ:=List DL) l.length (λo i=>(g,o,l,(l.length:Int),i)) (λi o=>o.length=i/\∀s∈o,∃j∈l,∃c,b.2.2.2.1[j.toNat]?=some c/\c.1=s) oa (λnext o i hi a m=>?_) (λnext o a=>?_) [] ⟨rfl,oh⟩
 .unfold U0;dsimp only;have e:=AL hi;have⟨z,A⟩:=d _ e;have⟨y,w,x⟩:=KV (l:=b.2.2.2.1) z A;rw[E1,A7 hi,A6,ER (A1 hi),A0,ET oa,h,w,A0];refine DM.2 (F6.2 ⟨oc,m _ ⟨oc,λs C=>?_⟩⟩);grind
 simp_all[U0,E1,A9,AA,A8,DN]
def AOy{b:IW}{sc:Int}{g:QN}(B:GpOk b sc g){t r:Nat}{D E:List Int}(p:Dist g.2.2.1 r D)(a:Dist g.2.2.2 t E){x:Int}(l:D[t]?=some x)(h0:0<=x):∃y:Int,E[r]?=some y/\0<=y:=by
 obtain⟨_,_,ix,C,_,H,hi⟩:=B;have key:∀(n:Nat) (j:Nat) (x:Int),x=(n:Int)->D[j]?=some x->(∃y:Int,E[j]?=some y/\0<=y)->∃y:Int,E[r]?=some y/\0<=y:=by
  intro n;induction n with
  |zero=>
   intro j x l d K;rcases p.pre j x d (oa)with⟨_,rfl⟩|⟨i,y,r',_,h2,h3,_⟩
   .exact K
   .omega
  |succ n L=>
   intro j x l d ⟨z,A,m⟩;rcases p.pre j x d (oa)with⟨h,_⟩|⟨i,y,r',h1,h2,h3,h4,h5⟩
   .omega
   refine L i y oa h1 ?_;have I:=((H.2 i r' h4).2 (j:Int)).1 h5;have e:j<g.2.2.2.length:=by have:=(A3.1 A).1;rw[a.len]at this;exact this
   have s:=A1 e;have G:=((hi.2 j _ s).2 (i:Int)).2 I;have⟨w,M,J,_⟩:=a.clo j z _ A m s (i:Int) G;simp_all
 exact key x.toNat t x oa l ⟨0,a.t0,AR _⟩
def AOz(D:List Int)(m:D.length<=3000):Tot (nI D) (λo=>o.length<=3000/\∀j∈o,0<=j/\∃x:Int,D[j.toNat]?=some x/\0<=x):=by
 unfold nI;refine DM.2 (Tot.mono (P:=λo=>o.length<=3000/\∀j∈o,0<=j/\∃x:Int,D[j.toNat]?=some x/\0<=x) ?_ λr e=>DN.2 e);refine EZ (r:=nH) (σ:=List Int) D.length (λo i=>(o,D,(D.length:Int),i)) (λi o=>o.length<=i/\∀j∈o,0<=j/\∃x:Int,D[j.toNat]?=some x/\0<=x) oa (λnext o i hi b d=>?_) (λnext o b=>?_) [] ⟨AD _,oh⟩
 .unfold nH;dsimp only;have a:=A1 hi;rw[E1,A7 hi,A6,ER a,A0,ET oa];refine DO.2 ⟨λh=>DM.2 (F6.2 ⟨oc,d _ ⟨oc,λj l=>?_⟩⟩),λ_=>d _ ⟨oa,b.2⟩⟩;grind
 .unfold nH;dsimp only;rw[E1,A9 (AA _),A8];grind[DN]
def AP0{b:IW}(X:BlOk b)(h3:S1 b=some 0){sc:Int}(h1:1<=sc)(h4:sc<=4){c:F3}(hc:c∈b.2.2.2.1){r:List DL×Bool×Int}(C:WK (b,c.1,sc)=some r)(y0:r.1=[]):
 ∃R,nJ (b,sc)=some (R,0)/\R.length<=3000/\c.1 ∉ R:=by
 have hf:=X.few;have⟨g,h6,hg⟩:=A8A b X sc;have A:WI (b,sc)=some (g,0):=by unfold WI;dsimp only;rw[h3,A0,show(!(DP (0:Int) 0))=false from rfl,A8,A9 (show ¬sc<1 by omega),A9 (show ¬(4:Int)<sc by omega),Bool.or_self,A8,h6,A0]
 obtain⟨G,B,ix,K,V,m,H⟩:=hg;have y1:∀s,0<=GE ix s/\GE ix s<b.2.2.2.1.length:=λs=>by have:=QK K s;grind
 have nx:∀ {l:List (List Int)} {P:Nat->Int->Prop},Rws b.2.2.2.1.length l P 20000->(∀ k x,P k x->0<=x/\x<b.2.2.2.1.length)->SM l:=λ{l P} h hP=>⟨by rw [h.1]; omega,λr C=>by obtain⟨k,hk,rfl⟩:=List.mem_iff_getElem.1 C;have⟨g1,g2⟩:=h.2 k _ (A1 hk);refine⟨oa,λj W=>?_⟩;rw[h.1];grind⟩
 have x2:SM g.2.2.1:=nx m λk x ⟨e,_,_,_,q⟩=>oc;have x1:SM g.2.2.2:=nx H λk x ⟨e,_,_,q,_⟩=>oc;have er:((g.2.1.toNat:Nat):Int)=g.2.1:=oa;have⟨D,hD,Y⟩:=A0_ x2 (t:=g.2.1.toNat) (by rw[m.1];omega);rw[er]at hD;obtain⟨q,hq,sq⟩:Tot (aV (b,c.1)) (Srch (λy:F3=>y.1) b.2.2.2.1 c.1):=by unfold aV;dsimp only;refine DM.2 ((A7w b.2.2.2.1 c.1 oa _ λy=>⟨_,?_,U8 _ _,UB _ _⟩).mono λq hq=>DN.2 hq);grind[m9,X7]
 have U:=sq.all X.asc c hc rfl;have⟨y,hy,y7⟩:=sq.is U;have ht:=(A3.1 hy).1;have N:((q.1.toNat:Nat):Int)=q.1:=Int.toNat_of_nonneg sq.rng.1;have h2:aW (b,c.1,sc)=some (g,q.1,0):=by unfold aW;dsimp only;rw[A,A0,show(!(DP (0:Int) 0))=false from rfl,A8,hq,A0,U,BS,A8]
 have⟨E,hE,dE⟩:=A0_ x1 (t:=q.1.toNat) (by rw[H.1];exact ht);rw[N]at hE;have x5:∀x:Int,E[g.2.1.toNat]?=some x->x<0:=λx M=>by
  unfold WK at C;dsimp only at C;rw[h2,A0,show(!(DP (0:Int) 0))=false from rfl,A8]at C;have⟨l,p,C⟩:=FH C;have⟨rs,x4,C⟩:=FH C;cases C;have⟨l',L,h9⟩:=A8B ⟨G,B,ix,K,V,m,H⟩ hf ht;rw[N]at L;rw[p]at L;cases L;have⟨y8,J,y5⟩:=A8C G l oa h9.2;rw[x4]at J;cases J;have h8:l=[]:=AF oc;unfold aZ at p;dsimp only at p;rw[hE,A0]at p;have⟨x0,I,p⟩:=FH p;rw[<-er,ER M]at I;cases I;rcases FW p with⟨h,_⟩|⟨_,p⟩
  .grind
  have⟨z,a,p⟩:=FH p;cases p;refine absurd h8 (bZ (r:=mC) (λs=>s.2.2.2.1≠[]) (Q:=λz=>z≠[]) (λnext s z hn hs a=>?_) _ _ _ oh a);unfold mC at a;dsimp only at a;rcases FW a with⟨_,a⟩|⟨_,a⟩
  .obtain⟨_,_,a⟩:=FH a;have⟨_,_,a⟩:=FH a;have⟨_,_,a⟩:=FH a;have⟨_,_,a⟩:=FH a;have⟨w,hw,a⟩:=FH a;refine hn _ _ ?_ a;unfold app? at hw;grind
  grind
 have⟨o,x3,y4,T⟩:=AOz D (by rw[Y.len,m.1];exact hf);have O:∀j∈o,0<=j/\j<b.2.2.2.1.length:=λj W=>by have⟨j0,x,M,_⟩:=T j W;have:=(A3.1 M).1;rw[Y.len,m.1]at this;omega
 have⟨R,hR,y2,Z⟩:=AOx G o oa O;refine⟨R,?_,oa,λQ=>?_⟩
 .unfold nJ;dsimp only;rw[A,A0,show(!(DP (0:Int) 0))=false from rfl,A8,hD,A0,x3,A0,hR,A0]
 .obtain⟨j,W,d,hd,y3⟩:=Z _ Q;have⟨j0,x,M,I⟩:=T j W;have h7:j.toNat=q.1.toNat:=by
   have h5:=(A3.1 hd).1;have e1:=A1 h5;have e2:=A1 ht;rw[hd]at e1;rw[hy]at e2;have hp:=C2.1 X.asc;rcases Nat.lt_trichotomy j.toNat q.1.toNat with h|h|h
   .grind
   .exact h
   .grind
  rw[h7]at M;have⟨w,hw,y6⟩:=AOy (sc:=sc) ⟨G,B,ix,K,V,m,H⟩ Y dE M I;grind
abbrev GT:=DL×DL×DL×Int×Int×Int×Int
def MP(x y:GT):Prop:=x.2.2.2.2.2.2<y.2.2.2.2.2.2\/(x.2.2.2.2.2.2=y.2.2.2.2.2.2/\x.2.2.2.2.2.1<=y.2.2.2.2.2.1)
theorem AP1{x y z:GT}(h:MP x y)(k:MP y z):MP x z:=by unfold MP at *;omega
theorem A8E(x y:GT):MP x y\/MP y x:=by unfold MP;omega
def OD(l:List GT)(ab:GT->Bool)(b:Int):Prop:=(b= -1/\∀x∈l,ab x=false)\/
 ∃(k:Nat) (y:GT),b=(k:Int)/\l[k]?=some y/\ab y=true/\∀(j:Nat) (x:GT),l[j]?=some x->ab x=true->(j<=k->MP x y)/\(k<j->¬MP y x)
def AP2(ab:GT->Bool):OD [] ab (-1):=.inl ⟨rfl,λx h=>oq⟩
def AP3{α:Type}{l:List α}{x y:α}{j:Nat}(h:(l++[x])[j]?=some y):(j<l.length/\l[j]?=some y)\/(j=l.length/\y=x):=by grind
def AP4{l:List GT}{ab:GT->Bool}{b:Int}(h:OD l ab b){x:GT}(p:ab x=false):OD (l++[x]) ab b:=by
 rcases h with⟨rfl,h⟩|⟨k,y,rfl,h1,a,e⟩
 .refine .inl ⟨rfl,λz d=>?_⟩;grind
 .refine .inr ⟨k,y,rfl,oc,a,λj z d m=>?_⟩;grind
theorem A8F{l:List GT}{ab:GT->Bool}{b:Int}(h:OD l ab b){x:GT}(d:ab x=true)(s:b<0\/∃(k:Nat) (y:GT),b=(k:Int)/\l[k]?=some y/\MP y x):OD (l++[x]) ab (l.length:Int):=by
 refine .inr ⟨l.length,x,rfl,oh,d,λj z a e=>⟨λ_=>?_,λw=>?_⟩⟩
 .rcases AP3 a with⟨_,a⟩|⟨_,rfl⟩
  .rcases h with⟨rfl,h⟩|⟨k,y,rfl,h1,m,p⟩
   .grind
   grind[AP1,A8E]
  grind[A8E,id]
 grind
def AP5{l:List GT}{ab:GT->Bool}{k:Nat}(h:OD l ab (k:Int)){x y:GT}(b:l[k]?=some y)(s:¬MP y x):OD (l++[x]) ab (k:Int):=by
 rcases h with⟨e,h⟩|⟨d,A,e,h1,a,m⟩
 .omega
 .have:k=d:=oa;subst this;rw[b]at h1;cases h1;refine .inr ⟨k,y,rfl,oc,a,λj z w p=>?_⟩;grind
def dn(n:Nat)(b:Int):Int:=if(n:Int)<b then b-1 else b
section
variable{g:JG}(hg:GB g)(how:Int){fs:List DL}(hf0:fs.length<=1048576)(hf1:∀s∈fs,s.length<=1048576)
include hg hf0 hf1
theorem A8G:Tot (WH (g,how,fs)) (λr=>r.2=0->∃w,r.1=some w/\WoOk g how w/\GrOk g):=by unfold WH;dsimp only;refine DM.2 ((AOL hg).mono λe d=>DO.2 ⟨λh=>DN.2 λe0=>(by have e0:e=0:=e0;rw[e0]at h;cases h),λh=>?_⟩);have a:=d (J6 h);refine DM.2 ((AOM fs hf1).mono λe _=>DO.2 ⟨λh=>DN.2 λe0=>(by have e0:e=0:=e0;rw[e0]at h;cases h),λ_=>DO.2 ⟨λ_=>DN.2 λh=>absurd h oi,λ_=>?_⟩⟩);exact DM.2 ((AOU hg a.i a.t how fs hf0).mono λr ⟨w,h1,b⟩=>DN.2 λ_=>⟨w,h1,b,a⟩)
theorem A0d:Tot (O3 (g,how,fs)) (λr=>r.1.length<=3000):=by
 unfold O3;dsimp only;refine DM.2 ((A8G hg how hf0 hf1).mono λr m=>DO.2 ⟨λh=>DN.2 oh,λh=>?_⟩);have⟨w,h1,e,d⟩:=m (J6 h);rw[h1];refine DM.2 ((A7z e hg d).mono λB ⟨s,j,p⟩=>?_);subst j;have b:=p.fl;rw[e.gr]at b;have z:=d.f;rw[A0];refine DM.2 ((EZ (r:=lF) (σ:=List DL) s.2.1.length (λo i=>(g,o,s.2.1,(s.2.1.length:Int),i)) (λi o=>o.length<=i) (Q:=λo=>o.length<=s.2.1.length) oa (λnext o i hi l a=>?_) (λnext o l=>?_) [] (AD _)).mono λq A=>DN.2 oc)
 .unfold lF;dsimp only;have⟨y,x,_⟩:=KV (l:=g.2.2.1) (i:=(i:Int)) oa oa;rw[E1,A7 hi,A6,ER (A1 hi),A0,ET oa,x,A0];refine DO.2 ⟨λ_=>DM.2 (F6.2 ⟨oc,a _ oc⟩),λ_=>a _ oa⟩
 simp_all[lF,E1,A9,AA,A8,DN]
theorem AP6(tg:DL):Tot (bJ (g,how,fs,tg)) (λr=>r.1.2.1.length<=3000/\r.1.2.2.length<=3000):=by
 unfold bJ;dsimp only;refine DM.2 (Tot.mono (P:=λr=>r.2.2=0->∃w,∃t:Nat,r.1=some w/\WoOk g how w/\GrOk g/\r.2.1=(t:Int)/\t<g.2.2.1.length) ?_ λr1 h8=>?_)
 .unfold y_;dsimp only;refine DM.2 ((A8G hg how hf0 hf1).mono λr hr=>DO.2 ⟨λh=>DN.2 λe0=>(by have e0:r.2=0:=e0;rw[e0]at h;cases h),λh=>?_⟩);have⟨w,h1,A,D⟩:=hr (J6 h);rw[h1,A0];refine DO.2 ⟨λh=>DN.2 λe0=>absurd e0 oi,λh=>DN.2 λ_=>?_⟩;cases e:DW DQ tg w.2.1 with
  |none=>grind
  |some i=>have⟨i0,i1⟩:=A.fn.1 _ _ e;grind
 refine DO.2 ⟨λ_=>DN.2 ⟨oh,oh⟩,λh=>?_⟩;have⟨w,t,e1,A,D,e2,ht⟩:=h8 (J6 h);have h6:=A.gr;have hn:=D.f;have y0:=hg.e0;rw[e1,e2];refine DM.2 ((A7z A hg D).mono λr3 ⟨s,h2,G⟩=>?_);subst h2;have h5:=G.fl;have h7:=G.ml;rw[h6]at h5 h7;obtain⟨y,hy⟩:∃y,s.2.1[t]?=some y:=⟨_,A1 oa⟩;rw[A0,ER hy,A0];refine DO.2 ⟨λ_=>DN.2 ⟨oh,oh⟩,λK=>?_⟩;have K:y=true:=by simpa using K
 subst K;refine DM.2 ((AOe A hg D G ht).mono λd ⟨nx,C,O,E⟩=>?_);have h4:d.length=g.2.2.1.length:=C.len.trans O;have T:∀e,0<=GE w.2.1 e/\GE w.2.1 e<g.2.2.1.length:=λe=>by have:=QK A.fn e;grind
 refine DM.2 (Tot.mono (P:=λb=>∃n:Nat,b=(n:Int)/\n<g.2.2.1.length/\∃x,d[n]?=some x/\0<=x) ?_ λy7 Q=>?_)
 .obtain⟨e0,x5,x0,m,H⟩:=AOi A hg D G C O E (G.r t hy) ⟨oa,0,by rw[BX];exact C.t0,AR _⟩;refine EZ (r:=nE) (σ:=Int) g.2.2.2.length (λb i=>(some w,d,b,g.2.2.2,(g.2.2.2.length:Int),i)) (λi b=>(b= -1/\∀e∈g.2.2.2.take i,∀x,d[(GE w.2.1 e).toNat]?=some x->x<0)\/∃n:Nat,b=(n:Int)/\n<g.2.2.1.length/\∃x,d[n]?=some x/\0<=x) oa (λnext b i hi L a=>?_) (λnext b L=>?_) (-1) (.inl ⟨rfl,λe h=>oq⟩)
  .unfold nE;dsimp only;have p:=A1 hi;rw[E1,A7 hi,A6,ER p,A0,A0,ET oa];generalize g.2.2.2[i]=e at p ⊢;have⟨r0,r1⟩:=T e;unfold GE at r0 r1;have⟨x4,U,J⟩:=KV (l:=d) r0 oa;rw[U,A0];refine DM.2 (Tot.mono (P:=λ_=>True) (DO.2 ⟨λ_=>DN.2 trivial,λ_=>DN.2 trivial⟩) λy8 _=>?_);refine DM.2 (Tot.mono (P:=λ_=>True) (DO.2 ⟨λhb=>?_,λ_=>DN.2 trivial⟩) λy9 _=>?_)
   .rcases L with⟨rfl,_⟩|⟨n,rfl,y1,x,hx,_⟩
    .grind
    simp_all[EI,trivial]
   .refine DO.2 ⟨λhb=>a _ (.inr ⟨((DW DQ e w.2.1).getD 0).toNat,oa,oa,x4,J,?_⟩),λhb=>a _ ?_⟩
    .grind
    .rcases L with⟨rfl,L⟩|L
     .refine .inl ⟨rfl,λe' l x hx=>?_⟩;rw[GH p]at l;rcases AZ.1 l with l|l
      .grind
      .rw[AP]at l;subst l;unfold GE at hx;grind
     .exact .inr L
  .unfold nE;dsimp only;rw[E1,A9 (AA _),A8];grind[DN,List.take_length]
 obtain⟨Z,rfl,h3,x0,m,H⟩:=Q;have p:=A1 h3;rw[ER p,A0];refine DM.2 (Tot.mono (P:=λr=>r.1.2.2=[]/\r.1.2.1.length<=3000/\r.2.length<=3000/\(r.2.map (·.1)).Nodup) ?_ λx3 R=>?_)
 .refine ES (R:=λr:cB×List (DL×DL)=>r.1.2.2=[]/\r.1.2.1.length<=3000/\r.2.length<=3000/\(r.2.map (·.1)).Nodup) (λz:Option IH×Int×Option LB×List Int×cB×List (DL×DL)×Int=>z.1=some w/\z.2.1=(t:Int)/\z.2.2.1=some s/\z.2.2.2.1=d/\z.2.2.2.2.1.2.2=[]/\∃ f:Nat,z.2.2.2.2.2.2=(f:Int)/\∃ x:Int,d[f]? = some x/\0<=x /\
   (z.2.2.2.2.1.2.1.length:Int)+x<=3000/\(z.2.2.2.2.2.1.length:Int)+x<=3000/\(z.2.2.2.2.2.1.map (·.1)).Nodup) (λz=>(d.getD z.2.2.2.2.2.2.toNat 0).toNat) (λnext z hI a=>?_) fuel (some w,(t:Int),some s,d,((g.2.2.1[Z]).1,(([]:List pI),([]:List (DL×DL)))),([]:List (DL×DL)),(Z:Int))
   ⟨rfl,rfl,rfl,rfl,rfl,Z,rfl,x0,m,H,?_,?_,AW⟩ ?_
  .obtain⟨w',t',s',d',o,ty,f'⟩:=z;obtain⟨i1,i2,i3,W,X,f,i6,x,Y,i8,i9,x1,B⟩:=hI;dsimp only at i1 i2 i3 W X i6 i9 x1 B a;have W:=W.symm;subst i1 i2 i3 W i6;have y4:=(C.low f x Y).2;have h9:d.getD (f:Int).toNat 0=x:=by rw[AJ,BX,Y];rfl
   rw[h9]at a;unfold A5v;dsimp only;rw[DT];refine DO.2 ⟨λhc=>?_,λhc=>DN.2 ⟨X,oc,oc,B⟩⟩;have hc:¬(f:Int)=(t:Int):=by simpa using hc
   rcases C.pre f x Y i8 with⟨_,e⟩|⟨i,y,r,p1,p2,p3,p4,p5⟩
   .omega
   .obtain⟨i',p6,p7⟩:=(E i r (f:Int) p4).1 p5;have p6:f=i':=oa;subst p6;refine DM.2 ((AOf A hg D G h4 Y oa (i:=i) oc p7).mono λq ⟨j,hj,I⟩=>?_);rw[A0];have y5:d.getD (j:Int).toNat 0=x-1:=by rw[AJ,BX,I];rfl
    refine DO.2 ⟨λ_=>?_,λ_=>?_⟩
    .refine DM.2 ((AOg A hg D G q.2.1 q.2.2).mono λV _=>DM.2 ((AOh A hg D G V).mono λx2 _=>DM.2 (F6.2 ⟨oc,?_⟩)));have y2:=AOk V x2 ty;refine a _ ⟨rfl,rfl,rfl,rfl,X,j,hj,x-1,I,oa,?_,?_,AOj B⟩ ?_
     .grind
     .grind
     grind
    .refine DM.2 (F6.2 ⟨oc,?_⟩);refine a _ ⟨rfl,rfl,rfl,rfl,X,j,hj,x-1,I,oa,?_,oc,B⟩ ?_
     .grind
     grind
  .have:=(C.low _ _ m).2;grind
  .have:=(C.low _ _ m).2;grind
  .dsimp only;have:=(C.low _ _ m).2;rw[AJ,BX,m];grind[fuel]
 obtain⟨⟨M,N,y6⟩,ty⟩:=x3;obtain⟨q1,q0,q2,q3⟩:=R;dsimp only at q1 q0 q2 q3 ⊢;subst q1;have⟨r,y3,_,hr⟩:=A89 (List.Perm.refl ty) q3;refine⟨_,A1T (ω:=((M,(N,r)),true,0)) ⟨ty,List.Perm.refl _⟩ λo hp=>?_,q0,oc⟩;have hl:=hp.length_eq;rw[AOl o M N [] oc,A0,CZ];dsimp only;have⟨r',_,h1,h2⟩:=A89 hp q3;grind
end
abbrev GZ:=IW×Int×Bs×List JG×Int×List DL×List GT
abbrev QO:=GZ×List (DL×FG)×List (DL×F3)×List (DL×Bool)×List ((DL×DL×Int)×Bool)
abbrev XH:=Option QO×IA×FG×F3×List DL×Int×List DL
abbrev UF:=DL×DL×Int×Int×Int×List DL×DL×List cB×Int
structure PrB(p:GZ):Prop where
 bl:BlB p.1
 bv:∀c∈p.1.2.2.2.1,c.2.1.2.2.2.1.length<=1048576
 bs:BB p.2.2.1
 gr:∀g∈p.2.2.2.1,GB g
 f0:p.2.2.2.2.2.1.length<=1048576
 f1:∀s∈p.2.2.2.2.2.1,s.length<=1048576
 s0:p.2.2.2.2.2.2.length<=1048576
 s1:∀s∈p.2.2.2.2.2.2,s.1.length<=1048576/\s.2.1.length<=1048576
def AP7(s:DL)(a:s.length<=1048576):Tot (lH s) (λ_=>True):=by
 unfold lH;refine DM.2 ((EZ (r:=lG) s.length (λ_ i=>(s,(s.length:Int),i)) (λ_ _=>True) (Q:=λ_=>True) oa (λnext _ i hi _ h=>?_) (λnext _ _=>?_) () trivial).mono λr _=>?_)
 .unfold lG;dsimp only;rw[E1,A7 hi,A6,ET oa];simp_all[DM,EI,DO,DN,trivial]
 .simp_all[lG,E1,A9,AA,A8,DN,trivial]
 .cases r<;>exact DN.2 trivial
def AP8(s:DL)(a:s.length<=1048576):Tot (lJ s) (λ_=>True):=by
 unfold lJ;refine DM.2 ((EZ (r:=lI) s.length (λ_ i=>(s,(s.length:Int),i)) (λ_ _=>True) (Q:=λ_=>True) oa (λnext _ i hi _ h=>?_) (λnext _ _=>?_) () trivial).mono λr _=>?_)
 .unfold lI;dsimp only;rw[E1,A7 hi,A6,ET oa];simp_all[DM,EI,Tot.mono,DO,trivial,DN]
 .simp_all[lI,E1,A9,AA,A8,DN,trivial]
 .cases r<;>exact DN.2 trivial
def AP9(s:GT)(h1:s.1.length<=1048576)(h:s.2.1.length<=1048576):∃e,S6 s=some e:=by unfold S6;refine IN.1 (DM.2 ((AP7 _ h1).mono λb _=>DM.2 (Tot.mono (P:=λ_=>True) (DO.2 ⟨λ_=>AP8 _ h,λ_=>DN.2 trivial⟩) λd _=>DO.2 ⟨λ_=>DN.2 trivial,λ_=>?_⟩)));have⟨j,a⟩:=AO4 s.2.2.1;simp_all[A0,DO,DN,trivial]
def APA(l:List GT)(w:l.length<=1048576)(b:∀s∈l,s.1.length<=1048576/\s.2.1.length<=1048576):Tot (yD (l,(l.length:Int),0)) (λq=>match q with| .inl _=>∀s∈l,S6 s=some 0| .inr e=>e≠0/\¬∀s∈l,S6 s=some 0):=by
 refine EZ (r:=lM) (σ:=Unit) l.length (λ_ i=>(l,(l.length:Int),i)) (λi _=>∀s∈l.take i,S6 s=some 0) oa (λnext _ i hi j p=>?_) (λnext _ j=>?_) () (λs h=>oq)
 .unfold lM;dsimp only;have a:=A1 hi;have⟨h1,d⟩:=b _ (AL hi);have⟨e,m⟩:=AP9 _ h1 d;rw[E1,A7 hi,A6,ER a,A0,ET oa,m,A0,DT];refine DO.2 ⟨λh=>?_,λh=>p () λs b=>?_⟩
  .grind[DN,List.getElem_mem,Option.some.inj]
  .have h:e=0:=by simpa using h
   subst h;rw[GH a]at b;grind
 simp_all[lM,E1,A9,AA,A8,AQ,DN]
structure PrOk(p:GZ):Prop where
 bl:BlOk p.1
 bs:X9 p.2.2.1
 gr:p.2.2.2.1.length<=1
 st:p.2.2.2.2.2.2.length<=2000
def APB(p:GZ)(a:PrB p):Tot (aQ p) (λe=>e=0->p.2.2.2.1.length<=1):=by unfold aQ;refine DO.2 ⟨λ_=>DN.2 λh=>absurd h oi,λh=>?_⟩;have h:=AG h;refine DO.2 ⟨λ_=>DO.2 ⟨λ_=>DN.2 λh=>absurd h oi,λ_=>DN.2 λ_=>oa⟩,λh0=>?_⟩;rw[DT]at h0;have h0:=AG h0;refine DM.2 (EI.2 ⟨⟨oa,oa⟩,λg b=>?_⟩);exact DM.2 ((A0d (a.gr g (AH b)) _ a.f0 a.f1).mono λr _=>DN.2 λ_=>oa)
def APC(p:GZ)(b:PrB p):Tot (OX p) (λe=>e=0->PrOk p/\∀s∈p.2.2.2.2.2.2,S6 s=some 0):=by
 unfold OX;refine DM.2 ((A0V p.1 b.bl).mono λe a=>DO.2 ⟨λh=>DN.2 λh0=>(by have h0:e=0:=h0;rw[h0]at h;cases h),λh=>?_⟩);have j:=a (J6 h);refine DO.2 ⟨λ_=>DN.2 λh=>absurd h oi,λ_=>?_⟩;refine DM.2 ((A7c p.2.2.1 b.bs).mono λe a=>DO.2 ⟨λh=>DN.2 λh0=>(by have h0:e=0:=h0;rw[h0]at h;cases h),λh=>?_⟩);have l:=a.1 (J6 h);refine DM.2 ((APB p b).mono λe a=>DO.2 ⟨λh=>DN.2 λh0=>(oc),λh=>?_⟩);have m:=a (J6 h);refine DO.2 ⟨λ_=>DN.2 λh=>absurd h oi,λd=>?_⟩;have d:=AG d;refine DM.2 ((APA _ b.s0 b.s1).mono λq w=>?_);cases q with
 |inl u=>exact DN.2 λ_=>⟨⟨j,l,m,oa⟩,w⟩
 |inr e=>grind[DN,absurd]
def MQ(p:GZ)(l:List GT):GZ:=(p.1,p.2.1,p.2.2.1,p.2.2.2.1,p.2.2.2.2.1,p.2.2.2.2.2.1,l)
def pK{X R σ α:Type}{r:(X->Option R)->X->Option R}(l:List α)(enc:σ->Int->X)(f:σ->α->σ)(out:σ->R)(d:l.length<=1099511627776)
 (e:∀next s (i:Nat) y,l[i]?=some y->r next (enc s (i:Int))=next (enc (f s y) ((i:Int)+1)))(a:∀next s,r next (enc s (l.length:Int))=some (out s))(s0:σ):DX r fuel (enc s0 0)=some (out (l.foldl f s0)):=by
 refine M1 ((SL l enc (λs _ y=>f s y) out (λi s=>s=(l.take i).foldl f s0) d (λnext s i y h=>e next s i y h) a s0 rfl (λs i y h b=>?_)).mono λq ⟨s,h1,j⟩=>?_)
 .rw[GH h,List.foldl_append,<-b];rfl
 grind
def A8H{j:Type}(d:j->DL):∀(l:List j) (m:List (DL×j)),l.Pairwise (λa b=>d a<d b)->∀a∈l,DW DQ (d a) (l.foldl (λm a=>EB DQ (d a) a m) m)=some a:=by
 have p:∀(l:List j) (m:List (DL×j)) (s:DL) (b:j),DW DQ s m=some b->(∀a∈l,d a≠s)->DW DQ s (l.foldl (λm a=>EB DQ (d a) a m) m)=some b:=by
  intro l;induction l with
  |nil=>simp
  |cons a l z=>intro m s b h y;refine z _ s b ?_ λc x=>y c (AN _ x);rw[UE,if_neg (λe=>y a AE e.symm)];exact h
 intro l;induction l with
 |nil=>simp
 |cons b l z=>
  intro m A a w;have⟨h1,B⟩:=List.pairwise_cons.1 A;rcases A_.1 w with rfl|w
  .exact p l _ _ _ (by rw[UE,if_pos rfl]) λc x e=>by grind
  grind
abbrev A8I:DL×DL×Int->DL×DL×Int->Bool:=λ(x y:DL×DL×Int)=>DQ x.1 y.1&&(λ(x y:DL×Int)=>DQ x.1 y.1&&DP x.2 y.2) x.2 y.2
def edM(sc:Int)(l:List SJ):List ((DL×DL×Int)×Bool):=l.foldl (λm e=>if e.2.2<=sc then EB A8I (e.1,(e.2.1,(0:Int))) true m else m) []
def APD(q:GZ)(l:List FG)(d:l.length<=1099511627776)(m:List (DL×FG))(X:List (DL×F3)×List (DL×Bool)×List ((DL×DL×Int)×Bool)):
 yL ((q,(m,X)),l,(l.length:Int),0)=some (q,l.foldl (λm a=>EB DQ a.1 a m) m,X):=by
 refine pK (r:=lV) l (λm i=>((q,(m,X)),l,(l.length:Int),i)) (λm a=>EB DQ a.1 a m) (λm=>(q,m,X)) d (λnext s i y h=>?_) (λnext s=>?_) m
 .have b:=(A3.1 h).1;unfold lV;dsimp only;rw[E1,A7 b,A6,ER h,A0,ET oa]
 simp_all[lV,E1,A9,AA,A8]
def APE(q:GZ)(l:List F3)(d:l.length<=1099511627776)(m:List (DL×F3))(A:List (DL×FG))(X:List (DL×Bool)×List ((DL×DL×Int)×Bool)):
 yM ((q,(A,(m,X))),l,(l.length:Int),0)=some (q,A,l.foldl (λm a=>EB DQ a.1 a m) m,X):=by
 refine pK (r:=lW) l (λm i=>((q,(A,(m,X))),l,(l.length:Int),i)) (λm a=>EB DQ a.1 a m) (λm=>(q,A,m,X)) d (λnext s i y h=>?_) (λnext s=>?_) m
 .have b:=(A3.1 h).1;unfold lW;dsimp only;rw[E1,A7 b,A6,ER h,A0,ET oa]
 simp_all[lW,E1,A9,AA,A8]
def APF(q:GZ)(l:List SJ)(b:l.length<=1099511627776)(A:List (DL×FG))(C:List (DL×F3))(R:List (DL×Bool)):
 yN (q,(q,(A,(C,(R,[])))),l,(l.length:Int),0)=some (q,q,A,C,R,edM q.2.1 l):=by
 refine pK (r:=lX) l (λm i=>(q,(q,(A,(C,(R,m)))),l,(l.length:Int),i)) (λm e=>if e.2.2<=q.2.1 then EB A8I (e.1,(e.2.1,(0:Int))) true m else m) (λm=>(q,q,A,C,R,m)) b (λnext s i y h=>?_) (λnext s=>?_) []
 .have a:=(A3.1 h).1;unfold lX;dsimp only;rw[E1,A7 a,A6,ER h,A0,ET oa];grind
 simp_all[lX,E1,A9,AA,A8]
noncomputable def cS(l:List DL)(v:DL):Bool:=(KS (l,v)).getD false
theorem pL(l:List DL)(v:DL)(a:l.length<=1048576):KS (l,v)=some (cS l v):=by have⟨r,h,_⟩:=oX (l,v) a;grind[cS]
noncomputable def XI(name:DL)(a:FG)(c:F3)(x:GT):Bool:=
 (DQ x.1 a.1||cS a.2.1 x.1)&&((DQ x.2.1 []||DQ x.2.1 name)&&((bA (x.2.2.1,c.2.1)).getD (false,0)).1)
def APG(s:QO)(x:GT)(a:FG)(c:F3)(b:a.2.1.length<=1048576)(h:c.2.1.2.2.2.2.1.length<=1048576):mL (some s,x,a,c)=some (XI s.1.1.1 a c x):=by have⟨r,d⟩:=AOF x.2.2.1 c.2.1 h;grind[mL,XI,pL,DQ,cS]
theorem A8J(x y:GT):((((DQ x.1 y.1)&&((DQ x.2.1 y.2.1)&&((DQ x.2.2.1 y.2.2.1)&&((DP x.2.2.2.1 y.2.2.2.1)&&((DP x.2.2.2.2.1 y.2.2.2.2.1)&&((DP x.2.2.2.2.2.1 y.2.2.2.2.2.1)&&(DP x.2.2.2.2.2.2 y.2.2.2.2.2.2)))))))||(decide (y.2.2.2.2.2.2<x.2.2.2.2.2.2)))||((DP x.2.2.2.2.2.2 y.2.2.2.2.2.2)&&(decide (y.2.2.2.2.2.1<=x.2.2.2.2.2.1))))=true<->MP y x:=by unfold MP;simp only[E0,DT,C5,A5,BA];omega
def APH(s:QO)(a:FG)(c:F3)(A:a.2.1.length<=1048576)(C:c.2.1.2.2.2.2.1.length<=1048576)(G:s.1.2.2.2.2.2.2.length<=1048576):Tot (WL (some s,a,c)) (λb=>OD s.1.2.2.2.2.2.2 (XI s.1.1.1 a c) b):=by
 unfold WL;dsimp only;rw[A0];refine DM.2 (Tot.mono (P:=λb=>OD s.1.2.2.2.2.2.2 (XI s.1.1.1 a c) b) ?_ λb l=>DN.2 l);refine EZ (r:=mM) (σ:=Int) s.1.2.2.2.2.2.2.length (λb i=>(some s,a,c,b,s.1.2.2.2.2.2.2,(s.1.2.2.2.2.2.2.length:Int),i)) (λi b=>OD (s.1.2.2.2.2.2.2.take i) (XI s.1.1.1 a c) b) oa (λnext b i hi j p=>?_) (λnext b j=>?_) (-1) (AP2 _)
 .unfold mM;dsimp only;have e:=A1 hi;rw[E1,A7 hi,A6,ER e,A0,ET oa,APG s _ a c A C,A0];rw[GH e]at p;generalize s.1.2.2.2.2.2.2[i]=x at e p ⊢;have w:(s.1.2.2.2.2.2.2.take i).length=i:=by rw[BQ];omega
  refine DO.2 ⟨λh=>p b (AP4 j (by simpa using h)),λh=>?_⟩;have z:XI s.1.1.1 a c x=true:=by simpa using h
  refine DO.2 ⟨λl=>?_,λl=>?_⟩
  .have:=A8F j z (.inl (AB l));grind
  .have l:=AG l;rw[A0];obtain⟨k,y,rfl,d,D,E⟩:∃(k:Nat) (y:GT),b=(k:Int)/\(s.1.2.2.2.2.2.2.take i)[k]?=some y/\True/\True:=by rcases j with⟨rfl,_⟩|⟨k,y,rfl,h1,_⟩<;>grind
   have m:s.1.2.2.2.2.2.2[k]?=some y:=by
    rw[B3]at d;split at d
    .exact d
    .cases d
   rw[ER m,A0];refine DO.2 ⟨λh=>?_,λh=>p _ (AP5 j d λB=>?_)⟩
   .have:=A8F j z (.inr ⟨k,y,rfl,d,(A8J x y).1 h⟩);grind
   grind[A8J]
 simp_all[mM,E1,A9,AA,A8,AQ,DN]
noncomputable def M3(fs:List DL)(ref:DL)(f:LA):Bool:=DQ f.2.1 ref&&(DP (fs.length:Int) 0||cS fs f.1)
def A8K(s:Option QO)(h:IA)(a:FG)(c:F3)(pa:List DL)(k:Int)(w:List DL){x:Af}(b:a.2.2.2.2.2.2[h.2.2.toNat]?=some x)(h0:0<=h.2.2):WM (s,h,a,c,pa,k,w)=some x.2.2.2.2:=by unfold WM;dsimp only;have e:h.2.2=((h.2.2.toNat:Nat):Int):=oa;rw[e,ER b,A0]
def API(s:Option QO)(h:IA)(a:FG)(c:F3)(pa:List DL)(k:Int)(d:List DL){x:Af}(C:a.2.2.2.2.2.2[h.2.2.toNat]?=some x)(h0:0<=h.2.2)(y:x.2.2.2.2.length<=1048576)(fs:List LA)(z:d.length+fs.length<=1099511627776):
 yW (h,(s,(h,(a,(c,(pa,(k,d)))))),fs,(fs.length:Int),0)=some (h,s,h,a,c,pa,k,d++(fs.filter (M3 x.2.2.2.2 h.2.1)).map (·.1)):=by
 have key:=EZ (r:=mN) (σ:=List DL) (Q:=λq=>q=(h,s,h,a,c,pa,k,d++(fs.filter (M3 x.2.2.2.2 h.2.1)).map (·.1))) fs.length (λw i=>(h,(s,(h,(a,(c,(pa,(k,w)))))),fs,(fs.length:Int),i))
  (λi w=>w=d++((fs.take i).filter (M3 x.2.2.2.2 h.2.1)).map (·.1)) oa (λnext w i hi l e=>?_) (λnext w l=>?_) d oh
 .exact M1 key
 .unfold mN;dsimp only;have b:=A1 hi;have p:=A8K s h a c pa k w C h0;have B:w.length<=d.length+i:=by rw[l,AI,B2];have:=CT (M3 x.2.2.2.2 h.2.1) (fs.take i);rw[BQ]at this;omega
  rw[E1,A7 hi,A6,ER b,A0,ET oa,p];rw[GH b,List.filter_append,D7,<-C1,<-l]at e;generalize fs[i]=f at b e ⊢;have j:M3 x.2.2.2.2 h.2.1 f=(DQ f.2.1 h.2.1&&(DP (x.2.2.2.2.length:Int) 0||cS x.2.2.2.2 f.1)):=rfl;cases A:DQ f.2.1 h.2.1 with
  |false=>grind
  |true=>
   rw[A6,A0,BK];rw[A,BK]at j;cases D:DP (x.2.2.2.2.length:Int) 0 with
   |true=>rw[BS,A8,A0,A8,A0,Bool.true_or,BK,A6];refine DM.2 (F6.2 ⟨oc,e _ ?_⟩);grind
   |false=>
    rw[CH,A6,A0,A6,pL _ _ y,A0,C0,BK];rw[D,C0]at j;refine DO.2 ⟨λm=>DM.2 (F6.2 ⟨oc,e _ ?_⟩),λm=>e _ ?_⟩
    .simp[j,m]
    .simp[j,m]
 simp_all[mN,E1,A9,AA,A8,AQ,DN]
noncomputable def HZ(fs:List DL)(ref:DL)(gs:List JG):List DL:=gs.flatMap λg=>(g.2.2.1.filter (M3 fs ref)).map (·.1)
def APJ(s:Option QO)(h:IA)(a:FG)(c:F3)(pa:List DL)(k:Int){x:Af}(A:a.2.2.2.2.2.2[h.2.2.toNat]?=some x)(h0:0<=h.2.2)(j:x.2.2.2.2.length<=1048576)(b:List JG)(y:b.length<=1)(m:∀g∈b,g.2.2.1.length<=1048576):
 yX (h,(s,(h,(a,(c,(pa,(k,([]:List DL))))))),b,(b.length:Int),0)=some (s,h,a,c,pa,k,HZ x.2.2.2.2 h.2.1 b):=by
 have key:=EZ (r:=mO) (σ:=List DL) (Q:=λq=>q=(s,h,a,c,pa,k,HZ x.2.2.2.2 h.2.1 b)) b.length (λw i=>(h,(s,(h,(a,(c,(pa,(k,w)))))),b,(b.length:Int),i))
  (λi w=>w=HZ x.2.2.2.2 h.2.1 (b.take i)/\w.length<=1048576*i) oa (λnext w i hi e z=>?_) (λnext w e=>?_) [] (by simp[HZ])
 .exact M1 key
 .unfold mO;dsimp only;have d:=A1 hi;have p:=m _ (AL hi);have l:=CT (M3 x.2.2.2.2 h.2.1) (b[i]).2.2.1;rw[E1,A7 hi,A6,ER d,A0,ET oa,API s h a c pa k w A h0 j _ oa,A0];refine z _ ⟨?_,?_⟩
  .rw[GH d];unfold HZ;rw[List.flatMap_append,<-HZ,<-e.1];simp
  grind
 simp_all[mO,E1,A9,AA,A8,AQ,DN]
def APK{fs:List DL}{ref:DL}{a:List JG}{s:DL}(h:s∈HZ fs ref a):0<a.length:=by have⟨g,b,_⟩:=List.mem_flatMap.1 h;grind
def cC{m:XH}(k:Nat)(L:List (Int×Option (XH->Option Bool)))(i:Nat){st:Int}{F:XH->Option Bool}{b:Bool}(h:L[i]?=some (st,some F))(d:F m=some b)(hi:i<1000):
 DX SA (k+1) (m,L,(L.length:Int),(i:Int))=bif b then some (.inr st)else DX SA k (m,L,(L.length:Int),((i+1:Nat):Int)):=by
 show SA (DX SA k) _=_;generalize DX SA k=next
 unfold SA;dsimp only;have a:=(A3.1 h).1;rw[E1,A7 a,A6,ER h,A0,ET oa];grind
def APL{m:XH}{d j l p s:Bool}(h1:mP m=some d)(w:bC m=some j)(y:bE m=some l)(z:bF m=some p)(A:WO m=some s):
 bG m=some (bif d then 1 else bif j then 2 else bif l then 6 else bif p then 5 else bif s then 3 else 4):=by
 unfold bG yY;rw[A0];unfold yZ;obtain⟨k,hk⟩:∃k,fuel=k+1+1+1+1+1+1:=⟨fuel-6,by rfl⟩;rw[hk];have bs:∀{x:Option Bool} {b:Bool},x=some b->(x.bind λr=>some r)=some b:=λh=>by rw[h];rfl
 generalize a:([((1:Int),(some (λx=>(mP x).bind λr=>some r))),((2:Int),(some (λx=>(bC x).bind λr=>some r))),((6:Int),(some (λx=>(bE x).bind λr=>some r))),((5:Int),(some (λx=>(bF x).bind λr=>some r))),((3:Int),(some (λx=>(WO x).bind λr=>some r)))]:List (Int×Option (XH->Option Bool)))=L;have e:=cC (m:=m) (k+1+1+1+1+1) L 0 (by rw[<-a];rfl) (bs h1) oa;have B:=cC (m:=m) (k+1+1+1+1) L 1 (by rw[<-a];rfl) (bs w) oa;have C:=cC (m:=m) (k+1+1+1) L 2 (by rw[<-a];rfl) (bs y) oa;have D:=cC (m:=m) (k+1+1) L 3 (by rw[<-a];rfl) (bs z) oa;have E:=cC (m:=m) (k+1) L 4 (by rw[<-a];rfl) (bs A) oa;have G:DX SA (k+1) (m,L,(L.length:Int),((4+1:Nat):Int))=some (.inl ()):=by rw[<-a];rfl
 grind
def JV(l:List GT)(k a b:Int):Bool:=bif decide (k<0)then false else match l[k.toNat]? with
 |some y=>DP y.2.2.2.1 a||DP y.2.2.2.1 b
 |none=>false
def A8L(s:QO)(h:IA)(a:FG)(c:F3)(pa:List DL)(k:Int)(w:List DL)(x y:Int)(hk:k<s.1.2.2.2.2.2.2.length):bB ((some s,h,a,c,pa,k,w),x,y)=some (JV s.1.2.2.2.2.2.2 k x y):=by
 unfold bB JV;dsimp only;by_cases e:k<0
 .grind
 .rw[A9 e,A8,A8,A0];have⟨z,d,b⟩:=KV (l:=s.1.2.2.2.2.2.2) (i:=k) oa hk;grind
def I_(R:List (DL×Bool))(wk:List DL):DL:=(wk.find? λf=>(DW DQ f R).getD false).getD []
theorem A8M(s:QO)(h:IA)(a:FG)(c:F3)(pa:List DL)(k:Int)(w:List DL)(z:w.length<=1099511627776):bD (some s,h,a,c,pa,k,w)=some (I_ s.2.2.2.1 w):=by
 unfold bD;dsimp only;generalize l:((some s,h,a,c,pa,k,w):XH)=m
 have key:=EZ (r:=mQ) (σ:=Unit) (Q:=λq:Sum Unit DL=>match q with| .inl _=>w.find? (λf=>(DW DQ f s.2.2.2.1).getD false)=none| .inr y=>w.find? (λf=>(DW DQ f s.2.2.2.1).getD false)=some y) w.length (λ_ i=>(m,w,(w.length:Int),i))
  (λi _=>(w.take i).find? (λf=>(DW DQ f s.2.2.2.1).getD false)=none) oa (λnext _ i hi d p=>?_) (λnext _ d=>?_) () oh
 .refine M1 (DM.2 (key.mono λq x=>?_));grind[I_,DN]
 .unfold mQ;dsimp only;have b:=A1 hi;rw[E1,A7 hi,A6,ER b,A0,ET oa];have j:m.1=some s:=by rw[<-l]
  rw[j,A0];refine DO.2 ⟨λe=>DN.2 ?_,λe=>p () ?_⟩
  .have:w=w.take i++(w[i]::w.drop (i+1)):=by rw[<-BD hi,List.take_append_drop]
   grind
  .rw[GH b,List.find?_append,d,List.find?_cons,e];rfl
 simp_all[mQ,E1,A9,AA,A8,AQ,DN]
def APM{R:List (DL×Bool)}{w:List DL}(h:I_ R w≠[]):I_ R w∈w:=by unfold I_ at h ⊢;cases e:w.find? λf=>(DW DQ f R).getD false<;>grind
theorem APN(l:List DL):∀f,(DW DQ f (l.foldl (λm s=>EB DQ s true m) [])).getD false=decide (f∈l):=by
 have key:∀(l b:List DL) (m:List (DL×Bool)),NG m b->NG (l.foldl (λm s=>EB DQ s true m) m) (b++l):=by
  intro l;induction l with
  |nil=>simp
  |cons a r d=>intro b m h;have:=d (b++[a]) _ (pF h a);grind
 intro f;have:=key l [] [] (λk=>by simp[DW]);exact XE this f
def pM(p:GZ)(R:List (DL×Bool)):Prop:=(p.2.2.2.1.length:Int)=1->∀y r,at? p.2.2.2.1 (0:Int)=some y->O3 (y,p.2.2.2.2.1,p.2.2.2.2.2.1)=some r->∀f,(DW DQ f R).getD false=decide (f∈r.1)
def APO(p:GZ)(E:PrB p)(d:PrOk p):∃A C R N,(∀l,QF (MQ p l)=some (some (MQ p l,A,C,R,N)))/\(∀a∈p.2.2.1.2.1,DW DQ a.1 A=some a)/\(∀c∈p.1.2.2.2.1,DW DQ c.1 C=some c)/\pM p R:=by
 have K:=d.bs.2.1;have M:=d.bl.few;have O:=d.bl.edges
 have key:∃R,pM p R/\∀(q:GZ) (A:List (DL×FG)) (C:List (DL×F3)) (N:List ((DL×DL×Int)×Bool)),q.2.2.2.1=p.2.2.2.1->q.2.2.2.2.1=p.2.2.2.2.1->q.2.2.2.2.2.1=p.2.2.2.2.2.1->
  (bif (DP (q.2.2.2.1.length:Int) (1:Int)) then
   (at? q.2.2.2.1 (0:Int)).bind λH=>(O3 (H,q.2.2.2.2.1,q.2.2.2.2.2.1)).bind λj=>
   (lZ ((q,(A,(C,(([]:List (DL×Bool)),N)))),j.1,(j.1.length:Int),(0:Int))).bind λb=>some (some (b.1,(b.2.1,(b.2.2.1,(b.2.2.2.1,b.2.2.2.2)))))
  else some (some (q,(A,(C,(([]:List (DL×Bool)),N))))))=some (some (q,A,C,R,N)):=by
  by_cases h1:(p.2.2.2.1.length:Int)=1
  .obtain⟨y,V,G⟩:=KV (l:=p.2.2.2.1) (i:=0) (AR _) oa;have⟨r,Q,U⟩:=A0d (E.gr y (AH G)) p.2.2.2.2.1 E.f0 E.f1;refine⟨r.1.foldl (λm s=>EB DQ s true m) [],λ_ Y X W T=>(by grind[APN]),λq A C N e w x=>?_⟩;rw[e,w,x,DT,A7 h1,A6,V,A0,Q,A0];have:=pK (r:=lY) (σ:=List (DL×Bool)) r.1 (λm i=>((q,(A,(C,(m,N)))),r.1,(r.1.length:Int),i)) (λm s=>EB DQ s true m) (λm=>(q,(A,(C,(m,N))))) oa (λnext s i y h=>?_) (λnext s=>?_) []
   .simp_all[lZ,A0]
   .have D:=(A3.1 h).1;unfold lY;dsimp only;rw[E1,A7 D,A6,ER h,A0,ET oa]
   simp_all[lY,E1,A9,AA,A8]
  .refine⟨[],λh=>absurd h h1,λq A C N e _ _=>?_⟩;rw[e,DT,A9 h1,A8]
 obtain⟨R,B,I⟩:=key
 refine ⟨p.2.2.1.2.1.foldl (λm a=>EB DQ a.1 a m) [],p.1.2.2.2.1.foldl (λm c=>EB DQ c.1 c m) [],R,
  edM p.2.1 p.1.2.2.2.2,λl=>?_,λa J=>?_,λc L=>?_,B⟩
 .unfold QF;have e:=APD (MQ p l) p.2.2.1.2.1 oa [] ([],[],[]);have w:=APE (MQ p l) p.1.2.2.2.1 oa [] (p.2.2.1.2.1.foldl (λm a=>EB DQ a.1 a m) []) ([],[]);have x:=APF (MQ p l) p.1.2.2.2.2 oa (p.2.2.1.2.1.foldl (λm a=>EB DQ a.1 a m) []) (p.1.2.2.2.1.foldl (λm c=>EB DQ c.1 c m) []) [];refine(congrArg (λz=>Option.bind z _) e).trans ((congrArg (λz=>Option.bind z _) w).trans ((congrArg (λz=>Option.bind z _) x).trans ?_));exact I (MQ p l) _ _ _ rfl rfl rfl
 .exact A8H (λa:FG=>a.1) _ [] (AO2 d.bs) a J
 .exact A8H (λc:F3=>c.1) _ [] d.bl.asc c L
noncomputable def P5(p:GZ)(x:Af)(wk:List DL):Bool:=(DP (p.2.2.2.1.length:Int) 1&&decide ((0:Int)<(wk.length:Int)))&&decide (((bif (DP (p.2.2.2.1.length:Int) 1&&decide ((0:Int)<(wk.length:Int)))then x.2.2.2.2 else []).length:Int)<=(wk.length:Int))
noncomputable def stF(p:GZ)(R:List (DL×Bool))(x:Af)(pa wk:List DL)(s3 s2:Bool):Int:=bif DP (pa.length:Int) 0 then 1 else bif s3 then 2 else bif !(DQ (I_ R wk) [])then 6 else bif s2 then 5 else bif P5 p x wk then 3 else 4
def APP(p:GZ)(G:PrB p)(ho:PrOk p)(A:List (DL×FG))(C:List (DL×F3))(R:List (DL×Bool))(N:List ((DL×DL×Int)×Bool))(h:IA)(a:FG)(c:F3)(pa d:List DL){x:Af}(X:a.2.2.2.2.2.2[h.2.2.toNat]?=some x)(h0:0<=h.2.2)
 (J:d.length<=1099511627776)(I:∀f∈d,0<p.2.2.2.1.length):
 ∃F:Bool->Bool->Int×Int×DL×List cB,(∀m j,(F m j).2.2.2.length<=1/\∀w∈(F m j).2.2.2,w.2.1.length<=3000/\w.2.2.length<=3000)/\(∀m j,(F m j).1=stF p R x pa d m j)/\∀(l:List GT) (k:Int),k<l.length->WQ (some (MQ p l,A,C,R,N),h,a,c,pa,k,d)=
  some (h.1,h.2.1,h.2.2,(F (JV l k 3 4) (JV l k 2 2)).1,(F (JV l k 3 4) (JV l k 2 2)).2.1,pa,(F (JV l k 3 4) (JV l k 2 2)).2.2.1,(F (JV l k 3 4) (JV l k 2 2)).2.2.2,k):=by
 obtain⟨M,H⟩:∃M,∀(s:Option QO) (k:Int),mR (s,h,a,c,pa,k,d)=some M:=by have⟨r,O,_⟩:=A7Z.1 a.2.2.2.2.2.1 trivial;refine⟨bif DQ a.2.2.2.2.2.1 []then 100 else r.1,λs k=>?_⟩;grind[mR,DQ]
 have D:∀(l:List GT) (k:Int),WO (some (MQ p l,A,C,R,N),h,a,c,pa,k,d)=some (P5 p x d):=λl k=>by unfold WO;dsimp only;rw[A0,A8K _ h a c pa k d X h0,show(MQ p l).2.2.2.1=p.2.2.2.1 from rfl];unfold P5;grind
 have z:∀(l:List GT) (k:Int),k<l.length->bG (some (MQ p l,A,C,R,N),h,a,c,pa,k,d)=some (bif DP (pa.length:Int) 0 then 1 else bif JV l k 3 4 then 2 else bif !(DQ (I_ R d) [])then 6 else bif JV l k 2 2 then 5 else bif P5 p x d then 3 else 4):=λl k hk=>by
  refine APL rfl ?_ ?_ ?_ (D l k)
  .unfold bC;rw[A8L _ h a c pa k d 3 4 hk];rfl
  .grind[bE,A8M]
  .unfold bF;rw[A8L _ h a c pa k d 2 2 hk];rfl
 obtain⟨B,W,K⟩:∃B:cB,(B.2.1.length<=3000/\B.2.2.length<=3000)/\(DQ (I_ R d) []=false->∃y b e,at? p.2.2.2.1 (0:Int)=some y/\bJ (y,p.2.2.2.2.1,p.2.2.2.2.2.1,I_ R d)=some (B,b,e)):=by
  cases e:DQ (I_ R d) []with
  |true=>exact⟨([],[],[]),⟨oh,oh⟩,λh=>oq⟩
  |false=>
   have E:I_ R d≠[]:=by rw[E0]at e;simpa using e
   have T:=I _ (APM E);have⟨y,Q,L⟩:=KV (l:=p.2.2.2.1) (i:=0) (AR _) oa;have⟨⟨B,b,e⟩,O,U⟩:=AP6 (G.gr y (AH L)) p.2.2.2.2.1 G.f0 G.f1 (I_ R d);grind
 refine ⟨λm j=>(bif DP (pa.length:Int) 0 then 1 else bif m then 2 else bif !(DQ (I_ R d) []) then 6 else bif j then 5 else bif P5 p x d then 3 else 4,M,
  bif DP (bif DP (pa.length:Int) 0 then 1 else bif m then 2 else bif !(DQ (I_ R d) [])then 6 else bif j then 5 else bif P5 p x d then 3 else 4) 6 then I_ R d else [],
  bif DP (bif DP (pa.length:Int) 0 then 1 else bif m then 2 else bif !(DQ (I_ R d) [])then 6 else bif j then 5 else bif P5 p x d then 3 else 4) 6 then [B]else []),λm j=>?_,λm j=>rfl,λl k hk=>?_⟩
 .grind
 unfold WQ;rw[z l k hk,A0,H,A0];dsimp only;generalize V:(bif DP (pa.length:Int) 0 then(1:Int)else bif JV l k 3 4 then 2 else bif !(DQ (I_ R d) [])then 6 else bif JV l k 2 2 then 5 else bif P5 p x d then 3 else 4)=st;cases Z:DP st 6 with
 |false=>rfl
 |true=>
  have Y:DQ (I_ R d) []=false:=by
   cases hq:DQ (I_ R d) []with
   |false=>rfl
   |true=>grind[DT]
  have⟨y,b,e,Q,O⟩:=K Y;rw[A6,A8M _ h a c pa k d J,A0,A0,show(MQ p l).2.2.2.1=p.2.2.2.1 from rfl,Q,A0,A0,A0,show(MQ p l).2.2.2.2.1=p.2.2.2.2.1 from rfl,show(MQ p l).2.2.2.2.2.1=p.2.2.2.2.2.1 from rfl];grind
def APQ{α:Type}{l:List α}{i:Int}{x:α}(h:at? l i=some x):l≠[]:=λe=>by simp_all[EI,trivial,Tot,at?]
def name_ne{s:DL}(h:OW s=some true):s≠[]:=by
 unfold OW at h;have⟨r,d,h⟩:=FH h;rcases r with r|r
 .intro e;subst e;cases h
 .have:=bZ (r:=WC) (λx=>x.1=s) (Q:=λz=>match z with | .inl _=>True | .inr _=>s≠[]) (λnext x z l b a=>by
   obtain⟨m,t,i⟩:=x;dsimp only at b;subst b;unfold WC at a;dsimp only at a;rcases FW a with⟨_,a⟩|⟨_,a⟩
   .obtain⟨j,h1,a⟩:=FH a;have⟨_,_,a⟩:=FH a;have⟨_,_,a⟩:=FH a;rcases FW a with⟨_,a⟩|⟨_,a⟩
    .cases a;exact APQ h1
    grind
   grind) _ _ _ rfl d
  exact this
def APR{s b:DL}{f:Bool}(h:O2 (s,b,f)=some 0):s≠[]/\(f=false->b<s):=by
 unfold O2 at h;dsimp only at h;have⟨r,a,h⟩:=FH h;rcases FW h with⟨_,h⟩|⟨c,h⟩
 .cases h
 have e:r=true:=by simpa using c
 refine⟨name_ne (by rw[a,e]),λj=>?_⟩;rcases FW h with⟨_,h⟩|⟨d,h⟩<;>simp_all[FW,A0M]
theorem APS{k:P1}{l:List LA}(R:l.length<=1048576)(h:WF (k,l)=some 0):l.Pairwise (λa b=>a.1<b.1)/\∀x∈l,x.1≠[]:=by
 unfold WF at h;dsimp only at h;have⟨r,I,h⟩:=FH h;have key:=bZ (r:=WE) (λx=>x.2.2.1=l/\x.2.2.2.1=(l.length:Int)/\∃n:Nat,x.2.2.2.2=(n:Int)/\(l.take n).Pairwise (λa b=>a.1<b.1)/\(∀y∈l.take n,y.1≠[])/\(0<n->∃y,l[n-1]?=some y/\y.1=x.2.1)) (Q:=λz=>match z with| .inl _=>l.Pairwise (λa b=>a.1<b.1)/\∀x∈l,x.1≠[]| .inr e=>e≠0) (λnext x z E J d=>?_) _ _ _ ⟨rfl,rfl,0,rfl,oh,oh,λh=>absurd h (AA 0)⟩ I
 .grind
 .obtain⟨U,b,L,t,i⟩:=x;obtain⟨h1,C,n,D,G,Q,H⟩:=J;dsimp only at h1 C D H;subst h1 C D;unfold WE at d;dsimp only at d;have ne:∀{e:Int},(!(DP e 0))=true->e≠0:=λ{e} h=>by grind[DT]
  rcases FW d with⟨c,d⟩|⟨c,d⟩
  .have c:=AB c;have m:n<L.length:=oa;have j:=A1 m;have⟨y,w,d⟩:=FH d;rw[ER j]at w;cases w;have⟨V,p,d⟩:=FH d;rcases FW d with⟨B,d⟩|⟨B,d⟩
   .grind
   rw[J6 B]at p;have⟨N,O⟩:=APR p;have⟨_,_,d⟩:=FH d;rcases FW d with⟨_,d⟩|⟨_,d⟩
   .grind
   rcases FW d with⟨_,d⟩|⟨_,d⟩
   .grind
   have⟨A,s,d⟩:=FH d;rcases A with A|A
   .obtain⟨W,_,d⟩:=FH d;rcases FW d with⟨M,d⟩|⟨_,d⟩
    .grind
    rw[ET oa]at d;have T:=GH j;refine E _ _ ⟨rfl,rfl,n+1,oh,?_,λy w=>?_,λ_=>⟨_,j,rfl⟩⟩ d
    .refine A7t (R:=λa b:LA=>a.1<b.1) (λa b c=>X6) G m λh0 X K=>?_;grind[DP,DT]
    grind
   .cases d;refine bZ (r:=WD) (λ_=>True) (Q:=λz=>match z with| .inl _=>True| .inr e=>e≠0) (λnext x z E _ d=>?_) _ _ _ trivial s;unfold WD at d;dsimp only at d;rcases FW d with⟨_,d⟩|⟨_,d⟩
    .obtain⟨_,_,d⟩:=FH d;have⟨_,_,d⟩:=FH d;grind
    grind
  grind[of_decide_eq_false,List.take_of_length_le]
def APT{g:JG}(w:GB g){m:Int}{fs:List DL}{r:List DL}(h:O3 (g,m,fs)=some (r,0)):g.2.2.1.Pairwise (λa b=>a.1<b.1)/\∀x∈g.2.2.1,x.1≠[]:=by
 have ne:∀{e:Int},(!(DP e 0))=true->e=0->False:=λ{e} h h0=>by grind[DT]
 unfold O3 at h;dsimp only at h;have⟨y,h1,h⟩:=FH h;rcases FW h with⟨c,h⟩|⟨c,h⟩
 .grind
 have c:=J6 c;unfold WH at h1;dsimp only at h1;have⟨z,l,h1⟩:=FH h1;rcases FW h1 with⟨d,h1⟩|⟨d,_⟩
 .grind
 rw[J6 d]at l;unfold aO at l;have⟨k,_,l⟩:=FH l;have⟨e,j,l⟩:=FH l;cases l;unfold kQ at j;dsimp only at j;rcases FW j with⟨_,j⟩|⟨_,j⟩
 .cases j
 have⟨_,_,j⟩:=FH j;rcases FW j with⟨d,j⟩|⟨_,j⟩
 .grind
 have⟨_,_,j⟩:=FH j;rcases FW j with⟨d,j⟩|⟨_,j⟩
 .grind
 have⟨p,s,j⟩:=FH j;rcases FW j with⟨d,j⟩|⟨d,_⟩
 .grind
 grind[J6,APS]
def APU{l:List GT}{ab:GT->Bool}{b:Int}(h:OD l ab b):-1<=b/\b<(l.length:Int):=by rcases h with⟨rfl,_⟩|⟨k,y,rfl,h1,_⟩<;>grind
theorem z0:(!(DP (0:Int) 0))=false:=rfl
def APV{p:GZ}(h:OX p=some 0):S1 p.1=some 0/\1<=p.2.1/\p.2.1<=4/\((p.2.2.2.1.length:Int)=1->∃y r,at? p.2.2.2.1 (0:Int)=some y/\O3 (y,p.2.2.2.2.1,p.2.2.2.2.2.1)=some (r,0)):=by
 have ne:∀{e:Int},(!(DP e 0))=true->e=0->False:=λ{e} h h0=>by grind[DT]
 unfold OX at h;have⟨s,h1,h⟩:=FH h;rcases FW h with⟨c,h⟩|⟨c,h⟩
 .grind
 rw[J6 c]at h1;rcases FW h with⟨_,h⟩|⟨l,h⟩
 .cases h
 have⟨b,j⟩:=BM.1 l;have b:=AG b;have j:=AG j;have⟨_,_,h⟩:=FH h;rcases FW h with⟨c,h⟩|⟨_,h⟩
 .grind
 have⟨w,a,h⟩:=FH h;rcases FW h with⟨c,h⟩|⟨c,_⟩
 .grind
 rw[J6 c]at a;refine⟨h1,oa,oa,λm=>?_⟩;unfold aQ at a;rcases FW a with⟨_,a⟩|⟨_,a⟩
 .cases a
 rcases FW a with⟨d,_⟩|⟨_,a⟩
 .rw[m]at d;cases d
 have⟨y,z,a⟩:=FH a;have⟨r,x,a⟩:=FH a;grind
def APW(ref:DL)(x:Af)(w:List DL)(j:x.2.2.2.2.length<=1048576)(fs:List LA)(l:w.length+fs.length<=1099511627776):
 zI (ref,x,w,fs,(fs.length:Int),0)=some (x,w++(fs.filter (M3 x.2.2.2.2 ref)).map (·.1)):=by
 refine M1 (EZ (r:=nL) (σ:=List DL) fs.length (λu i=>(ref,x,u,fs,(fs.length:Int),i)) (λi u=>u=w++((fs.take i).filter (M3 x.2.2.2.2 ref)).map (·.1)) oa (λnext u i hi a b=>?_) (λnext u a=>?_) w oh)
 .unfold nL;dsimp only;have h:=A1 hi;have p:u.length<=w.length+i:=by rw[a,AI,B2];have:=CT (M3 x.2.2.2.2 ref) (fs.take i);rw[BQ]at this;omega
  rw[E1,A7 hi,A6,ER h,A0,ET oa];rw[GH h,List.filter_append,D7,<-C1,<-a]at b;generalize fs[i]=f at h b ⊢;have d:M3 x.2.2.2.2 ref f=(DQ f.2.1 ref&&(DP (x.2.2.2.2.length:Int) 0||cS x.2.2.2.2 f.1)):=rfl;cases m:DQ f.2.1 ref with
  |false=>grind
  |true=>
   rw[m,BK]at d;cases s:DP (x.2.2.2.2.length:Int) 0 with
   |true=>rw[BS,Bool.and_false,A8,A0,Bool.true_or,BK,A6];grind[DM,F6]
   |false=>
    rw[CH,BK,A6,pL _ _ j,A0,C0,BK];rw[s,C0]at d;refine DO.2 ⟨λe=>DM.2 (F6.2 ⟨oc,b _ ?_⟩),λe=>b _ ?_⟩
    .simp[d,e]
    .simp[d,e]
 .unfold nL;dsimp only;rw[E1,A9 (AA _),A8,a,AQ];exact DN.2 rfl
def APX(w:List DL)(l:w.length<=1048576)(fs:List DL)(j:fs.length<=1048576)(h:∀n∈fs,n∈w):zK (w,fs,(fs.length:Int),0)=some (.inl w):=by
 refine M1 (EZ (r:=nN) (σ:=Unit) fs.length (λ_ i=>(w,fs,(fs.length:Int),i)) (λ_ _=>True) oa (λnext _ i hi _ e=>?_) (λnext _ _=>?_) () trivial)
 .unfold nN;dsimp only;have⟨b,d,a⟩:=pC w fs[i] oa;rw[E1,A7 hi,A6,ER (A1 hi),A0,ET oa,d,A0,a.2 (h _ (AL hi)),BS,A8];exact e () trivial
 .unfold nN;dsimp only;rw[E1,A9 (AA _),A8];exact DN.2 rfl
def APY{w fs:List DL}(b:w.Nodup)(j:∀n∈w,n∈fs)(l:fs.length<=w.length):∀n∈fs,n∈w:=λn d=>by apply BI;intro h;have:=List.Nodup.length_le_of_subset b (l₂:=fs.erase n) λm a=>(List.mem_erase_of_ne (λe=>oc)).2 (j m a);grind
def APZ(l:List DL)(R:List DL)(m:l.length<=1048576)(j:R.length<=1048576)(h:∀n∈l,n ∉ R):nP (l,(λx=>(WS (x,(some R))).bind λr=>some r))=some false:=by
 unfold nP zM;dsimp only;have key:=EZ (r:=nO) (σ:=Unit) (Q:=λz=>z=.inl ()) l.length (λ_ i=>(l,(λx=>(WS (x,(some R))).bind λr=>some r),(l.length:Int),i)) (λ_ _=>True) oa (λnext _ i hi _ e=>?_) (λnext _ _=>?_) () trivial
 .obtain⟨q,p,rfl⟩:=key;simp_all[zL,WS,bind]
 .unfold nO;dsimp only;have⟨b,a,d⟩:=pC R l[i] oa;rw[E1,A7 hi,A6,ER (A1 hi),A0,ET oa];unfold WS;dsimp only;rw[A0,a,A0,A0,A0];cases b with
  |true=>grind
  |false=>exact e () trivial
 .unfold nO;dsimp only;rw[E1,A9 (AA _),A8];exact DN.2 rfl
def AP_{p:GZ}(h:OX p=some 0){A:List (DL×FG)}{C:List (DL×F3)}{R:List (DL×Bool)}{N:List ((DL×DL×Int)×Bool)}(b:QF p=some (some (p,A,C,R,N))){a:FG}{c:F3}(d:DW DQ a.1 A=some a)(e:DW DQ c.1 C=some c){i:Nat}(hi:i<a.2.2.2.2.2.2.length){k:Int}(hk:WL (some (p,A,C,R,N),a,c)=some k)(h0:0<=k):
 nK (p,(a.1,(c.1,(i:Int))))=some (k,true,0):=by
 unfold nK;dsimp only;rw[h,A0,z0,A8,b,A0,A0,A0];grind
def A8N{p:GZ}(m:PrB p)(ho:PrOk p)(O:OX p=some 0){A:List (DL×FG)}{C:List (DL×F3)}{R:List (DL×Bool)}{N:List ((DL×DL×Int)×Bool)}(x4:QF p=some (some (p,A,C,R,N)))(hA:∀a∈p.2.2.1.2.1,DW DQ a.1 A=some a)(hC:∀c∈p.1.2.2.2.1,DW DQ c.1 C=some c)(hR:pM p R)
 {a:FG}(ha:a∈p.2.2.1.2.1){c:F3}(hc:c∈p.1.2.2.2.1){i:Nat}{x:Af}(hx:a.2.2.2.2.2.2[i]?=some x):
 ∃f:UF,((WN (some (p,A,C,R,N),(a.1,(c.1,(i:Int))))).bind λr5=>WQ r5)=some f/\f.1=a.1/\f.2.1=c.1/\f.2.2.1=(i:Int)/\bM (p,f,x)=some true:=by
 have⟨k1,k2,k3,k4⟩:=APV O;have hi:=(A3.1 hx).1;have l:=m.bs a ha;have y1:=l.2.2.2.2.2.2 x (AH hx);have E:=y1.2.2.2.2.2.1;have⟨pr,X,y4⟩:=AOo p.1 m.bl c.1 p.2.1;have H:∀g∈p.2.2.2.1,g.2.2.1.length<=1048576:=λg hg=>(m.gr g hg).f0;have Z:(HZ x.2.2.2.2 c.1 p.2.2.2.1).length<=1048576:=by
  have h1:=ho.gr;unfold HZ;generalize p.2.2.2.1=gs at h1 H;cases gs with
  |nil=>simp
  |cons g gs=>grind
 have h4:a.2.2.2.2.2.2[((a.1,(c.1,(i:Int))):IA).2.2.toNat]?=some x:=by simpa using hx
 have⟨F,_,x5,hF⟩:=APP p m ho A C R N (a.1,(c.1,(i:Int))) a c pr.1 (HZ x.2.2.2.2 c.1 p.2.2.2.1) h4 oh oa λf hf=>APK hf;have⟨k,hk,h9⟩:=APH (p,A,C,R,N) a c l.2.1 (m.bl.c c hc).2.1 m.s0;have J:=APU h9;have hm:WN (some (p,A,C,R,N),(a.1,(c.1,(i:Int))))=some (some (p,A,C,R,N),(a.1,(c.1,(i:Int))),a,c,pr.1,k,HZ x.2.2.2.2 c.1 p.2.2.2.1):=by
  unfold WN;dsimp only
  rw [A0,A0,A0,A0,hA a ha,hC c hc,DD,DD,X,A0,hk,A0,A0,
   APJ _ (a.1,(c.1,(i:Int))) a c pr.1 k h4 oh E p.2.2.2.1 ho.gr H,A0]
 have hf:=hF p.2.2.2.2.2.2 k J.2;refine⟨_,by rw[hm,A0];exact hf,rfl,rfl,rfl,?_⟩;generalize d:JV p.2.2.2.2.2.2 k 3 4=s3;generalize z3:JV p.2.2.2.2.2.2 k 2 2=s2;unfold bM;dsimp only;rw[x5 s3 s2];unfold stF;cases y9:DP (pr.1.length:Int) 0 with
 |true=>rw[A6,show DP (1:Int) 1=true from rfl,A6];have V:pr.1=[]:=AF (by grind[DT]);have⟨Rs,h1,h2,h3⟩:=AP0 ho.bl k1 k2 k3 hc X V;have⟨b,hb,h7⟩:=pC Rs c.1 oa;grind
 |false=>
  rw[A8];cases s3 with
  |true=>
   have U:0<=k:=by apply BI;intro h;unfold JV at d;rw[A7 (show k<0 by omega),A6]at d;cases d
   have⟨y,M,y2⟩:=KV (l:=p.2.2.2.2.2.2) U J.2;have y6:(DP y.2.2.2.1 3||DP y.2.2.2.1 4)=true:=by unfold JV at d;rw[A9 (show ¬k<0 by omega),A8,y2]at d;exact d
   rw[A6,show DP (2:Int) 1=false from rfl,A8,show DP (2:Int) 2=true from rfl,A6,AP_ O x4 (hA a ha) (hC c hc) hi hk U,A0];dsimp only;rw[show DP (0:Int) 0=true from rfl,show DP k k=true from by rw[DT];simp,Bool.and_self,Bool.and_self,BK,A7 (show k<(p.2.2.2.2.2.2.length:Int)from J.2),A6,M,A0,BK];cases h3:DP y.2.2.2.1 3<;>grind
  |false=>
   rw[A8];cases Y:DQ (I_ R (HZ x.2.2.2.2 c.1 p.2.2.2.1)) []with
   |false=>rfl
   |true=>
    rw[BS,A8];cases s2 with
    |true=>rfl
    |false=>
     rw[A8];cases D:P5 p x (HZ x.2.2.2.2 c.1 p.2.2.2.1)with
     |false=>rfl
     |true=>
      rw[A6,show DP (3:Int) 1=false from rfl,A8,show DP (3:Int) 2=false from rfl,A8,show DP (3:Int) 3=true from rfl,A6];unfold P5 at D;rw[A5]at D;obtain⟨w,B⟩:=D;rw[w,A6]at B;rw[A5]at w;obtain⟨G,L⟩:=w;have s:(p.2.2.2.1.length:Int)=1:=by rw[DT]at G;simpa using G
      have L:=AB L;have B:=AB B;have⟨y,r,M,hr⟩:=k4 s;obtain⟨g,I⟩:∃g,p.2.2.2.1=[g]:=by have x0:p.2.2.2.1.length=1:=oa;generalize p.2.2.2.1=gs at x0;cases gs<;>simp_all
      have y3:y=g:=by rw[I]at M;exact(A2 M).symm
      subst y3;have T:GB y:=m.gr y (by rw[I];simp);have⟨na,nn⟩:=APT T hr;have y0:HZ x.2.2.2.2 c.1 p.2.2.2.1=(y.2.2.1.filter (M3 x.2.2.2.2 c.1)).map (·.1):=by rw[I];simp[HZ]
      have K:∀n∈HZ x.2.2.2.2 c.1 p.2.2.2.1,∃z∈y.2.2.1,M3 x.2.2.2.2 c.1 z=true/\z.1=n:=λn hn=>by grind
      have x1:(HZ x.2.2.2.2 c.1 p.2.2.2.1).Nodup:=by rw[y0];refine List.Pairwise.map _ (λa b l e=>?_) (na.filter _);rw[e]at l;exact MJ _ l
      have Q:∀n∈x.2.2.2.2,n∈HZ x.2.2.2.2 c.1 p.2.2.2.1:=by
       by_cases he:x.2.2.2.2=[]
       .rw[he];simp
       .refine APY x1 (λn hn=>?_) oa;obtain⟨z,_,z2,rfl⟩:=K n hn;unfold M3 at z2;rw[A5,C5]at z2;rcases z2.2 with h|h
        .grind[DT,absurd]
        .obtain⟨b,hb,h7⟩:=pC x.2.2.2.2 z.1 oa;grind[pL,Option.some.inj]
      have h5:zJ (c.1,x,([]:List DL),p.2.2.2.1,(p.2.2.2.1.length:Int),0)=some (x,HZ x.2.2.2.2 c.1 p.2.2.2.1):=by
       refine M1 (EZ (r:=nM) (σ:=List DL) p.2.2.2.1.length (λu i=>(c.1,x,u,p.2.2.2.1,(p.2.2.2.1.length:Int),i)) (λj u=>u=HZ x.2.2.2.2 c.1 (p.2.2.2.1.take j)/\j<=1) oa (λnext u j hj hJ hn=>?_) (λnext u hJ=>?_) [] ⟨by simp[HZ],oa⟩)
       .unfold nM;dsimp only;have h6:=A1 hj;have h8:j=0:=oa;subst h8;have hu:u=[]:=by rw[hJ.1];simp[HZ]
        subst hu;have hl:=H _ (AL hj);rw[E1,A7 hj,A6,ER h6,A0,ET oa,APW c.1 x [] E _ ot,A0];grind
       .unfold nM;dsimp only;rw[E1,A9 (AA _),A8,hJ.1,AQ];exact DN.2 rfl
      have hW:bL (p,c.1,x)=some (HZ x.2.2.2.2 c.1 p.2.2.2.1,true):=by unfold bL;dsimp only;rw[h5,A0];dsimp only;rw[APX _ Z _ E Q,A0];dsimp only;rw[A7 L]
      have x3:r.length<=1048576:=by have⟨q,hq,x2⟩:=A0d T p.2.2.2.2.1 m.f0 m.f1;rw[hr]at hq;cases hq;exact AM x2 oi
      have W:∀n∈HZ x.2.2.2.2 c.1 p.2.2.2.1,n ∉ r:=λn hn y8=>by
       have z1:=hR s y (r,0) M hr n;have y5:I_ R (HZ x.2.2.2.2 c.1 p.2.2.2.1)=[]:=by rw[E0]at Y;simpa using Y
       cases y7:(HZ x.2.2.2.2 c.1 p.2.2.2.1).find? λf=>(DW DQ f R).getD false with
       |none=>grind
       |some z=>grind[List.mem_of_find?_eq_some,I_]
      rw[show bL (p,_,x)=_ from hW,A0];dsimp only;rw[G,BS,Bool.or_self,A8,M,A0,hr,A0];dsimp only;rw[show DP (0:Int) 0=true from rfl,A6,APZ _ _ Z x3 W,A0];rfl
theorem A8O:nG ()=some true:=oe
def FsL(p:GZ)(A:List (DL×FG))(C:List (DL×F3))(R:List (DL×Bool))(N:List ((DL×DL×Int)×Bool))(hits:List IA)(l:List UF):Prop:=l.length=hits.length/\∀(j:Nat) (h:IA),hits[j]?=some h->∃f,l[j]?=some f/\((WN (some (p,A,C,R,N),h)).bind λr5=>WQ r5)=some f
def APa{p:GZ}{h:IA}(d:h∈p.2.2.1.2.1.flatMap (JU p.1.2.2.2.1)):∃a∈p.2.2.1.2.1,∃c∈p.1.2.2.2.1,∃(i:Nat) (x:Af),a.2.2.2.2.2.2[i]?=some x/\h=(a.1,(c.1,(i:Int))):=by
 have⟨a,j,b⟩:=List.mem_flatMap.1 d;unfold JU at b;split at b
 .cases b
 obtain⟨q,e,rfl⟩:=B_.1 b;obtain⟨c,i,h1,rfl⟩:=(A0b _ _ _).1 e;grind[KG,List.mem_of_getElem?,QJ,Int.toNat_natCast]
def APb(p:GZ)(w:PrB p):Tot (WR p) (λr=>r.2.2≠0\/(OX p=some 0/\PrOk p/\(∀c∈p.1.2.2.2.1,J4 c.2.1=some (IP c,0))/\(∀a∈p.2.2.1.2.1,MK a=0)/\∃A C R N,QF p=some (some (p,A,C,R,N))/\(∀a∈p.2.2.1.2.1,DW DQ a.1 A=some a)/\(∀c∈p.1.2.2.2.1,DW DQ c.1 C=some c)/\pM p R/\r.2.1.length<=100000/\FsL p A C R N (p.2.2.1.2.1.flatMap (JU p.1.2.2.2.1)) r.2.1)):=by
 have⟨e,D,G⟩:=APC p w;by_cases T:e=0
 .subst T;have⟨M,_⟩:=G rfl;have⟨q,X,O,Q⟩:=AOs w.bs w.bl w.bv;by_cases d:q.2=0
  .obtain⟨_,_,H,y,s⟩:=Q d;have⟨A,C,R,N,b,U,V,W⟩:=APO p w M;have b:QF p=some (some (p,A,C,R,N)):=b p.2.2.2.2.2.2;unfold WR;rw[D,A0,z0,A8,X,A0,d,z0,A8,b,A0];have key:=EZ (r:=nF) (σ:=List UF) (Q:=λr=>FsL p A C R N q.1 r) q.1.length (λo i=>(some (p,A,C,R,N),o,q.1,(q.1.length:Int),i)) (λi o=>FsL p A C R N (q.1.take i) o) oa (λnext o i hi E L=>?_) (λnext o E=>?_) [] ⟨oh,λj h B=>by simp at B⟩
   .refine DM.2 (key.mono λr hr=>DN.2 (.inr ⟨rfl,M,H,y,A,C,R,N,rfl,U,V,W,by rw[hr.1];exact O,?_⟩));grind
   .unfold nF;dsimp only;have l:=A1 hi;have hm:=AL hi;have I:q.1[i]∈p.2.2.1.2.1.flatMap (JU p.1.2.2.2.1):=by rw[<-s];exact hm
    have⟨a,Y,c,Z,k,x,hx,z⟩:=APa I;have⟨f,hf,_⟩:=A8N w M D b U V W Y Z hx;rw[E1,A7 hi,A6,ER l,A0,ET oa];rw[GH l]at L;generalize q.1[i]=h at z l L ⊢;subst z;have⟨m,J,K⟩:=FH hf;rw[J,A0,K,A0];have h4:o.length=i:=by rw[E.1,BQ];omega
    refine DM.2 (F6.2 ⟨oc,L _ ⟨oc,λj h B=>?_⟩⟩);rw[List.getElem?_append]at B;split at B
    .rename_i h3;have⟨f',h1,h2⟩:=E.2 j h B;grind
    grind
   .unfold nF;dsimp only;rw[E1,A9 (AA _),A8];exact zb
  .refine⟨(none,[],q.2),?_,.inl d⟩;unfold WR;rw[D,A0,z0,A8,X,A0,show(!(DP q.2 0))=true from by rw[DT];simp[d],A6]
 .refine⟨(none,[],e),?_,.inl T⟩;unfold WR;rw[D,A0,show(!(DP e 0))=true from by rw[DT];simp[T],A6]
noncomputable def M4(a:FG)(cs:List F3)(j t:Nat):List IA:=if a.2.2.2.2.1=true then []else((List.range t).filter λi=>KG a cs j i).map λi:Nat=>(a.1,(QJ cs (j:Int),(i:Int)))
theorem A8P(a:FG)(cs:List F3):JU cs a=(List.range cs.length).flatMap λj=>M4 a cs j a.2.2.2.2.2.2.length:=by
 unfold JU M4 MO pJ;split
 .simp
 .simp[List.map_flatMap,Function.comp_def]
theorem cD{a:FG}{cs:List F3}{j t:Nat}:M4 a cs j (t+1)=M4 a cs j t++(if a.2.2.2.2.1=false/\KG a cs j t=true then [(a.1,(QJ cs (j:Int),(t:Int)))]else []):=by
 unfold M4;cases h:a.2.2.2.2.1 with
 |true=>simp
 |false=>rw[List.range_succ,List.filter_append,D7];grind
def APc(a:FG)(cs:List F3)(j t s:Nat):∃r,M4 a cs j (t+s)=M4 a cs j t++r:=by
 induction s with
 |zero=>simp
 |succ s b=>grind[Nat.add_assoc,cD,List.append_assoc]
structure Sc20(p:GZ)(l:List UF)(H:List IA):Prop where
 bl:∀c∈p.1.2.2.2.1,(OC c).length<=1048576
 ky:∀c∈p.1.2.2.2.1,J4 c.2.1=some (IP c,0)
 ad:∀a∈p.2.2.1.2.1,L8 a/\MK a=0
 len:l.length=H.length
 few:H.length<=100000
 fs:∀(k:Nat) (h:IA),H[k]?=some h->∀a∈p.2.2.1.2.1,∀c∈p.1.2.2.2.1,∀(i:Nat) (x:Af),a.2.2.2.2.2.2[i]?=some x->h=(a.1,(c.1,(i:Int)))->∃f,l[k]?=some f/\f.1=a.1/\f.2.1=c.1/\f.2.2.1=(i:Int)/\bM (p,f,x)=some true
def APd{p:GZ}{l:List UF}{H:List IA}(S:Sc20 p l H){a:FG}(C:a∈p.2.2.1.2.1){c:F3}{j:Nat}(z:p.1.2.2.2.1[j]?=some c){u v:List IA}(W:H=u++M4 a p.1.2.2.2.1 j a.2.2.2.2.2.2.length++v):
 zN (p,l,(u.length:Int),a,c,a.2.2.2.2.2.2,(a.2.2.2.2.2.2.length:Int),0)=some (.inl (p,l,((u.length+(M4 a p.1.2.2.2.1 j a.2.2.2.2.2.2.length).length:Nat):Int),a)):=by
 have w:=AH z;have⟨b,y⟩:=S.ad a C;have U:=b.2.2.2.2.2.1;refine M1 (EZ (r:=nQ) (σ:=Nat) a.2.2.2.2.2.2.length (λn i=>(p,l,(n:Int),a,c,a.2.2.2.2.2.2,(a.2.2.2.2.2.2.length:Int),i)) (λt n=>n=u.length+(M4 a p.1.2.2.2.1 j t).length) oa (λnext n t J e Y=>?_) (λnext n e=>?_) _ (by simp[M4]))
 .unfold nQ;dsimp only;have m:=A1 J;generalize a.2.2.2.2.2.2[t]=x at m;rw[E1,A7 J,A6,ER m,A0,AOw b y z m (S.ky c w) (S.bl c w)];cases G:a.2.2.2.2.1 with
  |true=>rw[BS,A8,A0,Bool.true_or,A6,ET oa];simp_all[cD,if_neg]
  |false=>
   rw[CH,A6,A0,C0];cases D:KG a p.1.2.2.2.1 j t with
   |false=>rw[CH,A6,ET oa];simp_all[cD,if_neg]
   |true=>
    rw[BS,A8];have⟨r,I⟩:=APc a p.1.2.2.2.1 j (t+1) (a.2.2.2.2.2.2.length-(t+1));rw[show t+1+(a.2.2.2.2.2.2.length-(t+1))=a.2.2.2.2.2.2.length by omega,cD,if_pos ⟨G,D⟩]at I;have B:QJ p.1.2.2.2.1 (j:Int)=c.1:=by unfold QJ;rw[BX,z]
    have s:H[n]?=some (a.1,(c.1,(t:Int))):=by rw[W,I,B,e];simp[BC]
    have⟨f,E,f1,Q,R,T⟩:=S.fs n _ s a C c w t x m rfl;have A:=(A3.1 E).1;have V:=S.few;have X:=S.len;have K:DP (n:Int) (l.length:Int)=false:=by
     cases h:DP (n:Int) (l.length:Int)with
     |false=>rfl
     |true=>grind[DT]
    have L:∀d,l.getD ((n:Int)).toNat d=f:=λd=>by rw[BX,AJ,E];rfl
    have M:DQ a.1 a.1=true:=by rw[E0];simp
    have N:DQ c.1 c.1=true:=by rw[E0];simp
    have O:DP (t:Int) (t:Int)=true:=by rw[DT];simp
    simp only[K,L,f1,Q,R,M,N,O,CH,BS,Bool.or_false,A6,A8,ANY A,A0,T];rw[ET oa,ET oa];refine Y (n+1) ?_;rw[e,cD,if_pos ⟨G,D⟩];simp;omega
 .unfold nQ;dsimp only;rw[E1,A9 (AA _),A8,e];exact DN.2 rfl
def A8Q{α a:Type}{f:α->List a}{l:List α}{i:Nat}{x:α}(h:l[i]?=some x):∃v,l.flatMap f=(l.take i).flatMap f++f x++v:=
 ⟨(l.drop (i+1)).flatMap f,by
  obtain⟨hi,rfl⟩:=A3.1 h;conv=>lhs;rw[<-List.take_append_drop i l,BD hi,List.flatMap_append,List.flatMap_cons]
  simp⟩
def APe{p:GZ}{l:List UF}{H:List IA}(S:Sc20 p l H)(m:p.1.2.2.2.1.length<=1048576){a:FG}(e:a∈p.2.2.1.2.1){u v:List IA}(s:H=u++JU p.1.2.2.2.1 a++v):
 zO (p,l,(u.length:Int),a,p.1.2.2.2.1,(p.1.2.2.2.1.length:Int),0)=some (.inl (p,l,((u.length+(JU p.1.2.2.2.1 a).length:Nat):Int))):=by
 refine M1 (EZ (r:=nR) (σ:=Nat) p.1.2.2.2.1.length (λn i=>(p,l,(n:Int),a,p.1.2.2.2.1,(p.1.2.2.2.1.length:Int),i)) (λt n=>n=u.length+((List.range t).flatMap λj=>M4 a p.1.2.2.2.1 j a.2.2.2.2.2.2.length).length) oa (λnext n t d b x=>?_) (λnext n b=>?_) _ oh)
 .unfold nR;dsimp only;have h:=A1 d;rw[A8P]at s;have⟨w,y⟩:=A8Q (f:=λj=>M4 a p.1.2.2.2.1 j a.2.2.2.2.2.2.length) (l:=List.range p.1.2.2.2.1.length) (i:=t) (x:=t) (by simp[d]);rw[List.take_range,CV oa]at y;have hk:=APd S e h (u:=u++(List.range t).flatMap λj=>M4 a p.1.2.2.2.1 j a.2.2.2.2.2.2.length) (v:=w++v) oc;rw[AI,<-b]at hk;rw[E1,A7 d,A6,ER h,A0,hk,A0,ET oa];refine x _ ?_;rw[b,List.range_succ,List.flatMap_append];simp;omega
 .unfold nR;dsimp only;rw[E1,A9 (AA _),A8,b,A8P];exact DN.2 rfl
def APf{p:GZ}{l:List UF}{H:List IA}(S:Sc20 p l H)(d:p.1.2.2.2.1.length<=1048576)(m:p.2.2.1.2.1.length<=1048576)(j:H=p.2.2.1.2.1.flatMap (JU p.1.2.2.2.1)):
 zP (p,l,0,p.2.2.1.2.1,(p.2.2.1.2.1.length:Int),0)=some (.inl (l,(l.length:Int))):=by
 refine M1 (EZ (r:=nS) (σ:=Nat) p.2.2.1.2.1.length (λn i=>(p,l,(n:Int),p.2.2.1.2.1,(p.2.2.1.2.1.length:Int),i)) (λt n=>n=((p.2.2.1.2.1.take t).flatMap (JU p.1.2.2.2.1)).length) oa (λnext n t e a s=>?_) (λnext n a=>?_) 0 oh)
 .unfold nS;dsimp only;have h:=A1 e;have b:=AL e;have⟨w,x⟩:=A8Q (f:=JU p.1.2.2.2.1) h;have hk:=APe S d b (u:=(p.2.2.1.2.1.take t).flatMap (JU p.1.2.2.2.1)) (v:=w) (by rw[j,x]);rw[<-a]at hk;rw[E1,A7 e,A6,ER h,A0,hk,A0,ET oa];refine s _ ?_;rw[GH h,List.flatMap_append,AI,a];simp
 .unfold nS;dsimp only;rw[E1,A9 (AA _),A8,a,AQ,<-j,<-S.len];exact DN.2 rfl
def APg(p:GZ)(j:PrB p):nT p=some true:=by
 have⟨r,O,d⟩:=APb p j;unfold nT zF;rw[O,A0,A0];by_cases G:r.2.2=0
 .obtain d|⟨m,z,s,b,A,C,R,N,B,J,K,L,E,w,y⟩:=d
  .omega
  have S:Sc20 p r.2.1 (p.2.2.1.2.1.flatMap (JU p.1.2.2.2.1)):=by refine⟨λc l=>j.bv c l,s,λa e=>⟨j.bs a e,b a e⟩,w,oa,λk h hk a e c l i x Q M=>?_⟩;have⟨f,h1,D⟩:=y k h hk;have⟨T,H,I⟩:=A8N j z m B J K L e l Q;rw[M,H]at D;cases D;exact⟨_,h1,I⟩
  rw[G,show DP (0:Int) 0=true from rfl,BS,A8,APf S (AM z.bl.few oi) (AM z.bs.2.1 oi) rfl,A0];simp_all[DP,DT,A6,A8O]
 .rw[show(!(DP r.2.2 0))=true from by rw[DT];simp[G],A6,A8O];rfl
end Go.Ev.Pv
