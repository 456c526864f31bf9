/-
  The law as plain Lean, third part: reaching, the findings, and the law.
-/
import Derived.Test.YtkmlfnhigaoplaaGreatDoorMA2
set_option linter.all false
set_option maxRecDepth 100000
namespace Go.Ev.Pv
abbrev U6:=DK×Int×Int
abbrev HJ:=DK×List (Int×Int)×Int
abbrev IS:=Int×Bool
abbrev FH:=List (IS×Bool)
def A7b{α d e:Type}{f:α->d->Option (Sum d e)}(J:d->Prop)(Q:e->Prop):∀(l:List α),(∀a∈l,∀u,J u->Tot (f a u) (λz=>match z with| .inl v=>J v| .inr c=>Q c))->∀u,J u->Tot (EY f l u) (λz=>match z with| .inl v=>J v| .inr c=>Q c):=by
 intro l;induction l with
 |nil=>intro _ u b;exact DM.2 b
 |cons a l m=>
  intro h u b;refine DL.2 ((h a AE u b).mono λz j=>?_);grind[List.mem_cons_of_mem,DM]
theorem pI(r:U6)(h:0<=r.2.1):Tot (L3 (some r)) (λc=>c=0\/r.2.1<r.1.length):=
 (U0.1 (some r) ⟨r,rfl,h⟩).mono λc a=>a.2.imp id λ⟨y,h1,b⟩=>oc
def ItR(s:DK)(a:Int)(q:Sum (U6×List (Int×Int)) (U6×List (Int×Int)×Bool)):Prop:=match q with
 | .inl y=>y.1.1=s/\a<=y.1.2.1/\y.1.2.1<=s.length/\(y.2.length:Int)+a<=y.1.2.1
 | .inr y=>y.1.1=s/\a<=y.1.2.1/\y.1.2.1<=s.length/\y.2.1=[]/\(y.2.2=true->a+1<=y.1.2.1)
def PtR(s:DK)(q:Sum (U6×HJ×HJ) (U6×HJ)):Prop:=match q with
 | .inl y=>y.1.1=s/\0<=y.1.2.1/\y.1.2.1<=s.length/\(y.2.2.2.1.length:Int)<=y.1.2.1
 | .inr y=>y.2.2.1.length<=s.length
def qS{p:Prop}(h:p:=by grind[DL,F4,List.length_singleton,List.length_append]):p:=h
def A7c(s:DK)(a b:Int)(U:s.length<=1048576)(h0:0<=a)(h1:a<=s.length)(I:Bool):
 Tot (aF ((s,(a,b)),I)) (λq=>q.2.2.1=s/\a<=q.2.2.2.1/\q.2.2.2.1<=s.length/\(q.1.length:Int)+a<=q.2.2.2.1/\(q.2.1=true->a+1<=q.2.2.2.1)):=by
 unfold aF;dsimp only;refine DL.2 (Tot.mono (P:=ItR s a) ?_ λq p=>?_)
 .refine EQ (R:=ItR s a) (λx:U6×Bool×List (Int×Int)=>x.1.1=s/\a<=x.1.2.1/\x.1.2.1<=s.length/\(x.2.2.length:Int)+a<=x.1.2.1) (λx=>((s.length:Int)-x.1.2.1).toNat) (λnext x O T=>?_) fuel ((s,(a,b)),I,[]) ⟨rfl,AS _,h1,oh⟩ (by grind[fuel]);obtain⟨⟨m,at_,d⟩,I,l⟩:=x;obtain⟨i1,M,H,N⟩:=O;dsimp only at i1 M H N T;subst i1;unfold A5F;dsimp only;refine DN.2 ⟨λ_=>?_,λ_=>DM.2 ⟨rfl,M,H,N⟩⟩;refine DL.2 ((pI (m,(at_,d)) oc).mono λc K=>?_);dsimp only at K;rw[DR];refine DN.2 ⟨λ_=>?_,λA=>?_⟩
  .refine DL.2 ((A6d.1 (m,(at_,d)) ⟨U,oc,H⟩).mono λq p=>?_);obtain⟨j,w,C,E⟩:=p;dsimp only at j w C E;refine DN.2 ⟨λ_=>DM.2 ⟨j,oc,C,oc⟩,λQ=>?_⟩;exact qS
  .have A:c=42:=by simpa using A
   have R:at_<m.length:=K.resolve_left oa;rw[EG (n:=at_+1) oa oa];refine DL.2 ((pI (m,(at_+1,d)) oc).mono λV B=>?_);dsimp only at B;rw[DR];refine DN.2 ⟨λJ=>?_,λ_=>?_⟩
   .have J:=AC J;have L:at_+1<m.length:=B.resolve_left oa;refine DL.2 (Tot.mono (P:=λz=>z.length+(at_+1).toNat<=m.length\/z=[]) (DN.2 ⟨λ_=>I6.2 ⟨⟨oa,oa,AS _⟩,.inl oc⟩,λ_=>DM.2 (.inr rfl)⟩) λz G=>?_);refine DL.2 (Tot.mono (P:=λr=>r=true->2<=z.length) (DN.2 ⟨λ_=>(A6v.1 (z,[42,47]) trivial).mono λr D h=>by simpa using D h,λ_=>DM.2 λh=>oq⟩) λr D=>?_);refine DN.2 ⟨λ_=>?_,λQ=>?_⟩
    .refine DL.2 ((QJ.1 ((m,(at_+1,d)),at_+1) trivial).mono λq p=>DM.2 ?_);obtain⟨j,w,_⟩:=p;dsimp only at j w;exact⟨j,oc,oc,rfl,λh=>oq⟩
    .have D:=D (by
      grind)
     rw[EG oa oa];have:z≠[]:=λe=>oc
     have G:=G.resolve_right this;exact DM.2 ⟨rfl,oc,oc,rfl,λ_=>oc⟩
   .refine DL.2 (F4.2 ⟨oc,?_⟩);grind
 .cases q with
  |inl y=>
   obtain⟨j,w,C,E⟩:=p;dsimp only;refine DN.2 ⟨λ_=>?_,λ_=>DM.2 ⟨j,w,C,E,λh=>oq⟩⟩;refine DL.2 ((QJ.1 (y.1,y.1.2.1) trivial).mono λz G=>DM.2 ?_);grind
  |inr y=>
   obtain⟨j,w,C,E,W⟩:=p;grind[DM,List.length_nil]
def AO7(s:DK)(I:s.length<=1048576)(b:Int):Tot (lJ (s,(0,b))) (λq=>q.1.2.1.length<=s.length+1):=by
 unfold lJ;refine DL.2 ((A6b.1 ((s,(0,b)),true) ⟨I,AS _,oh⟩).mono λZ H=>?_);obtain⟨k,s1,R,T⟩:=Z;obtain⟨M,N,O,_⟩:=H;dsimp only at M N O ⊢;subst M;refine DL.2 (Tot.mono (P:=PtR s1) ?_ λq p=>?_)
 .refine EQ (R:=PtR s1) (λx:U6×HJ×HJ=>x.1.1=s1/\0<=x.1.2.1/\x.1.2.1<=s1.length/\(x.2.2.2.1.length:Int)<=x.1.2.1) (λx=>((s1.length:Int)-x.1.2.1).toNat) (λnext x U V=>?_) fuel ((s1,(R,T)),([],([],0)),(k,([],0))) ⟨rfl,N,O,by assumption⟩ (by grind[fuel]);obtain⟨⟨s',at_,E⟩,t2,X,pn,W⟩:=x;obtain⟨i1,J,K,Q⟩:=U;dsimp only at i1 J K Q V;subst i1;unfold A5H;dsimp only;refine DN.2 ⟨λ_=>?_,λ_=>DM.2 ⟨rfl,J,K,Q⟩⟩;refine DL.2 ((A7c s' at_ E I J K true).mono λq p=>?_);obtain⟨l,dp,d,a,A⟩:=q;obtain⟨w,C,D,L,Y⟩:=p;dsimp only at w C D L Y ⊢;subst w;refine DN.2 ⟨λ_=>DM.2 (by show pn.length<=_;omega),λ_=>?_⟩;refine DL.2 (Tot.mono (P:=λz=>(z.2.1.length:Int)<=a) ?_ λz B=>?_)
  .unfold yD;dsimp only;refine DN.2 ⟨λh=>DL.2 (F4.2 ⟨oc,DM.2 ?_⟩),λh=>DL.2 (F4.2 ⟨oa,DM.2 ?_⟩)⟩
   .grind
   grind
  .refine DL.2 ((pI (d,(a,A)) oc).mono λc m=>?_);dsimp only at m;rw[DR];refine DN.2 ⟨λ_=>DM.2 ⟨rfl,oc,D,B⟩,λe=>?_⟩;have e:c=47:=by simpa using e
   have G:a<d.length:=m.resolve_left oa;rw[EG (n:=a+1) oa oa];refine DN.2 ⟨λ_=>DL.2 (F4.2 ⟨oc,?_⟩),λ_=>?_⟩
   .grind
   grind
 .cases q with
  |inr y=>exact DM.2 (Nat.le_succ_of_le p)
  |inl y=>
   obtain⟨⟨d,a,A⟩,t2,X,pn,W⟩:=y;obtain⟨w,C,D,L⟩:=p;dsimp only at w C D L ⊢;subst w;refine DL.2 (Tot.mono (P:=λz=>z.2.2.1.length<=d.length+1) ?_ λz B=>?_)
   .unfold yE;dsimp only;refine DN.2 ⟨λ_=>DM.2 oc,λ_=>DN.2 ⟨λ_=>DL.2 (F4.2 ⟨oc,DM.2 oc⟩),λ_=>?_⟩⟩;refine DL.2 ((pI (d,(a,A)) C).mono λc m=>?_);dsimp only at m;rw[DR];refine DN.2 ⟨λj=>?_,λ_=>DM.2 oc⟩;have j:=AC j;have G:a<d.length:=m.resolve_left oa;rw[EG (n:=a+1) oa oa];refine DL.2 ((A7c d (a+1) A I oa oa false).mono λq p=>?_);grind[DL,F4,List.length_singleton,List.length_append,DM]
   .refine DN.2 ⟨λ_=>DL.2 ((QJ.1 _ trivial).mono λ_ _=>DM.2 B),λ_=>DM.2 B⟩
def A7d(s:DK):Tot (aG s) (λq=>q.1.2.1.length<=3001):=by
 unfold aG;refine DN.2 ⟨λ_=>DM.2 oh,λh=>?_⟩;have h:=AK h;refine DL.2 ((AO7 s oa (-1)).mono λr a=>DN.2 ⟨λ_=>DM.2 oh,λ_=>?_⟩);refine DL.2 (Tot.mono (P:=λ_=>True) (DN.2 ⟨λ_=>(A6k.1 _ trivial).mono λ_ _=>trivial,λ_=>DM.2 trivial⟩) λz _=>?_);exact DN.2 ⟨λ_=>DM.2 oh,λ_=>DN.2 ⟨λ_=>DM.2 oh,λ_=>DM.2 oc⟩⟩
def AO8(s:DK):∃r,lK s=some r:=by
 have⟨r,h,_⟩:=A7d s;simp_all[lK,A0]
def GF(x y:IS):Bool:=DO x.1 y.1&&I3 x.2 y.2
theorem SE(x y:IS):GF x y=decide (x=y):=by
 grind[GF,DR,I3]
def pJ{α b:Type} [DecidableEq α]{eq:α->α->Bool}(h:∀x y,eq x y=decide (x=y))(k:α)(v:b):∀m:List (α×b),(EB eq k v m).map (·.1)=if k∈m.map (·.1)then m.map (·.1)else m.map (·.1)++[k]:=by
 intro m;induction m with
 |nil=>rfl
 |cons a m d=>
  simp only[EB];grind
def AO9{α b:Type}{eq:α->α->Bool}{k:α}{v:b}:∀{m:List (α×b)} {e:α×b},e∈EB eq k v m->e=(k,v)\/e∈m:=by
 intro m;induction m with
 |nil=>intro e h;exact .inl (AP.1 h)
 |cons a m d=>
  intro e h;simp only[EB]at h;grind
structure Sp(n:Nat)(l:FH):Prop where
 tr:∀e∈l,e.2=true/\0<=e.1.1/\e.1.1<=n
 nd:(l.map (·.1)).Nodup
def Sp.nil{n:Nat}:Sp n []:=⟨λe h=>(oq),AT⟩
def Sp.put{n:Nat}{l:FH}(h:Sp n l){x:IS}(h0:0<=x.1)(h1:x.1<=n):Sp n (EB GF x true l):=by
 refine⟨λe d=>?_,?_⟩
 .rcases AO9 d with rfl|d
  .grind
  .exact h.tr e d
 .rw[pJ SE];by_cases e:x∈l.map (·.1)
  .rw[if_pos e];exact h.nd
  .rw[if_neg e];exact B1.2 ⟨h.nd,oh,λa j b m=>oc⟩
def Sp.few{n:Nat}{l:FH}(h:Sp n l):l.length<=2*(n+1):=by
 have:=List.Nodup.length_le_of_subset h.nd (l₂:=(List.range (n+1)).flatMap λi:Nat=>[((i:Int),false),((i:Int),true)]) λx m=>by
  obtain⟨e,j,rfl⟩:=CD.1 m;have⟨_,h0,h1⟩:=h.tr e j;refine List.mem_flatMap.2 ⟨e.1.1.toNat,CS.2 oa,?_⟩;have d:((e.1.1.toNat:Nat):Int)=e.1.1:=oa
  rw[d];obtain⟨⟨a,b⟩,c⟩:=e;cases b<;>simp
 rw[AY,List.length_flatMap]at this
 have p:((List.range (n+1)).map λi:Nat=>[((i:Int),false),((i:Int),true)].length).sum=2*(n+1):=by
  simp[List.map_const',CZ]
 omega
def JQ(o:FH)(u:FH):FH:=o.foldl (λm e=>EB GF e.1 true m) u
theorem pK:∀(o u:FH),EY S3 o u=some (.inl (JQ o u)):=by
 intro o;induction o with
 |nil=>intro u;rfl
 |cons k o a=>intro u;exact a _
theorem A7e:∀(o u:FH) (x:IS),x∈(JQ o u).map (·.1)<->x∈o.map (·.1)\/x∈u.map (·.1):=by
 intro o;induction o with
 |nil=>intro u x;exact⟨.inr,λh=>h.elim (λh=>(oq)) id⟩
 |cons k o a=>
  intro u x;show x∈(JQ o (EB GF k.1 true u)).map (·.1)<->_;rw[a,pJ SE,C6,A_];grind
def AOA{n:Nat}:∀{o u:FH},(∀e∈o,0<=e.1.1/\e.1.1<=n)->Sp n u->Sp n (JQ o u):=by
 intro o;induction o with
 |nil=>intro u _ h;exact h
 |cons k o d=>intro u a h;exact d (λe b=>a e (AN _ b)) (h.put (a k AE).1 (a k AE).2)
theorem A7f(l:FH)(x:IS):mH (l,x)=some (JQ l [(x,true)]):=by
 unfold mH;dsimp only;rw[show(EB (λ(x y:Int×Bool)=>DO x.1 y.1&&I3 x.2 y.2) x true ([]:List ((Int×Bool)×Bool)))=[(x,true)]from rfl,pK,A0]
def A7g{n:Nat}{l:FH}(h:Sp n l){x:IS}(h0:0<=x.1)(h1:x.1<=n):Sp n (JQ l [(x,true)]):=
 AOA (λe a=>(h.tr e a).2) ⟨λe a=>oc,oh⟩
def AOB{n:Nat}{l:FH}(h:Sp n l){x:IS}(h0:0<=x.1)(h1:x.1<=n)(d:x ∉ l.map (·.1)):(JQ l [(x,true)]).length=l.length+1:=by
 have b:=A7g h h0 h1
 have a:((JQ l [(x,true)]).map (·.1)).Perm (x::l.map (·.1)):=by
  refine(List.perm_ext_iff_of_nodup b.nd (AW.2 ⟨d,h.nd⟩)).2 λy=>?_;rw[A7e,A_];simp[or_comm]
 have:=a.length_eq;grind
def AOC{l:FH}{x:IS}(h:∀e∈l,e.2=true):(DU GF x l).getD false=decide (x∈l.map (·.1)):=by
 induction l with
 |nil=>rfl
 |cons a l b=>
  simp only[DU];rw[SE,C6];grind
section
variable(p:HJ)(hn:p.2.1.length<=100000)
include hn
theorem A7h(l:FH)(h:Sp p.2.1.length l):Tot (aN (p,l)) (λr=>Sp p.2.1.length r):=by
 unfold aN;dsimp only;refine DL.2 (Tot.mono (P:=λr=>Sp p.2.1.length r) ?_ λr K=>DM.2 K);refine EQ (R:=λr=>Sp p.2.1.length r) (λx:FH×HJ×Bool=>Sp p.2.1.length x.1/\x.2.1=p) (λx=>if x.2.2=true then 2*(p.2.1.length+1)+1-x.1.length else 0) (λnext x H d=>?_) fuel (l,p,true) ⟨h,rfl⟩ (by unfold fuel;grind);obtain⟨l,T,G⟩:=x;obtain⟨i1,y⟩:=H;have y:=y.symm;dsimp only at i1 y d;subst y;unfold A5Y;dsimp only;refine DN.2 ⟨λa=>?_,λ_=>DM.2 i1⟩;have a:G=true:=a;subst a;rw[if_pos rfl]at d;have key:=A7b (f:=LR) (λu:FH×HJ×Bool=>Sp p.2.1.length u.1/\u.2.1=p/\l.length<=u.1.length/\(u.2.2=true->l.length<u.1.length)) (λ_=>False) l (λk hk u L=>?_) (l,p,false) ⟨i1,rfl,AD _,λh=>oq⟩
 .refine DL.2 (key.mono λz E=>?_);cases z with
  |inr c=>exact E.elim
  |inl v=>
   obtain⟨N,O,Y,Z⟩:=E;refine d _ ⟨N,O⟩ ?_;dsimp only;have R:=i1.few;grind
 .obtain⟨M,U,V⟩:=u;obtain⟨j,A,C,D⟩:=L;have A:=A.symm;dsimp only at j A C D;subst A;have⟨_,k0,k1⟩:=i1.tr k hk;unfold LR;dsimp only;have m:∀(b:Bool),(b=true->k.1.1<p.2.1.length)->Tot (bif b then at? p.2.1 k.1.1 else some ((0:Int),(0:Int))) (λ_=>True):=λb w=>DN.2 ⟨λh=>EH.2 ⟨⟨k0,w h⟩,λ_ _=>trivial⟩,λ_=>DM.2 trivial⟩;refine DL.2 ((m _ λh=>?_).mono λW _=>DL.2 ((m _ λh=>?_).mono λX _=>DN.2 ⟨λ_=>DM.2 ⟨j,rfl,C,D⟩,λw=>?_⟩))
  .grind
  .grind
  .rw[BK,BK]at w;have J:=AK w.1.2;rw[EG (n:=k.1.1+1) oa oa];have s:=AOC (x:=(k.1.1+1,false)) λe I=>(j.tr e I).1;unfold GF at s;rw[s];refine DN.2 ⟨λB=>?_,λ_=>DM.2 ⟨j,rfl,C,D⟩⟩;have B:(k.1.1+1,false) ∉ M.map (·.1):=by simpa using B
   rw[A7f,A0];have Q:=AOB j (x:=(k.1.1+1,false)) oa oa B;exact DM.2 ⟨A7g j oa oa,rfl,oc,λ_=>oc⟩
theorem AOD(x:IS)(h0:0<=x.1)(sg:Int):Tot (O0 (p,x,sg)) (λr=>0<=r.1.1/\(r.1.1:Int)<=p.2.1.length):=by
 unfold O0;dsimp only;refine DN.2 ⟨λ_=>DM.2 ⟨AS _,oh⟩,λh=>?_⟩;have h:=AK h;rw[EG (n:=x.1+1) oa oa];refine DL.2 (EH.2 ⟨⟨h0,oa⟩,λy _=>?_⟩)
 repeat' first
  |(with_reducible first|refine DN.2 ⟨λ_=>?_,λ_=>?_⟩|refine DM.2 ?_)
 all_goals exact⟨om,om⟩
theorem AOE(l:FH)(h:Sp p.2.1.length l)(sg:Int):Tot (mN (p,l,sg)) (λr=>Sp p.2.1.length r):=by
 unfold mN;dsimp only;have key:=A7b (f:=LT) (λu:Int×HJ×FH=>u.2.1=p/\Sp p.2.1.length u.2.2) (λ_=>False) l (λk hk u d=>?_) (sg,p,[]) ⟨rfl,Sp.nil⟩
 .refine DL.2 (key.mono λz m=>?_);grind[DL,A7h,DM]
 .obtain⟨e,s,w⟩:=u;obtain⟨j,a⟩:=d;have j:=j.symm;dsimp only at j a;subst j;unfold LT;dsimp only;refine DL.2 ((AOD p hn k.1 (h.tr k hk).2.1 e).mono λr b=>DN.2 ⟨λ_=>DM.2 ⟨rfl,a.put b.1 b.2⟩,λ_=>DM.2 ⟨rfl,a⟩⟩)
theorem AOF:Tot (mI p) (λr=>Sp p.2.1.length r):=by
 unfold mI;exact DL.2 ((A7h p hn _ (Sp.nil.put (x:=(0,false)) (AS _) oa)).mono λr h=>DM.2 h)
end
def AOG(o:List Int)(s:DK)(e:s.length<=1000)(d:o.length<=10000000):Tot (yY (o,s,(s.length:Int),0)) (λr=>r.length<=o.length+1000):=by
 refine E_ (r:=mJ) (σ:=List Int) s.length (λo i=>(o,s,(s.length:Int),i)) (λi a=>a.length=o.length+i) oa (λnext a i hi h b=>?_) (λnext a h=>?_) o rfl
 .unfold mJ;dsimp only;rw[E0,A6 hi,A7,ER (A1 hi),A0,EU oa];exact qS
 simp_all[mJ,E0,A9,AA,A8,DM]
def AOH(p:Pu)(h1:p.2.1.length<=200)(w:p.2.2.1.length<=200)(x:p.2.2.2.1.length<=200):Tot (mM p) (λr=>r.length<=1000000):=by
 unfold mM;refine DL.2 ((oO.1 p.2.1 oa).mono λr ⟨C,D⟩=>DL.2 (F4.2 ⟨oc,?_⟩))
 have h:∀z∈r++[p.2.2.1],z.length<=1000:=λz B=>by
  grind
 have d:(r++[p.2.2.1]).length<=203:=by rw[AG,List.length_singleton];omega
 generalize r++[p.2.2.1]=l at h d ⊢;refine DL.2 (Tot.mono (P:=λo=>o.length<=203*1001) ?_ λo y=>?_)
 .refine E_ (r:=mK) (σ:=List Int) l.length (λo i=>(o,l,(l.length:Int),i)) (λi o=>o.length<=i*1001) oa (λnext o i hi j e=>?_) (λnext o j=>?_) [] (AD _)
  .unfold mK;dsimp only;rw[E0,A6 hi,A7,ER (A1 hi),A0,EU oa];refine DL.2 (Tot.mono (P:=λa=>a.length<=i*1001+1) ?_ λa m=>?_)
   .unfold yX;dsimp only;refine DN.2 ⟨λ_=>DL.2 (F4.2 ⟨oc,DM.2 oc⟩),λ_=>DM.2 oa⟩
   .exact DL.2 ((AOG a _ (h _ (AL hi)) oa).mono λq A=>e q oa)
  .unfold mK;dsimp only;rw[E0,A9 (AA _),A8];exact DM.2 oa
 .refine DN.2 ⟨λ_=>DL.2 (F4.2 ⟨oc,?_⟩),λ_=>DM.2 oa⟩;have b:(o++[(257:Int)]).length<=203*1001+1:=by rw[AG,List.length_singleton];omega
  generalize o++[(257:Int)]=l10 at b ⊢;refine DL.2 (Tot.mono (P:=λr=>r.length<=1000000) ?_ λr s=>DM.2 s);refine E_ (r:=mL) (σ:=List Int) p.2.2.2.1.length (λo i=>(p,o,(p.2.2.2.1.length:Int),i)) (λi a=>a.length=l10.length+i) oa (λnext a i hi j e=>?_) (λnext a j=>?_) l10 rfl
  .unfold mL;dsimp only;rw[E0,A6 hi,A7,ER (A1 hi),A0,EU oa];exact qS
  .unfold mL;dsimp only;rw[E0,A9 (AA _),A8];exact DM.2 oa
def AOI(p:HJ)(x:IS)(h0:0<=x.1)(h1:x.1<=p.2.1.length):∃b,TX (p,x)=some b:=by
 unfold TX;dsimp only;refine IJ.1 (DL.2 (Tot.mono (P:=λ_=>True) (DN.2 ⟨λh=>?_,λ_=>DM.2 trivial⟩) λ_ _=>DM.2 trivial));rw[DR]at h;have h:¬x.1=p.2.1.length:=by simpa using h
 exact EH.2 ⟨⟨h0,oa⟩,λ_ _=>trivial⟩
def AOJ(s:DK)(p:Pu)(B:p.2.2.2.2.1.length<=1048576):∃r,aO (s,p)=some r:=by
 unfold aO;dsimp only;refine IJ.1 (DL.2 ((A7d s).mono λa U=>DN.2 ⟨λ_=>DM.2 trivial,λ_=>?_⟩));refine DL.2 ((bG p B).mono λe x=>DN.2 ⟨λ_=>DM.2 trivial,λh=>?_⟩);have x:=x (by grind[DR]);refine DL.2 ((oP p x).mono λX C=>DN.2 ⟨λ_=>DM.2 trivial,λ_=>?_⟩);obtain⟨_,J,K,L,_⟩:=C;have I:a.1.2.1.length<=100000:=oa
 refine DL.2 ((AOF a.1 I).mono λW M=>DL.2 ((AOH X J K L).mono λG V=>?_));refine DL.2 (Tot.mono (P:=λq:Sum (HJ×FH) (Bool×Int)=>match q with| .inl y=>y.1=a.1/\Sp a.1.2.1.length y.2| .inr _=>True) ?_ λq B=>?_)
 .refine E_ (r:=mO) (σ:=FH) G.length (λl i=>(a.1,l,G,(G.length:Int),i)) (λ_ l=>Sp a.1.2.1.length l) oa (λnext l i hi w T=>?_) (λnext l w=>?_) W M
  .unfold mO;dsimp only;rw[E0,A6 hi,A7,ER (A1 hi),A0,EU oa];refine DL.2 ((AOE a.1 I l w _).mono λE N=>?_);have H:=N.few
   have R:len? E.length=some (E.length:Int):=by
    unfold len?;rw[show Nat.ble E.length 281474976710656=true from C7 oa];rfl
   simp_all[A0,DN,DM,trivial]
  .unfold mO;dsimp only;rw[E0,A9 (AA _),A8];exact DM.2 ⟨rfl,w⟩
 .cases q with
  |inr y=>exact DM.2 trivial
  |inl y=>
   obtain⟨Y,Z⟩:=B;dsimp only;rw[Y]
   have z:∃g:IS×Bool->Bool,∀k∈y.2,TX (a.1,k.1)=some (g k):=by
    refine⟨λk=>(TX (a.1,k.1)).getD false,λk hk=>?_⟩;have⟨_,k0,k1⟩:=Z.tr k hk;have⟨b,Q⟩:=AOI a.1 k.1 k0 k1;simp only[Q,D1]
   obtain⟨g,z⟩:=z
   have e:OE (λo:FH=>o.Perm y.2) (λo=>(EY TY o a.1).bind λD=>match D with
    | .inl _=>some (false,(0:Int))
    | .inr d=>some (d.1,d.2))=some (y.2.any g,0):=by
    refine cQ ⟨y.2,List.Perm.refl _⟩ λo j=>?_;have A:∀k∈o,TX (a.1,k.1)=some (g k):=λk hk=>z k (j.mem_iff.1 hk)
    have H:EY TY o a.1=some (if o.any g=true then .inr (true,0)else .inl a.1):=by
     clear j;induction o with
     |nil=>rfl
     |cons k o ih=>
      unfold EY
      have e1:TY k a.1=some (bif g k then .inr (true,0)else .inl a.1):=by
       unfold TY;rw[A k AE,A0];cases g k<;>rfl
      grind
    have O:o.any g=y.2.any g:=by
     rw[Bool.eq_iff_iff,List.any_eq_true,List.any_eq_true];exact⟨λ⟨k,h1,m⟩=>⟨k,j.mem_iff.1 h1,m⟩,λ⟨k,h1,m⟩=>⟨k,j.mem_iff.2 h1,m⟩⟩
    rw[H,O];cases y.2.any g<;>rfl
   exact IJ.2 ⟨_,e⟩
abbrev LZ:=Int×DK×DK×DK
abbrev ND:=DK×DK×List LZ×List DK
abbrev U7:=DK×List (DK×DK)
abbrev WW:=DK×List DK
abbrev JJ:=List WW×List U7×List ND×List DK
abbrev QL:=Bool×List (DK×WW)×List (DK×Bool)×List (DK×Bool)
structure GB(g:JJ):Prop where
 i0:g.1.length<=1048576
 i1:∀x∈g.1,x.1.length<=1048576/\x.2.length<=1048576/\∀s∈x.2,s.length<=1048576
 t0:g.2.1.length<=1048576
 t1:∀x∈g.2.1,x.1.length<=1048576/\x.2.length<=1048576/\∀s∈x.2,s.1.length<=1048576/\s.2.length<=1048576
 f0:g.2.2.1.length<=1048576
 f1:∀x∈g.2.2.1,x.1.length<=1048576/\x.2.1.length<=1048576/\x.2.2.1.length<=1048576/\x.2.2.2.length<=1048576/\(∀c∈x.2.2.1,c.2.2.2.length<=1048576)
 e0:g.2.2.2.length<=1048576
def SF{X R σ α:Type}{r:(X->Option R)->X->Option R}(l:List α)(enc:σ->Int->X)(f:σ->Nat->α->σ)(out:σ->R)(J:Nat->σ->Prop)(d:l.length<=1099511627776)
 (j:∀next s (i:Nat) y,l[i]?=some y->r next (enc s (i:Int))=next (enc (f s i y) ((i:Int)+1)))(a:∀next s,r next (enc s (l.length:Int))=some (out s))(s0:σ)(h0:J 0 s0)
 (b:∀s (i:Nat) y,l[i]?=some y->J i s->J (i+1) (f s i y)):Tot (DX r fuel (enc s0 0)) (λq=>∃s,q=out s/\J l.length s):=by
 refine E_ l.length enc J oa (λnext s i hi h e=>?_) (λnext s h=>?_) s0 h0
 .simp_all
 .rw[a];exact DM.2 ⟨s,rfl,h⟩
def P2(m:List (DK×Bool))(l:List DK):Prop:=∀s,DU DP s m=if s∈l then some true else none
theorem U8{b:Type}(k a:DK)(v:b)(m:List (DK×b)):DU DP k (EB DP a v m)=if k=a then some v else DU DP k m:=pG D_ k a v m
theorem A0I{m:List (DK×Bool)}{l:List DK}(h:P2 m l)(s:DK):P2 (EB DP s true m) (l++[s]):=λk=>by
 rw[U8,h k];grind
def A0J:P2 [] []:=λk=>rfl
def bR{m:List (DK×Bool)}{l:List DK}(h:P2 m l)(s:DK):(DU DP s m).getD false=decide (s∈l):=by
 rw[h s];grind
theorem WX{α a:Type}{l:List α}{i:Nat}{y:α}(f:α->a)(h:l[i]?=some y):(l.take (i+1)).map f=(l.take i).map f++[f y]:=by
 rw[GX h,DJ];rfl
def AOK{g:JJ}(d:GB g)(lo:Bool):Tot (kC (g,lo)) (λk=>k.1=lo/\(∀s x,DU DP s k.2.1=some x->x∈g.1)/\P2 k.2.2.1 (g.2.1.map (·.1))/\P2 k.2.2.2 (g.2.2.1.map (·.1))):=by
 unfold kC;dsimp only
 refine DL.2 ((SF (σ:=QL) (α:=WW) g.1 (λs i=>(s,g.1,(g.1.length:Int),i)) (λk _ y=>(k.1,EB DP y.1 y k.2.1,k.2.2.1,k.2.2.2)) (λk=>k)
  (λ_ k=>k.1=lo/\k.2.2=([],[])/\∀s x,DU DP s k.2.1=some x->x∈g.1) (by have:=d.i0;omega) (λnext s i y h=>?_) (λnext s=>?_) _ ⟨rfl,rfl,λs x h=>oq⟩ (λk i y h b=>⟨b.1,?_,λs x e=>?_⟩)).mono λl A=>?_)
 .have a:=(A5.1 h).1;unfold xS;dsimp only;rw[E0,A6 a,A7,ER h,A0,EU (by have:=d.i0;omega)]
 .simp_all[xS,E0,A9,AA,A8]
 .exact b.2.1
 .have e:DU DP s (EB DP y.1 y k.2.1)=some x:=e;rw[U8]at e;grind
 obtain⟨H,rfl,m,j,D⟩:=A
 refine DL.2 ((SF (σ:=QL) (α:=U7) g.2.1 (λs i=>(s,g.2.1,(g.2.1.length:Int),i)) (λk _ y=>(k.1,k.2.1,EB DP y.1 true k.2.2.1,k.2.2.2)) (λk=>k)
  (λi k=>k.1=lo/\k.2.1=l.2.1/\k.2.2.2=[]/\P2 k.2.2.1 ((g.2.1.take i).map (·.1))) (by have:=d.t0;omega) (λnext s i y h=>?_) (λnext s=>?_) _ ⟨m,rfl,by rw[j],by rw[j];exact A0J⟩
  (λk i y h b=>⟨b.1,b.2.1,b.2.2.1,by grind[WX,A0I]⟩)).mono λC B=>?_)
 .have a:=(A5.1 h).1;unfold xT;dsimp only;rw[E0,A6 a,A7,ER h,A0,EU (by have:=d.t0;omega)]
 .simp_all[xT,E0,A9,AA,A8]
 obtain⟨I,rfl,p,w,z,E⟩:=B
 refine DL.2 ((SF (σ:=QL) (α:=ND) g.2.2.1 (λs i=>(s,g.2.2.1,(g.2.2.1.length:Int),i)) (λk _ y=>(k.1,k.2.1,k.2.2.1,EB DP y.1 true k.2.2.2)) (λk=>k)
  (λi k=>k.1=lo/\k.2.1=l.2.1/\k.2.2.1=C.2.2.1/\P2 k.2.2.2 ((g.2.2.1.take i).map (·.1))) (by have:=d.f0;omega) (λnext s i y h=>?_) (λnext s=>?_) _ ⟨p,w,rfl,by rw[z];exact A0J⟩
  (λk i y h b=>⟨b.1,b.2.1,b.2.2.1,by grind[WX,A0I]⟩)).mono λJ G=>DM.2 ?_)
 .have a:=(A5.1 h).1;unfold xU;dsimp only;rw[E0,A6 a,A7,ER h,A0,EU (by have:=d.f0;omega)]
 .simp_all[xU,E0,A9,AA,A8]
 grind
def A0K(s:DK)(j:s.length<=1048576):∃b,S1 s=some b:=by
 unfold S1;refine IJ.1 (DL.2 ((E_ (r:=kD) s.length (λ_ i=>(s,(s.length:Int),i)) (λ_ _=>True) (Q:=λ_=>True) oa (λnext _ i hi _ e=>?_) (λnext _ _=>?_) () trivial).mono λr _=>?_))
 .unfold kD;dsimp only;have h:=ER (A1 hi);rw[E0,A6 hi,A7,h,A0,EU oa];refine DL.2 (Tot.mono (P:=λ_=>True) (DN.2 ⟨λ_=>IJ.2 ⟨_,rfl⟩,λ_=>DM.2 trivial⟩) λa _=>?_);refine DL.2 (Tot.mono (P:=λ_=>True) (DN.2 ⟨λ_=>IJ.2 ⟨_,rfl⟩,λ_=>DM.2 trivial⟩) λd _=>?_);simp_all[DN,DM,trivial]
 .simp_all[kD,E0,A9,AA,A8,DM,trivial]
 .cases r<;>exact DM.2 trivial
def WY(s b:DK)(f:Bool)(a:s.length<=1048576):∃e,QG (s,b,f)=some e:=by
 have⟨r,h⟩:=A0K s a;unfold QG;dsimp only;rw[h,A0];refine IJ.1 (DN.2 ⟨λ_=>DM.2 trivial,λ_=>DN.2 ⟨λ_=>DM.2 trivial,λ_=>DM.2 trivial⟩⟩)
def A7i(k:QL)(l:List DK)(m:List (DK×Bool))(p:l.length<=1048576):Tot (aA (k,l,m)) (λe=>k.1=false->e=0->∀s∈l,(DU DP s m).getD false=true):=by
 unfold aA
 refine DL.2 ((E_ (r:=kL) l.length (λ_ i=>(l,m,k,l,(l.length:Int),i)) (λi _=>k.1=false->∀ s∈l.take i,(DU DP s m).getD false=true)
  (Q:=λq=>match q with| .inl _=>k.1=false->∀s∈l,(DU DP s m).getD false=true| .inr e=>e≠0) oa (λnext _ i hi a b=>?_) (λnext _ a=>?_) () (λ_ s h=>oq)).mono λr w=>?_)
 .unfold kL;dsimp only;rw[E0,A6 hi,A7,ER (A1 hi),A0,EU oa];refine DN.2 ⟨λ_=>DM.2 (show(4:Int)≠0 by decide),λj=>?_⟩;refine DL.2 (Tot.mono (P:=λ_=>True) (DN.2 ⟨λh=>?_,λ_=>DM.2 trivial⟩) λy _=>?_)
  .have h:=AC h;rw[EG oa oa];exact EH.2 ⟨⟨oa,oa⟩,λ_ _=>trivial⟩
  .refine DN.2 ⟨λ_=>DM.2 (show(10:Int)≠0 by decide),λ_=>b () λhk s d=>?_⟩;rw[GX (A1 hi)]at d;grind
 .simp_all[kL,E0,A9,AA,A8,AX,DM]
 grind[DM,hk,absurd]
def AOL(k:QL)(c:LZ)(d:c.2.2.2.length<=1048576)(hk:∀s x,DU DP s k.2.1=some x->x.2.length<=1048576):∃e,kK (k,c)=some e:=by
 have⟨r,l⟩:=A0K c.2.2.2 d;have a:∀b:Bool,∃y,(bif b then S1 c.2.2.2 else some false)=some y:=λb=>match b with|true=>⟨_,l⟩|false=>⟨_,rfl⟩
 unfold kK;dsimp only;refine IJ.1 (DN.2 ⟨λ_=>DN.2 ⟨λ_=>DM.2 trivial,λ_=>DN.2 ⟨λ_=>DM.2 trivial,λ_=>?_⟩⟩,λ_=>DN.2 ⟨λ_=>?_,λ_=>DM.2 trivial⟩⟩)
 .refine DL.2 ((IJ.2 (a _)).mono λy _=>DN.2 ⟨λ_=>DM.2 trivial,λ_=>DM.2 trivial⟩)
 .refine DL.2 (Tot.mono (P:=λ_=>True) (DN.2 ⟨λh=>?_,λ_=>DM.2 trivial⟩) λy _=>DN.2 ⟨λ_=>DM.2 trivial,λ_=>?_⟩)
  .have m:((DU DP c.2.1 k.2.1).getD (([]:DK),([]:List DK))).2.length<=1048576:=by
    cases j:DU DP c.2.1 k.2.1 with
    |none=>simp
    |some x=>exact hk _ _ j
   simp_all[pA,trivial]
  .refine DL.2 ((IJ.2 (a _)).mono λy _=>DN.2 ⟨λ_=>DM.2 trivial,λ_=>DM.2 trivial⟩)
def AOM(k:QL)(l:List WW)(y:l.length<=1048576)(p:∀x∈l,x.1.length<=1048576/\x.2.length<=1048576/\∀s∈x.2,s.length<=1048576):Tot (kG (k,l)) (λ_=>True):=by
 unfold kG;dsimp only;refine DL.2 ((E_ (r:=kF) (σ:=DK) l.length (λb i=>(b,l,(l.length:Int),i)) (λ_ _=>True) (Q:=λ_=>True) oa (λnext b i hi _ z=>?_) (λnext _ _=>?_) [] trivial).mono λq _=>?_)
 .unfold kF;dsimp only;have⟨e,w,m⟩:=p _ (AL hi);rw[E0,A6 hi,A7,ER (A1 hi),A0,EU oa];refine DL.2 ((IJ.2 (WY _ _ _ e)).mono λr _=>DN.2 ⟨λ_=>DM.2 trivial,λ_=>DN.2 ⟨λ_=>DM.2 trivial,λ_=>DN.2 ⟨λ_=>DM.2 trivial,λ_=>?_⟩⟩⟩);refine DL.2 ((E_ (r:=kE) (σ:=DK) l[i].2.length (λb j=>(b,l[i].2,(l[i].2.length:Int),j)) (λ_ _=>True) (Q:=λ_=>True) oa (λa b j h _ d=>?_) (λa _ _=>?_) [] trivial).mono λq _=>?_)
  .unfold kE;dsimp only;rw[E0,A6 h,A7,ER (A1 h),A0,EU oa];exact DL.2 ((IJ.2 (WY _ _ _ (m _ (AL h)))).mono λr _=>DN.2 ⟨λ_=>DM.2 trivial,λ_=>d _ trivial⟩)
  .simp_all[kE,E0,A9,AA,A8,DM,trivial]
  .cases q<;>simp_all[trivial,DM]
 .simp_all[kF,E0,A9,AA,A8,DM,trivial]
 .cases q<;>exact DM.2 trivial
def AON(k:QL)(l:List U7)(z:l.length<=1048576)(p:∀x∈l,x.1.length<=1048576/\x.2.length<=1048576/\∀s∈x.2,s.1.length<=1048576/\s.2.length<=1048576):Tot (kJ (k,l)) (λ_=>True):=by
 unfold kJ;dsimp only;refine DL.2 ((E_ (r:=kI) (σ:=DK) l.length (λb i=>(k,b,l,(l.length:Int),i)) (λ_ _=>True) (Q:=λ_=>True) oa (λnext b i hi _ A=>?_) (λnext _ _=>?_) [] trivial).mono λq _=>?_)
 .unfold kI;dsimp only;have⟨e,y,m⟩:=p _ (AL hi);rw[E0,A6 hi,A7,ER (A1 hi),A0,EU oa];refine DL.2 ((IJ.2 (WY _ _ _ e)).mono λr _=>DN.2 ⟨λ_=>DM.2 trivial,λ_=>DN.2 ⟨λ_=>DM.2 trivial,λ_=>?_⟩⟩);refine DL.2 ((E_ (r:=kH) (σ:=DK) l[i].2.length (λb j=>(k,b,l[i].2,(l[i].2.length:Int),j)) (λ_ _=>True) (Q:=λq=>match q with| .inl w=>w=k| .inr _=>True) oa (λa b j h _ d=>?_) (λa _ _=>?_) [] trivial).mono λq B=>?_)
  .unfold kH;dsimp only;rw[E0,A6 h,A7,ER (A1 h),A0,EU oa];exact DL.2 ((IJ.2 (WY _ _ _ (m _ (AL h)).1)).mono λr _=>DN.2 ⟨λ_=>DM.2 trivial,λ_=>DN.2 ⟨λ_=>DM.2 trivial,λ_=>d _ trivial⟩⟩)
  .unfold kH;dsimp only;rw[E0,A9 (AA _),A8];exact DM.2 rfl
  .cases q<;>simp_all[trivial,DM]
 .simp_all[kI,E0,A9,AA,A8,DM,trivial]
 .cases q<;>exact DM.2 trivial
def A0L(k:QL)(x:ND):Prop:=x.2.2.1.length<=200/\∀s∈x.2.2.2,(DU DP s k.2.2.1).getD false=true
def AOO(k:QL)(hk:k.1=false)(l:List ND)(K:l.length<=1048576)(d:∀x∈l,x.1.length<=1048576/\x.2.1.length<=1048576/\x.2.2.1.length<=1048576/\x.2.2.2.length<=1048576/\(∀c∈x.2.2.1,c.2.2.2.length<=1048576))
 (hi:∀s x,DU DP s k.2.1=some x->x.2.length<=1048576):Tot (kO (k,l)) (λe=>e=0->∀x∈l,A0L k x):=by
 unfold kO;dsimp only;refine DL.2 ((E_ (r:=kN) (σ:=DK) l.length (λb i=>(k,b,l,(l.length:Int),i)) (λi _=>∀x∈l.take i,A0L k x) (Q:=λq=>match q with| .inl _=>∀x∈l,A0L k x| .inr e=>e≠0) oa (λnext b i a z H=>?_) (λnext _ z=>?_) [] (λx h=>oq)).mono λq y=>?_)
 .unfold kN;dsimp only;have⟨B,C,J,D,E⟩:=d _ (AL a);rw[E0,A6 a,A7,ER (A1 a),A0,EU oa];refine DL.2 ((IJ.2 (WY _ _ _ B)).mono λr _=>DN.2 ⟨λh=>DM.2 (λe=>by rw[e]at h;cases h),λ_=>?_⟩);refine DL.2 ((IJ.2 (A0K _ C)).mono λr _=>DN.2 ⟨λh=>DM.2 (show(8:Int)≠0 by decide),λ_=>DN.2 ⟨λ_=>DM.2 (show(3:Int)≠0 by decide),λA=>?_⟩⟩);have A:=AK A;refine DL.2 ((E_ (r:=kM) (σ:=Unit) l[i].2.2.1.length (λ_ j=>(k,l[i].2.2.1,(l[i].2.2.1.length:Int),j)) (λ_ _=>True) (Q:=λq=>match q with| .inl I=>I=k| .inr e=>e≠0) oa (λm b j p _ w=>?_) (λm _ _=>?_) () trivial).mono λq y=>?_)
  .unfold kM;dsimp only;rw[E0,A6 p,A7,ER (A1 p),A0,EU oa];exact DL.2 ((IJ.2 (AOL k _ (E _ (AL p)) hi)).mono λr _=>DN.2 ⟨λh=>DM.2 (λe=>by rw[e]at h;cases h),λ_=>w () trivial⟩)
  .unfold kM;dsimp only;rw[E0,A9 (AA _),A8];exact DM.2 rfl
  .cases q with
   |inl u=>
    cases y;refine DL.2 ((A7i k l[i].2.2.2 k.2.2.1 D).mono λe G=>DN.2 ⟨λh=>DM.2 (λe=>by rw[e]at h;cases h),λh=>H _ λx d=>?_⟩);rw[GX (A1 a)]at d;rcases AV.1 d with d|d
    .exact z x d
    .rw[AP]at d;subst d;refine⟨oa,G hk ?_⟩;grind[DR]
   |inr e=>exact DM.2 y
 .simp_all[kN,E0,A9,AA,A8,AX,DM]
 grind[DM,absurd]
structure GrOk(g:JJ):Prop where
 i:g.1.length<=200
 t:g.2.1.length<=500
 f:g.2.2.1.length<=3000
 calls:∀x∈g.2.2.1,x.2.2.1.length<=200
 makes:∀x∈g.2.2.1,∀s∈x.2.2.2,∃y∈g.2.1,y.1=s
 entries:∀s∈g.2.2.2,∃y∈g.2.2.1,y.1=s
def L6{e:Int}(h:(!(DO e 0))=false):e=0:=by
 grind[DR]
def AOP{g:JJ}(a:GB g):Tot (kP g) (λe=>e=0->GrOk g):=by
 unfold kP;refine DL.2 ((AOK a false).mono λk ⟨k1,w,y,z⟩=>?_);have l:∀s x,DU DP s k.2.1=some x->x.2.length<=1048576:=λs x h=>(a.i1 x (w s x h)).2.1;refine DL.2 (Tot.mono (P:=λe=>e=0->GrOk g) ?_ λe d=>DM.2 d);unfold xV;dsimp only;refine DN.2 ⟨λ_=>DM.2 λh=>absurd h oi,λj=>?_⟩;refine DL.2 ((AOM k _ a.i0 a.i1).mono λe _=>DN.2 ⟨λh=>DM.2 (λe=>by rw[e]at h;cases h),λ_=>?_⟩);refine DL.2 ((AON k _ a.t0 a.t1).mono λe _=>DN.2 ⟨λh=>DM.2 (λe=>by rw[e]at h;cases h),λ_=>?_⟩);refine DL.2 ((AOO k k1 _ a.f0 a.f1 l).mono λe d=>DN.2 ⟨λh=>DM.2 (λe=>by rw[e]at h;cases h),λh=>?_⟩);have d:=d (L6 h);refine DL.2 ((A7i k _ k.2.2.2 a.e0).mono λA b=>DM.2 λp=>?_);have b:=b k1 p;simp only[BK,CW]at j;obtain⟨⟨s1,B⟩,C⟩:=j;refine⟨oa,oa,oa,λx m=>(d x m).1,λx m s j=>?_,λs j=>?_⟩
 .have:=(d x m).2 s j;rw[bR y]at this;grind
 .have:=b s j;rw[bR z]at this;grind
def AOQ(l:List DK)(a:∀s∈l,s.length<=1048576):Tot (kR l) (λe=>e=0->l.length<=30):=by
 unfold kR;refine DN.2 ⟨λ_=>DM.2 λh=>absurd h oi,λh=>?_⟩;have h:=AK h;refine DL.2 ((E_ (r:=kQ) (σ:=DK) l.length (λb i=>(b,l,(l.length:Int),i)) (λ_ _=>True) (Q:=λ_=>True) oa (λnext b i hi _ d=>?_) (λnext _ _=>?_) [] trivial).mono λq _=>?_)
 .unfold kQ;dsimp only;rw[E0,A6 hi,A7,ER (A1 hi),A0,EU oa];exact DL.2 ((IJ.2 (WY _ _ _ (a _ (AL hi)))).mono λr _=>DN.2 ⟨λ_=>DM.2 trivial,λ_=>d _ trivial⟩)
 .simp_all[kQ,E0,A9,AA,A8,DM,trivial]
 grind[DM]
def A7j(s:DK)(a:s.length<=1048576):Tot (TJ s) (λ_=>True):=by
 unfold TJ;refine DL.2 ((E_ (r:=fP) s.length (λ_ i=>(s,(s.length:Int),i)) (λ_ _=>True) (Q:=λ_=>True) oa (λnext _ i hi _ h=>?_) (λnext _ _=>?_) () trivial).mono λr _=>?_)
 .unfold fP;dsimp only;rw[E0,A6 hi,A7,EU oa];simp_all[trivial,EH,DN,DM,DL,Tot.mono]
 .simp_all[fP,E0,A9,AA,A8,DM,trivial]
 .cases r<;>exact DM.2 trivial
def A7k(s:DK)(m:Int)(a:s.length<=1048576):Tot (VM (s,m)) (λ_=>True):=by
 unfold VM;refine DL.2 ((E_ (r:=fQ) s.length (λ_ i=>(s,(s.length:Int),i)) (λ_ _=>True) (Q:=λ_=>True) oa (λnext _ i hi _ h=>?_) (λnext _ _=>?_) () trivial).mono λr _=>?_)
 .unfold fQ;dsimp only;rw[E0,A6 hi,A7,EU oa];simp_all[trivial,EH,DN,DM,DL,Tot.mono]
 .simp_all[fQ,E0,A9,AA,A8,DM,trivial]
 .cases r<;>exact DM.2 trivial
def AOR(s:DK)(m:Int)(h:s.length<=1048576):Tot (fW (s,m)) (λ_=>True):=by
 unfold fW;refine DL.2 ((E_ (r:=fV) s.length (λ_ i=>(s,(s.length:Int),i)) (λ_ _=>True) (Q:=λ_=>True) oa (λnext _ i hi _ hn=>?_) (λnext _ _=>?_) () trivial).mono λr _=>?_)
 .unfold fV;dsimp only;rw[E0,A6 hi,A7,EU oa]
  repeat' first
   |exact hn () trivial
   |exact EH.2 ⟨⟨oa,oa⟩,λ_ _=>trivial⟩
   |exact(A6c.1 _ ⟨oa,by grind[E2]⟩).mono λ_ _=>trivial
   |(with_reducible first|refine DN.2 ⟨λ_=>?_,λ_=>?_⟩|refine DM.2 trivial|refine DL.2 (Tot.mono (P:=λ_=>True) ?_ λ_ _=>?_))
 .simp_all[fV,E0,A9,AA,A8,DM,trivial]
 .cases r<;>exact DM.2 trivial
def AOS(l:List (DK×DK))(a:∀x∈l,x.2.length<=1048576):Tot (fY l) (λ_=>True):=by
 unfold fY;refine DN.2 ⟨λ_=>DM.2 trivial,λh=>?_⟩;have h:=AK h;refine DL.2 ((E_ (r:=fX) l.length (λ_ i=>(l,l,(l.length:Int),i)) (λ_ _=>True) (Q:=λ_=>True) oa (λnext _ i hi _ d=>?_) (λnext _ _=>?_) () trivial).mono λr _=>?_)
 .unfold fX;dsimp only;rw[E0,A6 hi,A7,ER (A1 hi),A0,EU oa];unfold u_;dsimp only;refine DL.2 (Tot.mono (P:=λ_=>True) (DN.2 ⟨λ_=>DM.2 trivial,λ_=>DM.2 trivial⟩) λn _=>DN.2 ⟨λ_=>DM.2 trivial,λ_=>?_⟩);refine DL.2 ((AOR _ _ (a _ (AL hi))).mono λb _=>DN.2 ⟨λ_=>DM.2 trivial,λ_=>?_⟩);refine DL.2 (Tot.mono (P:=λ_=>True) (DN.2 ⟨λh=>?_,λ_=>DM.2 trivial⟩) λ_ _=>DN.2 ⟨λ_=>DM.2 trivial,λ_=>d () trivial⟩);have h:=AC h;rw[EG oa oa];exact EH.2 ⟨⟨oa,oa⟩,λ_ _=>trivial⟩
 .simp_all[fX,E0,A9,AA,A8,DM,trivial]
 .cases r<;>exact DM.2 trivial
def AOT(k:Bool×List (DK×Bool))(l:List DK)(a:∀x∈l,x.length<=1048576):Tot (Z0 (k,l)) (λ_=>True):=by
 unfold Z0;refine DN.2 ⟨λ_=>DM.2 trivial,λh=>?_⟩;have h:=AK h;refine DL.2 ((E_ (r:=fZ) l.length (λ_ i=>(l,k,l,(l.length:Int),i)) (λ_ _=>True) (Q:=λ_=>True) oa (λnext _ i hi _ d=>?_) (λnext _ _=>?_) () trivial).mono λr _=>?_)
 .unfold fZ;dsimp only;rw[E0,A6 hi,A7,ER (A1 hi),A0,EU oa];refine DL.2 ((A7k _ _ (a _ (AL hi))).mono λb _=>DN.2 ⟨λ_=>DM.2 trivial,λ_=>?_⟩);refine DL.2 (Tot.mono (P:=λ_=>True) (DN.2 ⟨λh=>?_,λ_=>DM.2 trivial⟩) λ_ _=>DN.2 ⟨λ_=>DM.2 trivial,λ_=>d () trivial⟩);have h:=AC (CV.1 h).2;rw[EG oa oa];exact EH.2 ⟨⟨oa,oa⟩,λ_ _=>trivial⟩
 .simp_all[fZ,E0,A9,AA,A8,DM,trivial]
 .cases r<;>exact DM.2 trivial
structure BlB(b:JI):Prop where
 n:b.1.length<=1048576
 v:b.2.1.length<=1048576
 c:∀c∈b.2.2.2.1,c.1.length<=1048576/\c.2.1.2.2.2.2.1.length<=1048576/\(∀x∈c.2.2.1,x.2.length<=1048576)/\c.2.2.2.1.length<=1048576/\∀x∈c.2.2.2.2,x.length<=1048576
def AOU(k:Bool×List (DK×Bool))(c:FU)(h1:c.1.length<=1048576)(d:c.2.1.2.2.2.2.1.length<=1048576)(j:∀x∈c.2.2.1,x.2.length<=1048576)(w:c.2.2.2.1.length<=1048576)(z:∀x∈c.2.2.2.2,x.length<=1048576):
 Tot (gA (k,c)) (λe=>e=0->KQ c.2.1=some 0):=by
 unfold gA;dsimp only;refine DL.2 ((A7k _ _ h1).mono λA _=>DN.2 ⟨λ_=>DM.2 λh=>absurd h oi,λ_=>?_⟩);have⟨e,a,_⟩:=bG c.2.1 d;have p:e=0->KQ c.2.1=some 0:=λh=>h▸a;refine DL.2 ⟨e,a,DN.2 ⟨λh=>DM.2 λh0=>(oc),λh=>?_⟩⟩;have a:=p (L6 h);refine DL.2 ((AOS _ j).mono λB _=>DN.2 ⟨λ_=>DM.2 λ_=>a,λ_=>?_⟩);refine DL.2 (Tot.mono (P:=λq:Sum FU Int=>match q with| .inl y=>y=c| .inr _=>True) ?_ λq b=>?_)
 .refine E_ (r:=f_) (σ:=Unit) c.2.2.2.1.length (λ_ i=>(c,(c.2.2.2.1.length:Int),i)) (λ_ _=>True) oa (λnext _ i hi _ l=>?_) (λnext _ _=>?_) () trivial
  .unfold f_;dsimp only;rw[E0,A6 hi,A7,EU oa];refine DL.2 (EH.2 ⟨⟨oa,oa⟩,λs _=>DL.2 (Tot.mono (P:=λ_=>True) (DN.2 ⟨λ_=>EH.2 ⟨⟨oa,oa⟩,λ_ _=>trivial⟩,λ_=>DM.2 trivial⟩) λ_ _=>DN.2 ⟨λ_=>DM.2 trivial,λ_=>l () trivial⟩)⟩)
  .unfold f_;dsimp only;rw[E0,A9 (AA _),A8];exact DM.2 rfl
 .cases q with
  |inr y=>grind[DM]
  |inl y=>
   have b:y=c:=b;subst b;dsimp only;have⟨C,m⟩:=AIF y.2.2.2.1;simp_all[DN,DL,AOT,DM,A0]
structure BlOk(b:JI):Prop where
 few:b.2.2.2.1.length<=3000
 edges:b.2.2.2.2.length<=20000
 purl:∀c∈b.2.2.2.1,KQ c.2.1=some 0
 asc:b.2.2.2.1.Pairwise λa c=>a.1<c.1
 root:b.2.2.1∈b.2.2.2.1.map (·.1)
 ends:∀e∈b.2.2.2.2,e.1∈b.2.2.2.1.map (·.1)/\e.2.1∈b.2.2.2.1.map (·.1)
def AOV{α:Type}{R:α->α->Prop}(A:∀a b c,R a b->R b c->R a c){l:List α}{i:Nat}(h:(l.take i).Pairwise R)(hi:i<l.length)(s:0<i->∀y,l[i-1]?=some y->R y l[i]):(l.take (i+1)).Pairwise R:=by
 rw[GX (A1 hi)];refine List.pairwise_append.2 ⟨h,DF _ _,λa m b d=>?_⟩;rw[AP]at d;subst d;obtain⟨j,w,rfl⟩:=List.mem_take_iff_getElem.1 m;have p:j<i:=oa
 have z:=s oa l[i-1] (A1 oa);by_cases e:j=i-1
 .grind
 .have x:=(C4.1 h) j (i-1) oc oc oa;grind
def A0M(b:JI)(x:BlB b):Tot (VQ b) (λe=>e=0->BlOk b):=by
 unfold VQ;refine DL.2 (Tot.mono (P:=λe=>e=0->BlOk b) ?_ λe p=>DM.2 p);unfold vB;dsimp only;refine DL.2 (Tot.mono (P:=λ_=>True) (DN.2 ⟨λ_=>A7j _ x.n,λ_=>DM.2 trivial⟩) λr1 _=>?_);refine DL.2 (Tot.mono (P:=λ_=>True) (DN.2 ⟨λ_=>A7j _ x.v,λ_=>DM.2 trivial⟩) λr2 _=>?_);refine DN.2 ⟨λ_=>DM.2 λh=>absurd h oi,λ_=>DN.2 ⟨λ_=>DM.2 λh=>absurd h oi,λB=>?_⟩⟩;rw[BK]at B;have D:=AK B.1;have X:=AK B.2
 refine DL.2 (Tot.mono (P:=λq:Sum ((Bool×List (DK×Bool))×JI) Int=>match q with
  | .inl y=>y.2=b/\y.1.1=false/\P2 y.1.2 (b.2.2.2.1.map (·.1))/\(∀c∈b.2.2.2.1,KQ c.2.1=some 0)/\b.2.2.2.1.Pairwise (λa c=>a.1<c.1)
  | .inr e=>e≠0) ?_ λq G=>?_)
 .refine E_ (r:=gF) (σ:=List (DK×Bool)) b.2.2.2.1.length (λm i=>((false,m),b,b.2.2.2.1,(b.2.2.2.1.length:Int),i)) (λi m=>P2 m ((b.2.2.2.1.take i).map (·.1))/\(∀c∈b.2.2.2.1.take i,KQ c.2.1=some 0)/\(b.2.2.2.1.take i).Pairwise (λa c=>a.1<c.1)) oa (λnext m i hi s C=>?_) (λnext m s=>?_) [] ⟨A0J,λc h=>(oq),List.Pairwise.nil⟩
  .obtain⟨Z,j2,O⟩:=s;unfold gF;dsimp only;have l:=A1 hi;have⟨Q,R,T,U,V⟩:=x.c _ (AL hi);rw[E0,A6 hi,A7,ER l,A0,EU oa];refine DL.2 ((AOU (false,m) b.2.2.2.1[i] Q R T U V).mono λe p=>DN.2 ⟨λh=>DM.2 λh0=>(by have h0:e=0:=h0;rw[h0]at h;cases h),λh=>?_⟩);have p:=p (L6 h);refine DL.2 (Tot.mono (P:=λy=>0<i->b.2.2.2.1[i-1]?=some y) (DN.2 ⟨λh=>?_,λh=>DM.2 λh0=>?_⟩) λy Y=>DN.2 ⟨λ_=>DM.2 (show(10:Int)≠0 by decide),λM=>?_⟩)
   .have h:=AC (CV.1 h).2;rw[EG oa oa];refine EH.2 ⟨⟨oa,oa⟩,λz N _=>?_⟩;simp_all
   .grind
   .refine C _ ⟨?_,λc A=>?_,AOV (R:=λa c:FU=>a.1<c.1) (λa b c h1 L=>WN h1 L) O hi λh0 z N=>?_⟩
    .grind[WX,A0I]
    .rw[GX l]at A;grind
    simp_all[CY,BV,A6,A7U]
  .unfold gF;dsimp only;rw[E0,A9 (AA _),A8];rw[AX]at s;exact DM.2 ⟨rfl,rfl,s⟩
 .cases q with
  |inr e=>grind[DM,absurd]
  |inl y=>
   obtain⟨⟨lo,m⟩,d⟩:=y;obtain⟨H,I,w,J,K⟩:=G;dsimp only at H I w J K ⊢;subst H I;rw[bR w];refine DN.2 ⟨λ_=>DM.2 λh=>absurd h oi,λj=>?_⟩;have j:d.2.2.1∈d.2.2.2.1.map (·.1):=by simpa using j
   refine DL.2 (Tot.mono (P:=λe=>e=0->∀e∈d.2.2.2.2,e.1∈d.2.2.2.1.map (·.1)/\e.2.1∈d.2.2.2.1.map (·.1)) ?_ λe p=>DM.2 λh=>⟨oa,oa,J,K,j,p h⟩);unfold vA;dsimp only
   refine DL.2 (Tot.mono (P:=λq:Sum Unit Int=>match q with
    | .inl _=>∀e∈d.2.2.2.2,e.1∈d.2.2.2.1.map (·.1)/\e.2.1∈d.2.2.2.1.map (·.1)
    | .inr e=>e≠0) ?_ λq G=>?_)
   .refine E_ (r:=gE) (σ:=Unit) d.2.2.2.2.length (λ_ i=>(d.2.2.2.2,(false,m),d.2.2.2.2,(d.2.2.2.2.length:Int),i)) (λi _=>∀e∈d.2.2.2.2.take i,e.1∈d.2.2.2.1.map (·.1)/\e.2.1∈d.2.2.2.1.map (·.1)) oa (λnext _ i hi s C=>?_) (λnext _ s=>?_) () (λe h=>oq)
    .unfold gE;dsimp only;have l:=A1 hi;rw[E0,A6 hi,A7,ER l,A0,EU oa,bR w,bR w];refine DN.2 ⟨λ_=>DM.2 (show(9:Int)≠0 by decide),λ_=>DN.2 ⟨λ_=>DM.2 (show(4:Int)≠0 by decide),λE=>DN.2 ⟨λ_=>DM.2 (show(2:Int)≠0 by decide),λ_=>?_⟩⟩⟩;refine DL.2 (Tot.mono (P:=λ_=>True) (DN.2 ⟨λh=>?_,λ_=>DM.2 trivial⟩) λW _=>DL.2 (Tot.mono (P:=λ_=>True) (DN.2 ⟨λ_=>?_,λ_=>DM.2 trivial⟩) λr5 _=>DN.2 ⟨λ_=>DM.2 (show(10:Int)≠0 by decide),λ_=>C () λe p=>?_⟩))
     .have h:=AC (CV.1 h).2;rw[EG oa oa];exact EH.2 ⟨⟨oa,oa⟩,λ_ _=>trivial⟩
     .obtain⟨c,D,_⟩:=A7a W d.2.2.2.2[i];exact⟨c,D,trivial⟩
     .rw[GX l]at p;grind
    .unfold gE;dsimp only;rw[E0,A9 (AA _),A8];grind[List.take_length,DM]
   grind[DM,absurd]
def A7l(i j:Nat)(h:i+j<=4398046511104):shr? IntKind.u64 (IntKind.u64.wrap (IntKind.i64.wrap ((i:Int)+(j:Int)))) 1=some (((i+j) / 2:Nat):Int):=by
 rw[EG oa oa]
 have e:IntKind.u64.wrap ((i:Int)+(j:Int))=(i:Int)+(j:Int):=by
  simp only[IntKind.wrap,IntKind.bits,IntKind.signed];simp;omega
 simp_all[shr?,A9,A8,min,Int.toNat,IntKind.bits,DA]
structure Srch{α:Type}(nm:α->DK)(l:List α)(t:DK)(r:Int×Bool):Prop where
 rng:0<=r.1/\r.1<=l.length
 is:r.2=true->∃y,l[r.1.toNat]?=some y/\nm y=t
 all:(l.Pairwise λa b=>nm a<nm b)->∀y∈l,nm y=t->r.2=true
def A0N{α:Type}(nm:α->DK)(t:DK)(f:α×DK->Option Int):Prop:=∀y,∃c,f (y,t)=some c/\(c<0<->nm y<t)/\(c=0<->nm y=t)
section
variable{α:Type}{nm:α->DK}{t:DK}{f:α×DK->Option Int}(hf:A0N nm t f)
include hf
structure BsI(nm:α->DK)(l:List α)(t:DK)(i j:Nat):Prop where
 le:i<=j/\j<=l.length
 lo:(l.Pairwise λa b=>nm a<nm b)->∀k y,k<i->l[k]?=some y->nm y<t
 hi:(l.Pairwise λa b=>nm a<nm b)->∀k y,j<=k->l[k]?=some y->¬nm y<t
theorem A7m{l:List α}{i j:Nat}(h:BsI nm l t i j)(m:i<j){y:α}(w:l[(i+j) / 2]?=some y):(nm y<t->BsI nm l t ((i+j) / 2+1) j)/\(¬nm y<t->BsI nm l t i ((i+j) / 2)):=by
 obtain⟨⟨h1,x⟩,d,e⟩:=h;obtain⟨p,rfl⟩:=A5.1 w;refine⟨λg=>⟨oa,λs k z hk b=>?_,e⟩,λg=>⟨oa,d,λs k z hk b=>?_⟩⟩
 .obtain⟨a,rfl⟩:=A5.1 b;grind[List.lt_trans,List.pairwise_iff_getElem]
 .obtain⟨a,rfl⟩:=A5.1 b;grind[List.lt_trans,List.pairwise_iff_getElem]
end
def AOW(l:List (DK×DK))(t:DK)(R:l.length<=1048576)(f:(DK×DK)×DK->Option Int)(w:A0N (λy:DK×DK=>y.1) t f):Tot (kS (l,t,f)) (Srch (λy:DK×DK=>y.1) l t):=by
 unfold kS;dsimp only;refine DL.2 (Tot.mono (P:=λr=>∃i:Nat,r=(i:Int)/\BsI (λy:DK×DK=>y.1) l t i i) ?_ λr M=>?_)
 .refine EQ (R:=λr=>∃i:Nat,r=(i:Int)/\BsI (λy:DK×DK=>y.1) l t i i) (λx=>x.1=l/\x.2.1=t/\x.2.2.1=f/\∃i j:Nat,x.2.2.2=((i:Int),(j:Int))/\BsI (λy:DK×DK=>y.1) l t i j) (λx=>(x.2.2.2.2-x.2.2.2.1).toNat)
   (λnext x L A=>?_) _ _ ⟨rfl,rfl,rfl,0,l.length,rfl,⟨oa,λ_ k y h=>absurd h oa,λ_ k y h1 Q=>oc⟩⟩ (by grind[fuel])
  obtain⟨J,V,N,T,U⟩:=x;obtain⟨D,E,G,i,j,H,b⟩:=L;dsimp only at D E G H A;subst D E G;cases H;have z:=b.le;unfold A4x;dsimp only;refine DN.2 ⟨λs=>?_,λs=>DM.2 ⟨i,rfl,?_⟩⟩
  .have s:=AC s;have a:(i+j) / 2<J.length:=oa
   rw[A7l i j oa,A0,EG (n:=(((i+j) / 2:Nat):Int)) oa oa,ER (A1 a),A0];have⟨c,p,C,_⟩:=w J[(i+j) / 2];rw[p,A0];have d:=A7m w b oa (A1 a);refine DN.2 ⟨λh=>?_,λh=>?_⟩
   .rw[EU oa];exact A _ ⟨rfl,rfl,rfl,(i+j) / 2+1,j,rfl,d.1 (C.1 (AC h))⟩ oc
   .exact A _ ⟨rfl,rfl,rfl,i,(i+j) / 2,rfl,d.2 (λg=>AK h (C.2 g))⟩ oc
  grind
 .obtain⟨i,rfl,b⟩:=M;have z:=b.le;by_cases h:i<l.length
  .rw[E0,A6 h,A7,ER (A1 h),A0];have⟨c,p,_,K⟩:=w l[i];rw[A7,p,A0];refine DM.2 ⟨⟨oa,oa⟩,λI=>?_,λm y B e=>?_⟩
   .simp_all[BV,DR,A1,AC]
   .dsimp only;rw[BV,DR];refine A6 (K.2 ?_);obtain⟨k,hk,rfl⟩:=List.mem_iff_getElem.1 B
    have:k=i:=by
     rcases Nat.lt_trichotomy k i with g|g|g
     .exact absurd (b.lo m k _ g (A1 hk)) oc
     .exact g
     .have O:=b.hi m i _ (AD _) (A1 h);grind[List.pairwise_iff_getElem,absurd]
    grind
  .rw[E0,A9 h,A8,A0,A8,A0];refine DM.2 ⟨⟨oa,oa⟩,λI=>(by cases I),λm y B e=>?_⟩;obtain⟨k,hk,rfl⟩:=List.mem_iff_getElem.1 B;exact absurd (b.lo m k _ oa (A1 hk)) oc
def AOX(l:List FU)(t:DK)(R:l.length<=1048576)(f:FU×DK->Option Int)(w:A0N (λy:FU=>y.1) t f):Tot (m9 (l,t,f)) (Srch (λy:FU=>y.1) l t):=by
 unfold m9;dsimp only;refine DL.2 (Tot.mono (P:=λr=>∃i:Nat,r=(i:Int)/\BsI (λy:FU=>y.1) l t i i) ?_ λr M=>?_)
 .refine EQ (R:=λr=>∃i:Nat,r=(i:Int)/\BsI (λy:FU=>y.1) l t i i) (λx=>x.1=l/\x.2.1=t/\x.2.2.1=f/\∃i j:Nat,x.2.2.2=((i:Int),(j:Int))/\BsI (λy:FU=>y.1) l t i j) (λx=>(x.2.2.2.2-x.2.2.2.1).toNat)
   (λnext x L A=>?_) _ _ ⟨rfl,rfl,rfl,0,l.length,rfl,⟨oa,λ_ k y h=>absurd h oa,λ_ k y h1 Q=>oc⟩⟩ (by grind[fuel])
  obtain⟨J,V,N,T,U⟩:=x;obtain⟨D,E,G,i,j,H,b⟩:=L;dsimp only at D E G H A;subst D E G;cases H;have z:=b.le;unfold A5S;dsimp only;refine DN.2 ⟨λs=>?_,λs=>DM.2 ⟨i,rfl,?_⟩⟩
  .have s:=AC s;have a:(i+j) / 2<J.length:=oa
   rw[A7l i j oa,A0,EG (n:=(((i+j) / 2:Nat):Int)) oa oa,ER (A1 a),A0];have⟨c,p,C,_⟩:=w J[(i+j) / 2];rw[p,A0];have d:=A7m w b oa (A1 a);refine DN.2 ⟨λh=>?_,λh=>?_⟩
   .rw[EU oa];exact A _ ⟨rfl,rfl,rfl,(i+j) / 2+1,j,rfl,d.1 (C.1 (AC h))⟩ oc
   .exact A _ ⟨rfl,rfl,rfl,i,(i+j) / 2,rfl,d.2 (λg=>AK h (C.2 g))⟩ oc
  grind
 .obtain⟨i,rfl,b⟩:=M;have z:=b.le;by_cases h:i<l.length
  .rw[E0,A6 h,A7,ER (A1 h),A0];have⟨c,p,_,K⟩:=w l[i];rw[A7,p,A0];refine DM.2 ⟨⟨oa,oa⟩,λI=>?_,λm y B e=>?_⟩
   .simp_all[BV,DR,A1,AC]
   .dsimp only;rw[BV,DR];refine A6 (K.2 ?_);obtain⟨k,hk,rfl⟩:=List.mem_iff_getElem.1 B
    have:k=i:=by
     rcases Nat.lt_trichotomy k i with g|g|g
     .exact absurd (b.lo m k _ g (A1 hk)) oc
     .exact g
     .have O:=b.hi m i _ (AD _) (A1 h);grind[List.pairwise_iff_getElem,absurd]
    grind
  .rw[E0,A9 h,A8,A0,A8,A0];refine DM.2 ⟨⟨oa,oa⟩,λI=>(by cases I),λm y B e=>?_⟩;obtain⟨k,hk,rfl⟩:=List.mem_iff_getElem.1 B;exact absurd (b.lo m k _ oa (A1 hk)) oc
abbrev IE:=JJ×List (DK×Int)×List (DK×Int)×List (DK×List Int)×List (DK×Bool)×Bool
def A7n(t:U7)(n:DK)(b:t.2.length<=1048576):∃r,W0 (t,n)=some r:=by
 unfold W0;dsimp only;refine IJ.1 (DL.2 ((AOW t.2 n b _ ?_).mono λr a=>?_))
 .intro y;grind[WO,WU,xW,bJ]
 .refine DN.2 ⟨λ_=>DM.2 trivial,λh=>?_⟩;have⟨y,d,_⟩:=a.is (by simpa using h);have e:r.1=((r.1.toNat:Nat):Int):=by have:=a.rng;omega
  rw[e,ER d];exact DM.2 trivial
def AOY(t:U7)(x:WW)(h:t.2.length<=1048576)(d:x.2.length<=1048576):∃b,kU (t,x)=some b:=by
 unfold kU;refine IJ.1 (DL.2 ((E_ (r:=kT) (σ:=Unit) x.2.length (λ_ i=>(t,x.2,(x.2.length:Int),i)) (λ_ _=>True) (Q:=λ_=>True) oa (λnext b i hi _ a=>?_) (λnext _ _=>?_) () trivial).mono λq _=>?_))
 .unfold kT;dsimp only;rw[E0,A6 hi,A7,ER (A1 hi),A0,EU oa];exact DL.2 ((IJ.2 (A7n t _ h)).mono λr _=>DN.2 ⟨λ_=>DM.2 trivial,λ_=>a () trivial⟩)
 .simp_all[kT,E0,A9,AA,A8,DM,trivial]
 .cases q<;>exact DM.2 trivial
def P3(m:List (DK×Int))(l:List DK):Prop:=(∀s i,DU DP s m=some i->0<=i/\l[i.toNat]?=some s)/\∀s∈l,∃i,DU DP s m=some i
def A0O:P3 [] []:=⟨λs i h=>(oq),λs h=>(oq)⟩
theorem A0P{m:List (DK×Int)}{l:List DK}(h:P3 m l)(s:DK):P3 (EB DP s (l.length:Int) m) (l++[s]):=by
 refine⟨λk i hk=>?_,λk hk=>?_⟩
 .rw[U8]at hk;by_cases e:k=s
  .grind
  .rw[if_neg e]at hk;have⟨h1,a⟩:=h.1 k i hk;grind
 .rw[U8];by_cases e:k=s
  .simp_all
  .rw[if_neg e];rcases AV.1 hk with hk|hk
   .exact h.2 k hk
   grind
def GJ(m:List (DK×Int))(s:DK):Int:=(DU DP s m).getD 0
def SG{m:List (DK×Int)}{l:List DK}(h:P3 m l)(s:DK)(a:0<l.length):0<=GJ m s/\GJ m s<l.length:=by
 unfold GJ;cases e:DU DP s m with
 |none=>grind
 |some i=>
  have⟨h1,b⟩:=h.1 s i e;grind
def IT(w:IE)(s:DK):List Int:=(DU DP s w.2.2.2.1).getD []
structure WoOk(g:JJ)(how:Int)(w:IE):Prop where
 gr:w.1=g
 fn:P3 w.2.1 (g.2.2.1.map (·.1))
 ty:P3 w.2.2.1 (g.2.1.map (·.1))
 fit:∀s,(IT w s).length<=g.1.length*g.2.1.length/\∀t∈IT w s,0<=t/\t<g.2.1.length
 made:w.2.2.2.2.2=DO how 2
theorem AOZ{b:Type}(k a:DK)(v d:b)(m:List (DK×b)):(DU DP k (EB DP a v m)).getD d=if k=a then v else(DU DP k m).getD d:=by
 rw[U8];grind
def za{p:Prop}(h:p:=by grind[List.getElem?_eq_some_iff,A0P,List.length_map,List.length_take,Nat.min_eq_left,WX]):p:=h
def AO_{g:JJ}(E:GB g)(hi:g.1.length<=200)(x:g.2.1.length<=500)(a:Int)(fs:List DK)(h4:fs.length<=1048576):Tot (kV (g,a,fs)) (λr=>∃w,r=some w/\WoOk g a w):=by
 have h2:=E.f0;unfold kV;dsimp only
 refine DL.2 ((SF (σ:=IE) (α:=ND) g.2.2.1 (λs i=>(s,g.2.2.1,(g.2.2.1.length:Int),i)) (λw i y=>(w.1,EB DP y.1 (i:Int) w.2.1,w.2.2)) (λw=>w)
  (λi w=>w.1=g/\w.2.2.1=[]/\w.2.2.2.1=[]/\w.2.2.2.2.2=DO a 2/\P3 w.2.1 ((g.2.2.1.take i).map (·.1))) oa (λnext s i y h=>?_) (λnext s=>?_) _ ⟨rfl,rfl,rfl,rfl,A0O⟩
  (λw i y h j=>⟨j.1,j.2.1,j.2.2.1,j.2.2.2.1,?_⟩)).mono λz h3=>?_)
 .have l:=(A5.1 h).1;unfold xX;dsimp only;rw[E0,A6 l,A7,ER h,A0,EU oa]
 .simp_all[xX,E0,A9,AA,A8]
 .exact za
 obtain⟨w3,rfl,L,M,N,O,Q⟩:=h3;rw[AX]at Q
 refine DL.2 ((SF (σ:=IE) (α:=U7) g.2.1 (λs i=>(s,g.2.1,(g.2.1.length:Int),i)) (λw i y=>(w.1,w.2.1,EB DP y.1 (i:Int) w.2.2.1,w.2.2.2)) (λw=>w)
  (λi w=>w.1=g/\w.2.1=z.2.1/\w.2.2.2.1=[]/\w.2.2.2.2.2=DO a 2/\P3 w.2.2.1 ((g.2.1.take i).map (·.1))) oa (λnext s i y h=>?_) (λnext s=>?_) _ ⟨L,rfl,N,O,by rw[M];exact A0O⟩
  (λw i y h j=>⟨j.1,j.2.1,j.2.2.1,j.2.2.2.1,?_⟩)).mono λd h5=>?_)
 .have l:=(A5.1 h).1;unfold xY;dsimp only;rw[E0,A6 l,A7,ER h,A0,EU oa]
 .simp_all[xY,E0,A9,AA,A8]
 .exact za
 obtain⟨w5,rfl,R,T,U,V,W⟩:=h5;rw[AX]at W
 have key:Tot (yA (g,(d.1,(d.2.1,(d.2.2.1,(d.2.2.2.1,(d.2.2.2.2.1,d.2.2.2.2.2))))),g.1,(g.1.length:Int),0))
  (λw=>w.1=g/\w.2.1=z.2.1/\w.2.2.1=d.2.2.1/\w.2.2.2.2.2=DO a 2/\∀s,(IT w s).length<=g.1.length*g.2.1.length/\∀t∈IT w s,0<=t/\t<g.2.1.length):=by
  refine E_ (σ:=IE) g.1.length (λw i=>(g,w,g.1,(g.1.length:Int),i)) (λi w=>w.1=g/\w.2.1=z.2.1/\w.2.2.1=d.2.2.1/\w.2.2.2.2.2=DO a 2/\∀s,(IT w s).length<=i*g.2.1.length/\∀t∈IT w s,0<=t/\t<g.2.1.length) oa (λnext w i m p B=>?_) (λnext w p=>?_) _ ⟨R,T,rfl,V,λs=>?_⟩
  .unfold x_;dsimp only;rw[E0,A6 m,A7,ER (A1 m),A0,EU oa];obtain⟨j1,j2,j3,j4,j5⟩:=p;have⟨x1,x2,x3⟩:=E.i1 _ (AL m);have H:(i+1)*g.2.1.length=i*g.2.1.length+g.2.1.length:=C1 _ _;have h7:i*g.2.1.length<=200*500:=Nat.mul_le_mul oa x;refine DL.2 (Tot.mono (P:=λw=>w.1=g/\w.2.1=z.2.1/\w.2.2.1=d.2.2.1/\w.2.2.2.2.2=DO a 2/\∀s,(IT w s).length<=(i+1)*g.2.1.length/\∀t∈IT w s,0<=t/\t<g.2.1.length) ?_ λh8 C=>B _ C);refine E_ (σ:=IE) g.2.1.length (λw k=>(w,g.1[i],g.2.1,(g.2.1.length:Int),k)) (λk w=>w.1=g/\w.2.1=z.2.1/\w.2.2.1=d.2.2.1/\w.2.2.2.2.2=DO a 2/\∀s,(IT w s).length<=i*g.2.1.length+k/\∀t∈IT w s,0<=t/\t<g.2.1.length) oa (λnext w k hk p B=>?_) (λnext w p=>?_) _ ⟨j1,j2,j3,j4,j5⟩
   .unfold xZ;dsimp only;rw[E0,A6 hk,A7,ER (A1 hk),A0,EU oa];obtain⟨k1,I,J,K,A⟩:=p;refine DL.2 ((IJ.2 (AOY _ _ (E.t1 _ (AL hk)).2.1 x2)).mono λb _=>DN.2 ⟨λ_=>?_,λ_=>B w ⟨k1,I,J,K,λs=>⟨oc,(A s).2⟩⟩⟩);have h6:=(A g.1[i].1).1;refine DL.2 (F4.2 ⟨by grind[IT,List.length_singleton],?_⟩);rw[D_,A6 rfl,A7,A0];refine B _ ⟨k1,I,J,K,λs=>?_⟩;show((DU DP s (EB DP _ _ _)).getD []).length<=_/\∀t∈(DU DP s (EB DP _ _ _)).getD [],_;rw[AOZ];by_cases e:s=g.1[i].1
    .rw[if_pos e];refine⟨by grind[List.length_append,List.length_singleton,IT],λt x=>?_⟩;rcases AV.1 x with x|x
     .exact(A g.1[i].1).2 t x
     grind
    .rw[if_neg e];exact⟨by have:=(A s).1;grind[IT],(A s).2⟩
   .unfold xZ;dsimp only;rw[E0,A9 (AA _),A8];grind[DM,IT]
  .unfold x_;dsimp only;rw[E0,A9 (AA _),A8];exact DM.2 p
  .unfold IT;rw[show(d.2.2.2.1:List (DK×List Int))=[]from U];exact⟨AQ _,λt h=>oq⟩
 refine DL.2 (key.mono λG ⟨X,Y,Z,c4,c5⟩=>?_)
 refine DL.2 ((SF (σ:=IE) (α:=DK) fs (λs i=>(s,fs,(fs.length:Int),i)) (λw i y=>(w.1,w.2.1,w.2.2.1,w.2.2.2.1,EB DP y true w.2.2.2.2.1,w.2.2.2.2.2)) (λw=>w)
  (λi w=>w.1=g/\w.2.1=z.2.1/\w.2.2.1=d.2.2.1/\w.2.2.2.2.2=DO a 2/\w.2.2.2.1=G.2.2.2.1) oa (λnext s i y h=>?_) (λnext s=>?_) _ ⟨X,Y,Z,c4,rfl⟩
  (λw i y h j=>j)).mono λh9 D=>DM.2 ⟨_,rfl,?_⟩)
 .have l:=(A5.1 h).1;unfold yB;dsimp only;rw[E0,A6 l,A7,ER h,A0,EU oa]
 .simp_all[yB,E0,A9,AA,A8]
 obtain⟨x0,rfl,d1,d2,d3,d4,d5⟩:=D;refine⟨d1,oc,oc,λs=>?_,d4⟩;have:=c5 s;grind[IT]
abbrev L7:=Option IE×List Bool×List Bool×List ((DK×DK)×Bool)×List (DK×DK)×List Int×List Int
def AOa(l:List Int)(v:Int)(e:l.length<=1099511627776):kX (l,v)=some (decide (v∈l)):=by
 unfold kX yC;dsimp only
 refine LX (DL.2 (Tot.mono (P:=λr=>(0<=r<->v∈l)) (DL.2 ((E_ (r:=kW) (σ:=Unit) l.length (λ_ i=>(l,v,(l.length:Int),i)) (λi _=>v ∉ l.take i)
  (Q:=λq=>match q with| .inl _=>v ∉ l| .inr n=>0<=n/\v∈l) oa (λnext _ i hi a b=>?_) (λnext _ a=>?_) () oh).mono λq j=>?_)) λr d=>DM.2 (decide_eq_decide.2 d)))
 .unfold kW;dsimp only;rw[E0,A6 hi,A7,ER (A1 hi),A0,EU oa,DR];refine DN.2 ⟨λh=>DM.2 ⟨oa,?_⟩,λh=>b () ?_⟩
  .grind
  .rw[GX (A1 hi)];grind
 .simp_all[kW,E0,A9,AA,A8,AX,DM]
 grind[DM,absurd]
noncomputable def QN(w:IE)(m:DK)(t:Int):Int:=match w.1.2.1[t.toNat]? with
 |some y=>GJ w.2.1 ((W0 (y,m)).getD ([],false)).1
 |none=>0
def P4(w:IE)(c:LZ):Bool:=(DU DP c.2.2.2 w.2.2.2.2.1).getD false
def Goes(w:IE)(md:List Bool)(c:LZ)(j:Int):Prop:=
 if c.1=1 then j=GJ w.2.1 c.2.1 else ∃t∈IT w c.2.1,(w.2.2.2.2.2=false\/md[t.toNat]?=some true)/\j=QN w c.2.2.1 t
inductive Rch (w:IE) (fs md:List Bool):Int->Prop where
 |entry (e:DK) (h:e∈w.1.2.2.2):Rch w fs md (GJ w.2.1 e)
 |step (i:Nat) (f:ND) (c:LZ) (j:Int) (h1:Rch w fs md (i:Int)) (h2:fs[i]?=some true) (h3:w.1.2.2.1[i]?=some f) (h4:c∈f.2.2.1) (h5:P4 w c=true) (h6:Goes w md c j):Rch w fs md j
def Mor(a b:List Bool):Prop:=∀i:Nat,a[i]?=some true->b[i]?=some true
theorem Mor.refl(a:List Bool):Mor a a:=λ_ h=>h
theorem Mor.trans{a b c:List Bool}(h:Mor a b)(k:Mor b c):Mor a c:=λi g=>k i (h i g)
def A7o(a:List Bool)(j:Nat):Mor a (a.set j true):=λi h=>by
 grind
theorem Goes.mono{w:IE}{a m:List Bool}{c:LZ}{j:Int}(h:Goes w a c j)(k:Mor a m):Goes w m c j:=by
 unfold Goes at h ⊢;by_cases e:c.1=1
 .rwa[if_pos e]at h ⊢
 .rw[if_neg e]at h ⊢;obtain⟨t,h1,b,d⟩:=h;exact⟨t,h1,b.imp id (k _),d⟩
def Rch.mono{w:IE}{fs b a m:List Bool}{j:Int}(h:Rch w fs b j)(k1:Mor fs a)(z:Mor b m):Rch w a m j:=by
 induction h with
 |entry e h=>exact .entry e h
 |step i f c j _ d l p s x y=>exact .step i f c j y (k1 i d) l p s (x.mono z)
theorem AOb{l:List Bool}:∀{i:Nat},l[i]?=some false->(l.set i true).countP id=l.countP id+1:=by
 grind
structure SpI(w:IE)(s:L7)(p k:Nat):Prop where
 w0:s.1=some w
 fl:s.2.1.length=w.1.2.2.1.length
 ml:s.2.2.1.length=w.1.2.1.length
 cnt:s.2.1.countP id=p+s.2.2.2.2.2.2.length
 q:∀j∈s.2.2.2.2.2.2,0<=j/\s.2.1[j.toNat]?=some true
 r:∀i:Nat,s.2.1[i]?=some true->Rch w s.2.1 s.2.2.1 (i:Int)
 o:∀x∈s.2.2.2.2.1,∃(i:Nat) (f:ND) (c:LZ),s.2.1[i]?=some true/\w.1.2.2.1[i]?=some f/\c∈f.2.2.1/\P4 w c=true/\c.1≠1/\c.2.1=x.1/\c.2.2.1=x.2
 ol:s.2.2.2.2.1.length<=k
def SpI.few{w:IE}{s:L7}{p k:Nat}(h:SpI w s p k):p+s.2.2.2.2.2.2.length<=w.1.2.2.1.length:=by
 rw[<-h.cnt,<-h.fl];grind
section
variable{g:JJ}{how:Int}{w:IE}(hw:WoOk g how w)(hg:GB g)(ho:GrOk g)
include hw hg
theorem pL(c:LZ){t:Int}(h0:0<=t)(h1:t<g.2.1.length):TV (some w,c,t)=some (QN w c.2.2.1 t):=by
 have e:t=((t.toNat:Nat):Int):=oa
 have h:t.toNat<g.2.1.length:=oa
 have b:=A1 h;have⟨r,a⟩:=A7n g.2.1[t.toNat] c.2.2.1 (hg.t1 _ (AL h)).2.1;unfold TV;dsimp only;rw[A0,hw.gr,e,ER b,A0,a,A0,A0];unfold QN;rw[hw.gr,C5,b];dsimp only;rw[a];rfl
omit hg in
theorem A0Q(m:DK)(t:Int)(h:0<g.2.2.1.length):0<=QN w m t/\QN w m t<g.2.2.1.length:=by
 unfold QN;split
 .have:=SG hw.fn;grind
 .omega
omit hg in
theorem pM{s:L7}{p k:Nat}(h:SpI w s p k){j:Int}(E:Rch w s.2.1 s.2.2.1 j)(h0:0<=j)(h1:j<g.2.2.1.length)(H:g.2.2.1.length<=1048576):
 Tot (TU (s,j)) (λz=>SpI w z p k/\z.2.2.1=s.2.2.1/\z.2.2.2.2.1=s.2.2.2.2.1/\Mor s.2.1 z.2.1/\z.2.1[j.toNat]?=some true):=by
 have l:=h.few;have m:=hw.gr;rw[m]at l;have C:=h.fl;rw[m]at C;obtain⟨b,B⟩:∃b,s.2.1[j.toNat]?=some b:=⟨_,A1 oa⟩;have D:s.2.1.getD j.toNat false=b:=by rw[AH,B];rfl
 unfold TU;dsimp only;refine DL.2 (ET.2 ⟨⟨h0,oa⟩,?_⟩);rw[D];cases b with
 |true=>exact DM.2 ⟨h,rfl,rfl,Mor.refl _,B⟩
 |false=>
  refine DL.2 (ET.2 ⟨⟨h0,oa⟩,?_⟩);refine DL.2 (F4.2 ⟨oc,DM.2 ?_⟩);have A:=A7o s.2.1 j.toNat;have y:(s.2.1.set j.toNat true)[j.toNat]?=some true:=by rw[List.getElem?_set,if_pos rfl,if_pos oa]
  refine⟨⟨h.w0,oc,h.ml,?_,λa d=>?_,λi hi=>?_,λx G=>?_,h.ol⟩,rfl,rfl,A,y⟩
  .dsimp only;rw[AOb B,h.cnt,AG,List.length_singleton];omega
  .rcases AV.1 d with d|d
   .exact⟨(h.q a d).1,A _ (h.q a d).2⟩
   grind
  .dsimp only at hi ⊢;by_cases e:i=j.toNat
   .have:((i:Nat):Int)=j:=oa
    rw[this];exact E.mono A (Mor.refl _)
   .rw[List.getElem?_set,if_neg (λh=>e h.symm)]at hi;exact(h.r i hi).mono A (Mor.refl _)
  .obtain⟨i,f,c,k1,I⟩:=h.o x G;grind
theorem AOc{s:L7}{p k:Nat}(h:SpI w s p k){t:Int}(h0:0<=t)(h1:t<g.2.1.length)(hn:g.2.2.1.length<=3000)(hp:k<=1000000)(b:g.1.length*g.2.1.length<=1099511627776)(z:0<g.2.2.1.length):
 Tot (kZ (s,t)) (λa=>SpI w a p k/\Mor s.2.1 a.2.1):=by
 have j:=hw.gr;have y:=h.ml;rw[j]at y;have T:=h.ol;have e:=h.few;rw[j]at e;unfold kZ;dsimp only;refine DL.2 (ET.2 ⟨⟨h0,oa⟩,DN.2 ⟨λ_=>DM.2 ⟨h,Mor.refl _⟩,λ_=>?_⟩⟩);refine DL.2 (ET.2 ⟨⟨h0,oa⟩,?_⟩);rw[h.w0,A0];have R:=A7o s.2.2.1 t.toNat;have J:(s.2.2.1.set t.toNat true)[t.toNat]?=some true:=by rw[List.getElem?_set,if_pos rfl,if_pos oa]
 have H:SpI w (some w,(s.2.1,((s.2.2.1.set t.toNat true),(s.2.2.2.1,(s.2.2.2.2.1,(s.2.2.2.2.2.1,s.2.2.2.2.2.2)))))) p k:=
  ⟨rfl,h.fl,oc,h.cnt,h.q,λi hi=>(h.r i hi).mono (Mor.refl _) R,h.o,h.ol⟩
 refine DN.2 ⟨λ_=>DM.2 ⟨H,Mor.refl _⟩,λ_=>?_⟩;refine DL.2 (Tot.mono (P:=λa=>SpI w a p k/\Mor s.2.1 a.2.1) ?_ λa A=>DM.2 A)
 refine E_ (r:=kY) (σ:=L7) s.2.2.2.2.1.length (λa i=>(a,t,s.2.2.2.2.1,(s.2.2.2.2.1.length:Int),i)) (λ_ a=>SpI w a p k/\Mor s.2.1 a.2.1/\a.2.2.1=s.2.2.1.set t.toNat true/\a.2.2.2.2.1=s.2.2.2.2.1) oa
  (λnext a i hi G m=>?_) (λnext a G=>?_) _ ⟨H,Mor.refl _,rfl,rfl⟩
 .obtain⟨d,D,E,x⟩:=G;unfold kY;dsimp only;rw[E0,A6 hi,A7,ER (A1 hi),A0,d.w0,A0,EU oa];have I:=AOa (IT w s.2.2.2.2.1[i].1) t (AM (hw.fit _).1 b);unfold IT at I;rw[I,A0];have l:(a.1,a.2.1,a.2.2.1,a.2.2.2.1,a.2.2.2.2.1,a.2.2.2.2.2.1,a.2.2.2.2.2.2)=a:=rfl;rw[d.w0]at l;refine DN.2 ⟨λQ=>?_,λ_=>m _ ⟨oc,D,E,x⟩⟩;rw[pL hw hg _ h0 h1,A0,l];have⟨B,C⟩:=A0Q hw s.2.2.2.2.1[i].2 t z;have U:s.2.2.2.2.1[i]∈a.2.2.2.2.1:=x.symm▸AL hi;have⟨K,f,c,k1,V,W,X,Y,Z,k7⟩:=d.o _ U;refine DL.2 ((pM hw d (j:=QN w s.2.2.2.2.1[i].2 t) ?_ B C oa).mono λs2 ⟨L,M,N,O,_⟩=>m s2 ⟨L,D.trans O,M.trans E,N.trans x⟩);refine .step K f c _ (d.r K k1) k1 V W X ?_;unfold Goes;rw[if_neg Y];refine⟨t,?_,.inr oc,by rw[k7]⟩;rw[Z];exact AC Q
 .unfold kY;dsimp only;rw[E0,A9 (AA _),A8];grind[DM]
theorem AOd{s:L7}{p k:Nat}(h:SpI w s p k)(hn:g.2.2.1.length<=3000)(hp:k<1000000)(K:g.1.length*g.2.1.length<=1099511627776){i:Nat}{f:ND}{c:LZ}(hi:s.2.1[i]?=some true)(hf:g.2.2.1[i]?=some f)(T:c∈f.2.2.1)(D:P4 w c=true):
 Tot (lA (s,c)) (λa=>SpI w a p (k+1)/\Mor s.2.1 a.2.1):=by
 have e:=hw.gr;have B:0<g.2.2.1.length:=by have:=(A5.1 hf).1;omega
 have L:=h.ml;rw[e]at L;have h2:=h.ol;have m:=h.few;rw[e]at m;have z:(s.1,s.2.1,s.2.2.1,s.2.2.2.1,s.2.2.2.2.1,s.2.2.2.2.2.1,s.2.2.2.2.2.2)=s:=rfl;have up:∀{a},SpI w a p k->SpI w a p (k+1):=λh=>⟨h.w0,h.fl,h.ml,h.cnt,h.q,h.r,h.o,by have:=h.ol;omega⟩;unfold lA;dsimp only;rw[h.w0]at z ⊢;rw[DR];refine DN.2 ⟨λG=>?_,λG=>?_⟩
 .rw[A0,z];have U:=SG hw.fn c.2.1;rw[AY]at U;have⟨r0,r1⟩:=U B;refine DL.2 ((pM hw h (j:=GJ w.2.1 c.2.1) ?_ r0 r1 oa).mono λV ⟨I,W,X,J,_⟩=>DM.2 ⟨up I,J⟩);refine .step i f c _ (h.r i hi) hi oc T D ?_;unfold Goes;grind
 .have G:=AK G;refine DN.2 ⟨λ_=>DM.2 (by grind[Mor.refl]),λ_=>?_⟩;refine DL.2 (F4.2 ⟨oc,?_⟩);rw[A0]
  have Y:SpI w (some w,(s.2.1,(s.2.2.1,((EB (λ(x y:DK×DK)=>DP x.1 y.1&&DP x.2 y.2) (c.2.1,c.2.2.1) true s.2.2.2.1),(s.2.2.2.2.1++[(c.2.1,c.2.2.1)],(s.2.2.2.2.2.1,s.2.2.2.2.2.2)))))) p (k+1):=by
   refine⟨rfl,h.fl,h.ml,h.cnt,h.q,h.r,λx H=>?_,oc⟩;rcases AV.1 H with H|H
   .exact h.o x H
   .grind
  have⟨fl,Q⟩:=hw.fit c.2.1;unfold IT at fl Q;refine DL.2 (Tot.mono (P:=λa=>SpI w a p (k+1)/\Mor s.2.1 a.2.1) ?_ λa M=>DM.2 M)
  refine E_ (r:=k_) (σ:=L7) ((DU DP c.2.1 w.2.2.2.1).getD []).length (λa i=>(a,c,(DU DP c.2.1 w.2.2.2.1).getD [],(((DU DP c.2.1 w.2.2.2.1).getD []).length:Int),i)) (λ_ a=>SpI w a p (k+1)/\Mor s.2.1 a.2.1) oa
   (λnext a n j R C=>?_) (λnext a R=>?_) _ ⟨Y,Mor.refl _⟩
  .obtain⟨l,E⟩:=R;unfold k_;dsimp only;have d:=AL j;have⟨t0,t1⟩:=Q _ d;have A:=l.ml;rw[e]at A;rw[E0,A6 j,A7,ER (A1 j),A0,l.w0,A0,EU oa];have b:(a.1,a.2.1,a.2.2.1,a.2.2.2.1,a.2.2.2.2.1,a.2.2.2.2.2.1,a.2.2.2.2.2.2)=a:=rfl;rw[l.w0]at b;refine DL.2 (Tot.mono (P:=λ_=>True) (DN.2 ⟨λ_=>ET.2 ⟨⟨t0,oa⟩,trivial⟩,λ_=>DM.2 trivial⟩) λ_ _=>?_);refine DN.2 ⟨λZ=>?_,λ_=>C _ ⟨oc,E⟩⟩;rw[pL hw hg _ t0 t1,A0,b];have⟨N,O⟩:=A0Q hw c.2.2.1 ((DU DP c.2.1 w.2.2.2.1).getD [])[n] B;refine DL.2 ((pM hw l ?_ N O oa).mono λV ⟨I,W,X,J,_⟩=>C V ⟨I,E.trans J⟩);refine .step i f c _ (l.r i (E i hi)) (E i hi) oc T D ?_;unfold Goes;rw[if_neg G];refine⟨_,d,?_,rfl⟩;grind
  simp_all[k_,E0,A9,AA,A8,DM]
end
structure SpOk(w:IE)(s:L7):Prop where
 w0:s.1=some w
 fl:s.2.1.length=w.1.2.2.1.length
 ml:s.2.2.1.length=w.1.2.1.length
 r:∀i:Nat,s.2.1[i]?=some true->Rch w s.2.1 s.2.2.1 (i:Int)
section
variable{g:JJ}{how:Int}{w:IE}(hw:WoOk g how w)(hg:GB g)(ho:GrOk g)
include hw hg ho
theorem A7p:Tot (aC (some w,-1)) (λr=>∃s,r=some s/\SpOk w s):=by
 have d:=hw.gr;have X:=ho.f;have hm:=ho.t
 have A:g.1.length*g.2.1.length<=1099511627776:=by
  have:=Nat.mul_le_mul ho.i ho.t;omega
 have h6:=hg.e0;unfold aC;dsimp only;rw[A0,d]
 have mk:∀n:Nat,n<=3000->mks? 24 (n:Int) (n:Int) false=some (List.replicate n false):=λn h=>by
  grind[mks?,decide_eq_true]
 rw[mk _ X,A0,A0,d,mk _ oa,A0,A0,d]
 have hS:SpI w (some w,(List.replicate g.2.2.1.length false,(List.replicate g.2.1.length false,(([]:List ((DK×DK)×Bool)),(([]:List (DK×DK)),(([]:List Int),([]:List Int))))))) 0 0:=by
  refine⟨rfl,oc,oc,oh,λj h=>(oq),λi h=>?_,λx h=>(oq),AD _⟩;dsimp only at h;rw[D4]at h;split at h<;>cases h
 refine DL.2 (Tot.mono (P:=λs=>SpI w s 0 0) ?_ λr9 T=>?_)
 .refine E_ (r:=lB) (σ:=L7) g.2.2.2.length (λs i=>(some w,s,g.2.2.2,(g.2.2.2.length:Int),i)) (λ_ s=>SpI w s 0 0) oa (λnext s i hi b C=>?_) (λnext s b=>?_) _ hS
  .unfold lB;dsimp only;have B:=AL hi;have⟨y,Z,_⟩:=ho.entries _ B;have K:0<g.2.2.1.length:=List.length_pos_of_mem Z;rw[E0,A6 hi,A7,ER (A1 hi),A0,A0,EU oa];have L:=SG hw.fn g.2.2.2[i];rw[AY]at L;have⟨r0,r1⟩:=L K;exact DL.2 ((pM hw b (j:=GJ w.2.1 g.2.2.2[i]) (.entry _ oc) r0 r1 oa).mono λM D=>C M D.1)
  simp_all[lB,E0,A9,AA,A8,DM]
 refine DL.2 (Tot.mono (P:=SpOk w) ?_ λs hs=>DM.2 ⟨_,rfl,hs⟩);refine EQ (R:=SpOk w) (λx=>x.1=some w/\x.2.1= -1/\∃p,SpI w x.2.2 p (200*p)) (λx=>(x.2.2.2.1.countP λb=>!b)+x.2.2.2.2.2.2.2.2.length) (λnext x hI C=>?_) _ _ ⟨rfl,rfl,0,T⟩ ?_
 .obtain⟨w',u,s⟩:=x;obtain⟨e1,e2,p,b⟩:=hI;dsimp only at e1 e2 b C;subst e1 e2;have z:=b.few;have E:=b.cnt;have Q:=b.fl;rw[d]at z Q
  have G:∀l:List Bool,l.countP id+l.countP (λb=>!b)=l.length:=λl=>by
   induction l<;>grind
  unfold A5A;dsimp only;obtain⟨s1,fs,md,sl,od,ty,R⟩:=s;dsimp only at b z E Q C ⊢;cases R with
  |nil=>
   rw[show decide ((0:Int)<(([]:List Int).length:Int))=false from rfl,A8];exact DM.2 ⟨b.w0,b.fl,b.ml,b.r⟩
  |cons j R=>
   have⟨j0,W⟩:=b.q j AE;dsimp only at W;have h7:=(A5.1 W).1;have ec:((j.toNat:Nat):Int)=j:=oa
   obtain⟨f,U⟩:∃f,g.2.2.1[j.toNat]?=some f:=⟨_,A1 oa⟩;rw[BJ]at E z;rw[show decide ((0:Int)<((j::R).length:Int))=true from A6 oh,A7];refine DL.2 (ET.2 ⟨⟨oa,oh⟩,?_⟩);refine DL.2 (I6.2 ⟨⟨oa,oc,oa⟩,?_⟩);rw[show((j::R).getD 0 (0:Int))=j from rfl,C5,AX,show(Int.toNat 1)=1 from rfl,List.drop_one,List.tail_cons,show DO j (-1)=false from by grind[DR,decide_eq_false],A8,A0,d];have O:at? g.2.2.1 j=some f:=by rw[<-ec];exact ER U
   rw[O,A0];have b':SpI w (s1,(fs,(md,(sl,(od,(ty,R)))))) (p+1) (200*p):=⟨b.w0,b.fl,b.ml,oc,λa ha=>b.q a (AN _ ha),b.r,b.o,b.ol⟩;have I:=AJ U;refine DL.2 (Tot.mono (P:=λs=>SpI w s (p+1) (200*p)/\Mor fs s.2.1) ?_ λx3 ⟨c1,c2⟩=>?_)
   .have h8:=(hg.f1 f I).2.2.2.1;refine E_ (r:=lC) (σ:=L7) f.2.2.2.length (λs i=>(some w,s,f.2.2.2,(f.2.2.2.length:Int),i)) (λ_ s=>SpI w s (p+1) (200*p)/\Mor fs s.2.1) oa (λnext s i hi H m=>?_) (λnext s H=>?_) _ ⟨b',Mor.refl _⟩
    .unfold lC;dsimp only;have B:=AL hi;have⟨y,Z,_⟩:=ho.makes f I _ B;have K:0<g.2.1.length:=List.length_pos_of_mem Z;rw[E0,A6 hi,A7,ER (A1 hi),A0,A0,EU oa];have L:=SG hw.ty f.2.2.2[i];rw[AY]at L;have⟨r0,r1⟩:=L K;exact DL.2 ((AOc hw hg H.1 (t:=GJ w.2.2.1 f.2.2.2[i]) r0 r1 X oa A oa).mono λM D=>m M ⟨D.1,H.2.trans D.2⟩)
    simp_all[lC,E0,A9,AA,A8,DM]
   rw[A0,d,O,A0];have h5:=ho.calls f I;refine DL.2 (Tot.mono (P:=λr=>∃s,r=Sum.inr s/\∃k,k<=200*(p+1)/\SpI w s (p+1) k/\Mor fs s.2.1) ?_ λx4 L=>?_)
   .refine E_ (r:=lD) (σ:=L7) f.2.2.1.length (λs i=>(some w,-1,s,f.2.2.1,(f.2.2.1.length:Int),i)) (λn s=>∃k,k<=200*p+n/\SpI w s (p+1) k/\Mor fs s.2.1) oa (λnext s n J H m=>?_) (λnext s H=>?_) _ ⟨200*p,AD _,c1,c2⟩
    .obtain⟨k,k1,e,N⟩:=H;unfold lD;dsimp only;rw[E0,A6 J,A7,ER (A1 J),A0,A0,EU oa];refine DN.2 ⟨λ_=>m s ⟨k,oa,e,N⟩,λx2=>?_⟩;refine DL.2 ((AOd hw hg e X oa A (N _ W) U (AL J) (by grind[P4])).mono λM D=>?_);rw[show decide ((0:Int)<= -1)=false from oi,A8,A0,CX,A8];exact m M ⟨k+1,oa,D.1,N.trans D.2⟩
    .obtain⟨k,k1,e,N⟩:=H;unfold lD;dsimp only;rw[E0,A9 (AA _),A8];exact DM.2 ⟨s,rfl,k,oa,e,N⟩
   .obtain⟨M,rfl,k,k1,e,N⟩:=L;have Y:=e.ol;have h4:=e.cnt;have V:=e.fl;have x0:=G fs;have x1:=G M.2.1;rw[d]at V;refine C _ ⟨rfl,rfl,p+1,⟨e.w0,e.fl,e.ml,e.cnt,e.q,e.r,e.o,AM Y k1⟩⟩ ?_;grind
 .dsimp only;have h1:=T.few;rw[d]at h1;have D:r9.2.1.countP (λb=>!b)<=r9.2.1.length:=List.countP_le_length;have h3:=T.fl;grind[fuel]
end
def bT(nx:List (List Int)):Prop:=nx.length<=1048576/\∀r∈nx,r.length<=1099511627776/\∀j∈r,0<=j/\j<nx.length
structure Bf(nx:List (List Int))(t:Nat)(D:Int)(o q:List Int)(p cur k:Nat):Prop where
 len:o.length=nx.length
 cnt:o.countP (λx=>decide (0<=x))=p+q.length
 t0:o[t]?=some 0
 qin:∀j∈q,0<=j/\∃x:Int,o[j.toNat]?=some x/\0<=x/\D<=x
 low:∀(j:Nat) (x:Int),o[j]?=some x-> -1<=x/\x<=D+1/\x<p+q.length
 pre:∀(j:Nat) (x:Int),o[j]?=some x->0<=x->(x=0/\j=t)\/∃(i:Nat) (y:Int) (r:List Int),o[i]?=some y/\0<=y/\x=y+1/\nx[i]?=some r/\(j:Int)∈r
 srt:q.Pairwise λa b=>∀x y,o[a.toNat]?=some x->o[b.toNat]?=some y->x<=y
 clo:∀(i:Nat) (y:Int) (r:List Int),o[i]?=some y->0<=y->nx[i]?=some r->(i:Int)∈q\/∀j∈(if i=cur then r.take k else r),∃x:Int,o[j.toNat]?=some x/\0<=x/\x<=y+1
theorem A7q{l:List Int}{P:Int->Bool}:∀{i:Nat} {a b:Int},l[i]?=some a->P a=false->P b=true->(l.set i b).countP P=l.countP P+1:=by
 grind
def AOe{nx:List (List Int)}{t:Nat}{D:Int}{o q r:List Int}{p b k:Nat}{j x:Int}(h:Bf nx t D o q p b k)(m:o[b]?=some D)(J:nx[b]?=some r)(I:r[k]?=some j)
 (L:o[j.toNat]?=some x)(h0:0<=x):Bf nx t D o q p b (k+1):=by
 obtain⟨h1,A,B,C,E,G,H,d⟩:=h;refine⟨h1,A,B,C,E,G,H,λi y K s z w=>?_⟩;rcases d i y K s z w with d|d
 .exact .inl d
 .refine .inr λa l=>?_;by_cases e:i=b
  .subst e;rw[if_pos rfl]at d l;rw[J]at w;cases w;rw[m]at s;cases s;rw[GX I]at l;rcases AV.1 l with l|l
   .exact d a l
   grind[List.mem_singleton]
  simp_all
def AOf{nx:List (List Int)}{t:Nat}{D:Int}{o q r:List Int}{p l k:Nat}{j x:Int}(h:Bf nx t D o q p l k)(m:o[l]?=some D)(I:0<=D)(L:nx[l]?=some r)(hj:r[k]?=some j)
 (h9:0<=j)(hx:o[j.toNat]?=some x)(h0:x<0):Bf nx t D (o.set j.toNat (D+1)) (q++[j]) p l (k+1):=by
 obtain⟨h1,h2,U,H,V,W,X,A⟩:=h;have E:j.toNat<o.length:=(A5.1 hx).1
 have old:∀(i:Nat) y,o[i]?=some y->0<=y->(o.set j.toNat (D+1))[i]?=some y:=λi y w z=>by
  rw[List.getElem?_set];by_cases e:j.toNat=i<;>grind
 have s:∀(i:Nat) y,(o.set j.toNat (D+1))[i]?=some y->(i=j.toNat/\y=D+1)\/(i≠j.toNat/\o[i]?=some y):=λi y g=>by
  rw[List.getElem?_set]at g;by_cases e:j.toNat=i<;>grind
 have K:(o.set j.toNat (D+1))[j.toNat]?=some (D+1):=by rw[List.getElem?_set,if_pos rfl,if_pos E]
 have Y:=(V _ _ m).2.2;refine⟨oc,?_,old _ _ U (AS _),λa d=>?_,λi y g=>?_,λi y g T=>?_,?_,λi y O w z C=>?_⟩
 .grind[A7q,List.length_append,List.length_singleton]
 .rcases AV.1 d with d|d
  .obtain⟨a0,y,w,z⟩:=H a d;grind
  .rw[AP]at d;grind
 .rw[AG,List.length_singleton];rcases s i y g with⟨_,rfl⟩|⟨_,g⟩<;>grind
 .rcases s i y g with⟨e,rfl⟩|⟨_,g⟩
  .refine .inr ⟨l,D,r,old _ _ m I,I,rfl,L,?_⟩;have:((i:Nat):Int)=j:=oa
   grind[List.mem_of_getElem?]
  .rcases W i y g T with h|⟨i',Q,O,k1,B,M,k4,k5⟩<;>grind
 .refine List.pairwise_append.2 ⟨?_,DF _ _,λa d b J G Q w z=>?_⟩
  .refine X.imp_of_mem λ{a b} d J Z G Q w z=>?_;have⟨_,u,k1,B,_⟩:=H a d;grind
  .rw[AP]at J;grind
 .rcases s i y w with⟨e,rfl⟩|⟨e,g⟩
  .refine .inl (BO _ ?_);rw[AP];omega
  .rcases A i y O g z C with A|A
   .grind
   .refine .inr λa d=>?_;have N:(∃x,o[a.toNat]?=some x/\0<=x/\x<=y+1)->∃x,(o.set j.toNat (D+1))[a.toNat]?=some x/\0<=x/\x<=y+1:=λ⟨G,k1,B,M⟩=>⟨G,old _ _ k1 B,B,M⟩;by_cases R:i=l
    .subst R;rw[if_pos rfl]at A d;rw[L]at C;cases C;rw[m]at g;cases g;rw[GX hj]at d;rcases AV.1 d with d|d
     .simp_all
     .rw[AP]at d;grind
    simp_all
def AOg{nx:List (List Int)}(G:bT nx){t:Nat}{D:Int}{o q r:List Int}{p a:Nat}(h:Bf nx t D o q p a 0)(j:o[a]?=some D)(K:0<=D)(z:nx[a]?=some r):
 Tot (mA (-1,o,q,(a:Int),r,(r.length:Int),0)) (λy=>Bf nx t D y.1 y.2 p a r.length/\y.1[a]?=some D):=by
 have⟨T,A⟩:=G.2 r (AJ z);refine E_ (σ:=List Int×List Int) r.length (λs k=>(-1,s.1,s.2,(a:Int),r,(r.length:Int),k)) (λk s=>Bf nx t D s.1 s.2 p a k/\s.1[a]?=some D) oa (λnext s k hk H l=>?_) (λnext s H=>?_) (o,q) ⟨h,j⟩
 .obtain⟨e,V⟩:=s;obtain⟨b,c⟩:=H;dsimp only at b c;unfold WB;dsimp only;have d:=A1 hk;have⟨C,U⟩:=A _ (AL hk);have w:(r[k]).toNat<e.length:=by rw[b.len];omega
  obtain⟨E,B⟩:∃E,e[(r[k]).toNat]?=some E:=⟨_,A1 w⟩;have M:=(A5.1 c).1;have N:e.countP (λx=>decide (0<=x))<=e.length:=List.countP_le_length;have Q:=b.len;have O:=b.cnt;have L:=(b.low _ _ c).2.2;have R:=G.1;rw[E0,A6 hk,A7,ER d,A0,EU oa];refine DL.2 (ET.2 ⟨⟨C,oa⟩,?_⟩);have I:e.getD (r[k]).toNat 0=E:=by rw[AH,B];rfl
  have J:e.getD ((a:Int)).toNat 0=D:=by rw[AH,C5,c];rfl
  rw[I,J,show DO r[k] (-1)=false from by grind[DR,decide_eq_false],CY,DI];refine DN.2 ⟨λm=>?_,λm=>?_⟩
  .have m:=AC m;refine DL.2 (ET.2 ⟨⟨oa,oa⟩,?_⟩);refine DL.2 (ET.2 ⟨⟨C,oa⟩,?_⟩);refine DL.2 (F4.2 ⟨oc,?_⟩);rw[EG oa oa];refine l (_,_) ⟨AOf b c K z d C B m,?_⟩;grind
  .exact l (_,_) ⟨AOe b c z d B oc,c⟩
 simp_all[WB,E0,A9,AA,A8,DM]
structure Dist(nx:List (List Int))(t:Nat)(o:List Int):Prop where
 len:o.length=nx.length
 t0:o[t]?=some 0
 low:∀(j:Nat) (x:Int),o[j]?=some x-> -1<=x/\x<nx.length
 pre:∀(j:Nat) (x:Int),o[j]?=some x->0<=x->(x=0/\j=t)\/∃(i:Nat) (y:Int) (r:List Int),o[i]?=some y/\0<=y/\x=y+1/\nx[i]?=some r/\(j:Int)∈r
 clo:∀(i:Nat) (y:Int) (r:List Int),o[i]?=some y->0<=y->nx[i]?=some r->∀j∈r,∃x:Int,o[j.toNat]?=some x/\0<=x/\x<=y+1
def A7r(o:List Int):o.countP (λx=>decide (0<=x))+o.countP (λx=>decide (x<0))=o.length:=by
 induction o<;>grind
def bU(n:Nat)(o:List Int):List Int->Int
 |[]=>n
 |j::_=>o.getD j.toNat 0
def A7s{nx:List (List Int)}(W:bT nx){t:Nat}{o:List Int}(hl:o.length=nx.length)(Y:∀(j:Nat),j<nx.length->o[j]?=some (if j=t then 0 else -1))(ht:t<nx.length):
 Tot (yU (nx,-1,o,[(t:Int)])) (Dist nx t):=by
 have h6:=W.1
 refine EQ (R:=Dist nx t) (λx=>x.1=nx/\x.2.1= -1/\∃p,Bf nx t (bU nx.length x.2.2.1 x.2.2.2) x.2.2.1 x.2.2.2 p nx.length 0) (λx=>x.2.2.2.length+(x.2.2.1.countP λv=>decide (v<0)))
  (λnext x hI G=>?_) _ _ ⟨rfl,rfl,0,?_⟩ ?_
 .obtain⟨d,wo,C,q⟩:=x;obtain⟨R,T,p,b⟩:=hI;dsimp only at R T b G;subst R T;unfold aM;dsimp only;have X:=A7r C;have h5:=b.len;have O:=b.cnt;cases q with
  |nil=>
   rw[show decide ((0:Int)<(([]:List Int).length:Int))=false from rfl,A8];refine DM.2 ⟨b.len,b.t0,λj x hx=>⟨(b.low j x hx).1,?_⟩,b.pre,λi y r w A B=>?_⟩
   .have:=(b.low j x hx).2.2;omega
   .rcases b.clo i y r w A B with h|h<;>grind
  |cons j q=>
   have⟨j0,D,I,J,_⟩:=b.qin j AE;have h4:=(A5.1 I).1;obtain⟨r,Z⟩:∃r,d[j.toNat]?=some r:=⟨_,A1 oa⟩;have U:((j.toNat:Nat):Int)=j:=oa
   rw[show decide ((0:Int)<((j::q).length:Int))=true from A6 oh,A7];refine DL.2 (ET.2 ⟨⟨oa,oh⟩,?_⟩);refine DL.2 (I6.2 ⟨⟨oa,oc,oa⟩,?_⟩);rw[show((j::q).getD 0 (0:Int))=j from rfl,C5,AX,show(Int.toNat 1)=1 from rfl,List.drop_one,List.tail_cons];have K:at? d j=some r:=by rw[<-U];exact ER Z
   rw[K,A0]
   have eD:bU d.length C (j::q)=D:=by
    show C.getD j.toNat 0=D;rw[AH,I];rfl
   rw[eD]at b
   have b':Bf d t D C q (p+1) j.toNat 0:=by
    refine⟨b.len,oc,b.t0,λa l=>b.qin a (AN _ l),λi y g=>?_,b.pre,(List.pairwise_cons.1 b.srt).2,λi y Q w A B=>?_⟩
    .have:=b.low i y g;grind
    .by_cases e:i=j.toNat
     .grind
     .rw[if_neg e];rcases b.clo i y Q w A B with h|h<;>grind
   have m:=AOg W b' I J Z;rw[U]at m;refine DL.2 (m.mono λy hy=>?_);obtain⟨c,N⟩:=hy;obtain⟨s,E⟩:=y;dsimp only at c N;have L:=c.cnt;have M:=c.len;have h2:=A7r s;have h3:s.countP (λx=>decide (0<=x))<=s.length:=List.countP_le_length;rw[BJ]at O;have V:C.countP (λx=>decide (0<=x))<=C.length:=List.countP_le_length;refine G _ ⟨rfl,rfl,p+1,⟨M,L,c.t0,λa l=>?_,λi x g=>?_,c.pre,c.srt,λi x Q w A B=>?_⟩⟩ oc
   .obtain⟨a0,x,k1,k2,k3⟩:=c.qin a l;refine⟨a0,x,k1,k2,?_⟩;dsimp only at l ⊢;cases E with
    |nil=>cases l
    |cons b E=>
     have⟨b0,z,H,m2,m3⟩:=c.qin b AE
     have:bU d.length s (b::E)=z:=by
      show s.getD b.toNat 0=z;rw[AH,H];rfl
     rw[this];rcases A_.1 l with rfl|l
     .grind
     .exact(List.pairwise_cons.1 c.srt).1 a l _ _ H k1
   .obtain⟨k1,k2,k3⟩:=c.low i x g;refine⟨k1,?_,k3⟩;dsimp only;cases E with
    |nil=>show x<=(d.length:Int)+1;omega
    |cons b E=>
     have⟨b0,z,H,m2,m3⟩:=c.qin b AE
     have:bU d.length s (b::E)=z:=by
      show s.getD b.toNat 0=z;rw[AH,H];rfl
     omega
   .rcases c.clo i x Q w A B with h|h<;>grind
 .dsimp only
  have e0:bU nx.length o [(t:Int)]=0:=by
   show o.getD ((t:Int)).toNat 0=0;rw[AH,C5,Y t ht,if_pos rfl];rfl
  rw[e0]
  have hv:∀(j:Nat) x,o[j]?=some x->(j=t/\x=0)\/(j≠t/\x= -1):=λj x g=>by
   grind
  refine⟨hl,?_,by rw[Y t ht,if_pos rfl],λj hj=>?_,λj x g=>?_,λj x g g0=>?_,DF _ _,λi y r w A B=>?_⟩
  .have e:o=(List.replicate nx.length (-1)).set t 0:=by
    refine BP λi=>?_;rw[List.getElem?_set];by_cases hi:i<nx.length
    .grind
    .rw[CI oa,if_neg oa,CI oc]
   simp_all[A7q,D4,if_pos,List.countP_replicate]
  .grind
  .grind
  .grind
  grind
 grind[decide,List.countP_le_length,fuel,List.length_singleton]
def A7t(z:List Int)(e:z.length<=1048576):yT (z,(z.length:Int),0)=some (List.replicate z.length (-1)):=by
 refine LX (E_ (σ:=List Int) z.length (λo i=>(o,(z.length:Int),i)) (λi o=>o.length=z.length/\∀j,j<i->o[j]?=some (-1)) oa (λnext o i hi a b=>?_) (λnext o a=>?_) z ⟨rfl,λj h=>absurd h (Nat.not_lt_zero j)⟩)
 .unfold yS;dsimp only;rw[E0,A6 hi,A7,EU oa];refine DL.2 (ET.2 ⟨⟨oa,by rw[a.1];omega⟩,b _ ⟨oc,λj d=>?_⟩⟩);grind
 .unfold yS;dsimp only;rw[E0,A9 (AA _),A8];refine DM.2 (BP λj=>?_);grind
def AOh{nx:List (List Int)}(h:bT nx){t:Nat}(d:t<nx.length):Tot (mB (nx,(t:Int),-1)) (Dist nx t):=by
 have a:=h.1;unfold mB;dsimp only;rw[show mks? 24 (nx.length:Int) (nx.length:Int) (0:Int)=some (List.replicate nx.length 0)from ?_,A0]
 .have:=A7t (List.replicate nx.length 0) oc;rw[this,A0,B7,show DO (t:Int) (-1)=false from by rfl,A8];refine DL.2 (ET.2 ⟨⟨oa,oc⟩,?_⟩);refine DL.2 ((A7s h (by rw[B0,B7]) (λj e=>?_) d).mono λr b=>DM.2 b);grind
 grind[mks?,decide_eq_true]
theorem A7u{l:List Int}{x:Int}:x∈Lib.compact l<->x∈l:=by
 unfold Lib.compact Lib.compactUpTo;have d:∀j (h:j<l.length),l.toArray[j]! =l[j]:=λj h=>oc
 constructor
 .grind
 .intro h;obtain⟨j,m,rfl⟩:=List.mem_iff_getElem.1 h;refine CD.2 ?_
  have:∀(n:Nat) (b:n<l.length),∃a,a∈(List.range l.length).filter (Lib.keeps l.toArray)/\l.toArray[a]! =l[n]:=by
   intro n;induction n with
   |zero=>exact λb=>⟨0,DC.2 ⟨CS.2 b,by simp[Lib.keeps]⟩,d 0 b⟩
   |succ n p=>
    intro b;by_cases e:l[n+1]=l[n]
    .grind
    .refine⟨n+1,DC.2 ⟨CS.2 b,?_⟩,d _ b⟩;refine Lib.keeps_pos ?_;grind
  exact this j m
theorem A7v(l:List Int):(Lib.compact l).length<=l.length:=by
 grind[Lib.compact,Lib.compactUpTo,List.length_map,Nat.le_trans,List.length_filter_le]
section
variable{g:JJ}{how:Int}{w:IE}(hw:WoOk g how w)(hg:GB g)(ho:GrOk g)
include hw hg ho
theorem A7w{m:List Bool}(O:m.length=g.2.1.length)(c:LZ)(A:0<g.2.2.1.length):
 Tot (aW (some w,c,if w.2.2.2.2.2=true then some m else none)) (λl=>l.length<=100000/\(∀j,j∈l<->Goes w m c j)/\∀j∈l,0<=j/\j<g.2.2.1.length):=by
 have J:=SG hw.fn c.2.1;rw[AY]at J
 have E:g.1.length*g.2.1.length<=100000:=by
  have:=Nat.mul_le_mul ho.i ho.t;omega
 unfold aW;dsimp only;rw[DR];refine DN.2 ⟨λp=>?_,λp=>?_⟩
 .rw[A0];refine DM.2 ⟨oh,λj=>?_,λj z=>?_⟩
  .unfold Goes;rw[if_pos (AC p),AP];rfl
  .rw[AP]at z;subst z;exact J A
 .have p:=AK p;rw[A0];have⟨fl,G⟩:=hw.fit c.2.1;unfold IT at fl G
  have key:Tot (zA (some w,(if w.2.2.2.2.2=true then some m else none),c,([]:List Int),((DU DP c.2.1 w.2.2.2.1).getD []),(((DU DP c.2.1 w.2.2.2.1).getD []).length:Int),0))
   (λl=>l.length<=((DU DP c.2.1 w.2.2.2.1).getD []).length/\∀j,j∈l<->∃t∈(DU DP c.2.1 w.2.2.2.1).getD [],(w.2.2.2.2.2=false\/m[t.toNat]?=some true)/\j=QN w c.2.2.1 t):=by
   refine E_ (r:=mX) (σ:=List Int) ((DU DP c.2.1 w.2.2.2.1).getD []).length (λs i=>(some w,(if w.2.2.2.2.2=true then some m else none),c,s,((DU DP c.2.1 w.2.2.2.1).getD []),(((DU DP c.2.1 w.2.2.2.1).getD []).length:Int),i))
    (λi l=>l.length<=i/\∀j,j∈l<->∃t∈((DU DP c.2.1 w.2.2.2.1).getD []).take i,(w.2.2.2.2.2=false\/m[t.toNat]?=some true)/\j=QN w c.2.2.1 t) oa (λnext l i hi H C=>?_) (λnext l H=>?_) [] ⟨AD _,λj=>⟨λh=>(oq),λ⟨t,h,_⟩=>(oq)⟩⟩
   .obtain⟨T,K⟩:=H;unfold mX;dsimp only;have d:=A1 hi;have⟨t0,t1⟩:=G _ (AL hi);rw[E0,A6 hi,A7,ER d,A0,EU oa];generalize ((DU DP c.2.1 w.2.2.2.1).getD [])[i]=t at d t0 t1 ⊢;have R:((t.toNat:Nat):Int)=t:=oa
    obtain⟨b,D⟩:∃b,m[t.toNat]?=some b:=⟨_,A1 oa⟩
    have B:nilM? (if w.2.2.2.2.2=true then some m else none)=some (!w.2.2.2.2.2):=by
     cases w.2.2.2.2.2 with
     |false=>rfl
     |true=>
      cases m with
      |nil=>grind
      |cons a m=>rfl
    rw[B,A0]
    have Q:(bif (!(!w.2.2.2.2.2))then at? ((if w.2.2.2.2.2=true then some m else none).getD []) t else some false)=some (w.2.2.2.2.2&&b):=by
     cases w.2.2.2.2.2 with
     |false=>rfl
     |true=>
      grind[at?,ER]
    rw[Q,A0,pL hw hg c t0 t1,A0]
    have I:((!w.2.2.2.2.2)||(w.2.2.2.2.2&&b))=true<->(w.2.2.2.2.2=false\/m[t.toNat]?=some true):=by
     rw[D];cases w.2.2.2.2.2<;>cases b<;>simp
    refine DN.2 ⟨λN=>DL.2 (F4.2 ⟨oc,C _ ⟨oc,λj=>?_⟩⟩),λN=>C _ ⟨oa,λj=>?_⟩⟩
    .rw[GX d,AV,AP,K];grind
    .rw[GX d,K];grind
   .simp_all[mX,E0,A9,AA,A8,AX,DM]
  refine DL.2 (key.mono λM ⟨U,L⟩=>?_);unfold slices_Sort_int slices_Compact_int;rw[A0,A0]
  have e:∀j,j∈Lib.compact (M.mergeSort λx y=>decide (x<=y))<->j∈M:=λj=>by
   grind[A7u,List.mergeSort_perm]
  refine DM.2 ⟨?_,λj=>?_,λj z=>?_⟩
  .grind[A7v,decide,List.length_mergeSort]
  .rw[e,L];unfold Goes;rw[if_neg p];rfl
  .rw[e,L]at z;obtain⟨t,_,_,rfl⟩:=z;exact A0Q hw _ _ A
end
def AOi(k:Nat)(o q:List Int)(i:Int)(t:List Int)(n m:Int):DX nA k (o,q,i,t,n,m)=DX WB k (-1,o,q,i,t,n,m):=by
 have e:∀(next:List Int×List Int×Int×List Int×Int×Int->Option (List Int×List Int)) (a:Int×List Int×List Int×Int×List Int×Int×Int->Option (List Int×List Int)) (o q:List Int) (i:Int) (t:List Int) (n m:Int),
  (∀o q i t n m,next (o,q,i,t,n,m)=a (-1,o,q,i,t,n,m))->nA next (o,q,i,t,n,m)=WB a (-1,o,q,i,t,n,m):=λnext a o q i t n m h=>by
  unfold nA WB;dsimp only;simp only[h];cases decide (m<n)with
  |false=>rfl
  |true=>
   rw[A7,A7];cases at? t m with
   |none=>rfl
   |some y=>
    rw[A0,A0];cases hi:in? o.length y with
    |none=>rfl
    |some u=>
     have h0:0<=y:=by
      have:=(ET (Q:=λ_=>True)).1 ⟨u,hi,trivial⟩;exact this.1.1
     rw[A0,A0,show DO y (-1)=false from by grind[DR,decide_eq_false],CY,DI];rfl
 induction k generalizing o q i t n m with
 |zero=>rfl
 |succ k b=>exact e _ _ o q i t n m b
theorem AOj(k:Nat)(b:List (List Int))(o q:List Int):DX nB k (b,o,q)=DX aM k (b,-1,o,q):=by
 have e:∀(next:List (List Int)×List Int×List Int->Option (List Int)) (a:List (List Int)×Int×List Int×List Int->Option (List Int)) (b:List (List Int)) (o q:List Int),(∀b o q,next (b,o,q)=a (b,-1,o,q))->nB next (b,o,q)=aM a (b,-1,o,q):=λnext a b o q h=>by
  simp_all[nB,aM,zF,mA,AOi]
 induction k generalizing b o q with
 |zero=>rfl
 |succ k d=>exact e _ _ b o q d
def Ed(w:IE)(s:L7)(i:Nat)(j:Int):Prop:=s.2.1[i]?=some true/\∃(f:ND) (c:LZ),w.1.2.2.1[i]?=some f/\c∈f.2.2.1/\P4 w c=true/\Goes w s.2.2.1 c j
def Rws(n:Nat)(b:List (List Int))(P:Nat->Int->Prop)(B:Nat):Prop:=b.length=n/\∀(k:Nat) (r:List Int),b[k]?=some r->r.length<=B/\∀x,x∈r<->P k x
def Rws.mono{n:Nat}{b:List (List Int)}{P Q:Nat->Int->Prop}{B C:Nat}(h:Rws n b P B)(h1:∀k x,k<n->(P k x<->Q k x))(d:B<=C):Rws n b Q C:=
 ⟨h.1,λk r a=>⟨AM (h.2 k r a).1 d,λx=>((h.2 k r a).2 x).trans (h1 k x (by rw[<-h.1];grind))⟩⟩
def A0R{n:Nat}{b:List (List Int)}{P:Nat->Int->Prop}{B:Nat}(h:Rws n b P B)(k:Nat)(hk:k<n)(x:Int):Rws n (b.set k (b.getD k []++[x])) (λj y=>P j y\/(j=k/\y=x)) (B+1):=by
 refine⟨by rw[B0];exact h.1,λj r d=>?_⟩;have a:k<b.length:=by rw[h.1];exact hk
 rw[List.getElem?_set]at d;by_cases e:k=j
 .subst e;rw[if_pos rfl,if_pos a]at d;cases d;have m:b.getD k []=b[k]:=by rw[AH,A1 a];rfl
  have⟨h1,l⟩:=h.2 k _ (A1 a);grind
 .rw[if_neg e]at d;have⟨h1,l⟩:=h.2 j r d;grind
def AOk{n:Nat}(i:Int)(l:List Int)(H:l.length<=100000)(D:∀j∈l,0<=j/\j<n){b:List (List Int)}{P:Nat->Int->Prop}{B:Nat}(G:B+100000<=1099511627776)(h:Rws n b P B):
 Tot (zB (b,i,l,(l.length:Int),0)) (λa=>Rws n a (λk x=>P k x\/(x=i/\(k:Int)∈l)) (B+100000)):=by
 refine E_ (r:=mY) (σ:=List (List Int)) l.length (λs k=>(s,i,l,(l.length:Int),k)) (λm a=>Rws n a (λk x=>P k x\/(x=i/\(k:Int)∈l.take m)) (B+m)) oa (λnext a m w e y=>?_) (λnext a e=>?_) b (h.mono (λk x _=>oh) oa)
 .unfold mY;dsimp only;have d:=A1 w;have⟨z,E⟩:=D _ (AL w);rw[E0,A6 w,A7,ER d,A0,EU oa];generalize l[m]=j at d z E ⊢;have p:j.toNat<a.length:=by rw[e.1];omega
  have A:a.getD j.toNat []=a[j.toNat]:=by rw[AH,A1 p];rfl
  have C:=(e.2 _ _ (A1 p)).1;refine DL.2 (ET.2 ⟨⟨z,oa⟩,DL.2 (F4.2 ⟨oc,DL.2 (ET.2 ⟨⟨z,oa⟩,?_⟩)⟩)⟩);rw[show Nat.beq j.toNat j.toNat=true from CK _,A7,A0];refine y _ ((A0R e j.toNat oa i).mono (λk x hk=>?_) (AD _));rw[GX d,AV,AP];grind
 .unfold mY;dsimp only;rw[E0,A9 (AA _),A8];rw[AX]at e;exact DM.2 (e.mono (λ_ _ _=>Iff.rfl) oa)
section
variable{g:JJ}{how:Int}{w:IE}(hw:WoOk g how w)(hg:GB g)(ho:GrOk g){s:L7}(hs:SpOk w s)
include hw hg ho hs
omit hw hg ho in
theorem A7x:aV (some w,some s)=some (if w.2.2.2.2.2=true then some s.2.2.1 else none):=by
 unfold aV;grind
theorem AOl{t:Nat}(X:t<g.2.2.1.length):Tot (nC (some w,some s,(t:Int))) (λd=>∃nx,Dist nx t d/\nx.length=g.2.2.1.length/\∀(k:Nat) r x,nx[k]?=some r->(x∈r<->∃i:Nat,x=(i:Int)/\Ed w s i (k:Int))):=by
 have D:=hw.gr;have hn:=ho.f;have N:=hs.fl;have J:=hs.ml;rw[D]at N J;unfold nC;dsimp only;rw[A0,D]
 have mk:∀{α:Type} (z:α),mks? 24 (g.2.2.1.length:Int) (g.2.2.1.length:Int) z=some (List.replicate g.2.2.1.length z):=λz=>by
  grind[mks?,decide_eq_true]
 rw[mk,A0,A0,D]
 have h0:Rws g.2.2.1.length (List.replicate g.2.2.1.length ([]:List Int)) (λ_ _=>False) 0:=⟨B7,λk r L=>by
  grind⟩
 have key:Tot (zC (some w,some s,List.replicate g.2.2.1.length ([]:List Int),g.2.2.1,(g.2.2.1.length:Int),0)) (λb=>Rws g.2.2.1.length b (λk x=>∃i:Nat,x=(i:Int)/\Ed w s i (k:Int)) 60000000000):=by
  refine E_ (r:=m_) (σ:=List (List Int)) g.2.2.1.length (λb i=>(some w,some s,b,g.2.2.1,(g.2.2.1.length:Int),i)) (λm b=>Rws g.2.2.1.length b (λk x=>∃i:Nat,i<m/\x=(i:Int)/\Ed w s i (k:Int)) (20000000*m)) oa (λnext b m Q A a=>?_) (λnext b A=>?_) _ (h0.mono (λk x _=>⟨λh=>h.elim,λ⟨i,h,_⟩=>absurd h (Nat.not_lt_zero _)⟩) oa)
  .unfold m_;dsimp only;have M:=A1 Q;have W:=ho.calls _ (AL Q);obtain⟨U,C⟩:∃b,s.2.1[m]?=some b:=⟨_,A1 oa⟩;rw[E0,A6 Q,A7,ER M,A0,A0,ER C,A0,EU oa];cases U with
   |false=>
    refine a _ (A.mono (λk x _=>⟨λ⟨i,h,V⟩=>⟨i,oa,V⟩,λ⟨i,h1,y,B⟩=>⟨i,?_,y,B⟩⟩) oa);have:i≠m:=λe=>by subst e;rw[B.1]at C;cases C
    omega
   |true=>
    refine DL.2 (Tot.mono (P:=λG=>Rws g.2.2.1.length G (λk x=>(∃i:Nat,i<m/\x=(i:Int)/\Ed w s i (k:Int))\/(x=(m:Int)/\∃c∈g.2.2.1[m].2.2.1,P4 w c=true/\Goes w s.2.2.1 c (k:Int))) (20000000*m+20000000)) ?_ λG H=>a G (H.mono (λk x _=>?_) oa))
    .refine E_ (r:=mZ) (σ:=List (List Int)) g.2.2.1[m].2.2.1.length (λb i=>(some w,some s,b,(m:Int),g.2.2.1[m].2.2.1,(g.2.2.1[m].2.2.1.length:Int),i)) (λu G=>Rws g.2.2.1.length G (λk x=>(∃i:Nat,i<m/\x=(i:Int)/\Ed w s i (k:Int))\/(x=(m:Int)/\∃c∈g.2.2.1[m].2.2.1.take u,P4 w c=true/\Goes w s.2.2.1 c (k:Int))) (20000000*m+100000*u))
      oa (λnext b u T A a=>?_) (λnext b A=>?_) _ (A.mono (λk x _=>oh) oa)
     .unfold mZ;dsimp only;have p:=A1 T;rw[E0,A6 T,A7,ER p,A0,A0,EU oa,A7x hs,A0];generalize g.2.2.1[m].2.2.1[u]=c at p ⊢;refine DN.2 ⟨λK=>?_,λK=>a _ (A.mono (λk x _=>?_) oa)⟩
      .refine DL.2 ((A7w hw hg ho J c oa).mono λl ⟨Y,Z,l3⟩=>?_);refine DL.2 ((AOk (m:Int) l Y l3 oa A).mono λG H=>a G (H.mono (λk x _=>?_) oa));rw[Z,GX p];constructor
       .rintro((h|⟨h1,c',y,B⟩)|⟨h1,y⟩)
        .exact .inl h
        .grind
        .exact .inr ⟨h1,c,BO _ (AP.2 rfl),K,y⟩
       grind
      .rw[GX p];simp_all[BT,AV,AP,P4]
     .unfold mZ;dsimp only;rw[E0,A9 (AA _),A8];rw[AX]at A;exact DM.2 (A.mono (λ_ _ _=>Iff.rfl) oa)
    .constructor
     .rintro(⟨i,h1,y⟩|⟨h1,c,y,B,R⟩)
      .grind
      .exact⟨m,oa,h1,C,_,c,oc,y,B,R⟩
     .rintro⟨i,h1,y,B⟩;by_cases e:i=m
      .subst e;obtain⟨_,f,c,R,h5,h6,h7⟩:=B;grind
      grind
  .unfold m_;dsimp only;rw[E0,A9 (AA _),A8];refine DM.2 (A.mono (λk x _=>⟨λ⟨i,_,h⟩=>⟨i,h⟩,λ⟨i,h1,y⟩=>⟨i,?_,h1,y⟩⟩) oa);have:=(A5.1 y.1).1;omega
 refine DL.2 (key.mono λb E=>?_);rw[A0,D,mk,A0]
 have I:zD (List.replicate g.2.2.1.length (0:Int),((List.replicate g.2.2.1.length (0:Int)).length:Int),0)=some (List.replicate g.2.2.1.length (-1)):=by
  have:=A7t (List.replicate g.2.2.1.length 0) oc;rw[B7]at this ⊢;exact this
 rw[I,A0];refine DL.2 (ET.2 ⟨⟨oa,oc⟩,?_⟩)
 have a:bT b:=⟨by rw [E.1]; omega,λr L=>by
  obtain⟨k,hk,rfl⟩:=List.mem_iff_getElem.1 L;have⟨h1,y⟩:=E.2 k _ (A1 hk);refine⟨oa,λj O=>?_⟩;obtain⟨i,rfl,B⟩:=(y j).1 O;have:=(A5.1 B.1).1;rw[E.1];omega⟩
 unfold zG;rw[AOj];refine DL.2 ((A7s a (t:=t) (by rw[B0,B7,E.1]) (λj O=>?_) (by rw[E.1];exact X)).mono λr L=>DM.2 ⟨b,L,E.1,λk r x hk=>(E.2 k r hk).2 x⟩);rw[E.1]at O;grind
end
abbrev pN:=(DK×Int)×DK
abbrev WZ:=DK×List pN×List (DK×DK)
def L8{α:Type}{l:List α}{i:Int}(h0:0<=i)(h1:i<l.length):∃x,at? l i=some x/\l[i.toNat]?=some x:=by
 have⟨x,a,b⟩:=EH (Q:=λx=>l[i.toNat]?=some x).2 ⟨⟨h0,h1⟩,λx h=>h⟩;grind
section
variable{g:JJ}{how:Int}{w:IE}(hw:WoOk g how w)(hg:GB g)(ho:GrOk g){s:L7}(hs:SpOk w s)
include hw hg ho hs
theorem AOm{d:List Int}(hd:d.length=g.2.2.1.length){f:Nat}{x:Int}(Y:d[f]?=some x)(hb:-4611686018427387904<=x/\x<=4611686018427387904){i:Nat}(hi:d[i]?=some (x-1))(X:Ed w s f (i:Int)):
 Tot (nE (some w,some s,d,(f:Int))) (λq=>∃j:Nat,q.2.2=(j:Int)/\d[j]?=some (x-1)):=by
 have e:=hw.gr;have B:=hs.ml;rw[e]at B;obtain⟨_,fn,c0,A,e2,e3,e4⟩:=X;rw[e]at A;have Z:=(A5.1 A).1;have W:=ho.calls fn (AJ A);have hn:=ho.f;unfold nE;dsimp only;rw[A0,e,ER A,A0];refine DL.2 (Tot.mono (P:=λr=>match r with| .inl _=>False| .inr q=>∃j:Nat,q.2.2=(j:Int)/\d[j]?=some (x-1)) ?_ λr O=>?_)
 .refine E_ (r:=zH) (σ:=pN×LZ) fn.2.2.1.length (λz u=>(some w,some s,d,(f:Int),z.1,z.2,fn.2.2.1,(fn.2.2.1.length:Int),u)) (λu _=>∀c∈fn.2.2.1.take u,P4 w c=true->∀j,Goes w s.2.2.1 c j->d[j.toNat]?≠some (x-1))
   oa (λnext z u Q V C=>?_) (λnext z V=>?_) ((([],0),[]),(0,[],[],[])) (λc h=>oq)
  .unfold zH;dsimp only;have p:=A1 Q;rw[E0,A6 Q,A7,ER p,A0,A0,EU oa];generalize fn.2.2.1[u]=c at p ⊢;refine DN.2 ⟨λK=>C _ λU a E=>?_,λK=>?_⟩
   .rw[GX p]at a;rcases AV.1 a with a|a
    .grind
    grind[List.mem_singleton,P4]
   .rw[A7x hs,A0];refine DL.2 ((A7w hw hg ho B c oa).mono λl ⟨l1,l2,l3⟩=>?_);refine DL.2 (Tot.mono (P:=λr=>match r with| .inl z=>∀j∈l,d[j.toNat]?≠some (x-1)| .inr q=>∃j:Nat,q.2.2=(j:Int)/\d[j]?=some (x-1)) ?_ λN O=>?_)
    .refine E_ (r:=nD) (σ:=Unit) l.length (λ_ m=>(some w,d,(f:Int),z.1,z.2,(u:Int),c,l,(l.length:Int),m)) (λm _=>∀j∈l.take m,d[j.toNat]?≠some (x-1)) oa (λnext _ m J H D=>?_) (λnext _ H=>?_) () (λj h=>oq)
     .unfold nD;dsimp only;have b:=A1 J;have⟨M,R⟩:=l3 _ (AL J);rw[E0,A6 J,A7,ER b,A0,EU oa];generalize l[m]=j at b M R ⊢;have⟨y,hy,h2⟩:=L8 (l:=d) M oa;rw[hy,A0,ER Y,A0,EG oa oa,DR];refine DN.2 ⟨λG=>?_,λG=>D () λj' I=>?_⟩
      .have G:=AC G;subst G;have⟨y2,L,_⟩:=L8 (l:=g.2.2.1) M R;rw[A0,e,ER A,A0,A0,e,L,A0];grind[DM]
      .rw[GX b]at I;grind
     simp_all[nD,E0,A9,AA,A8,AX,DM]
    .cases N with
     |inl T=>
      refine C (T.1,T.2) λU a E j hj=>?_;rw[GX p]at a;grind
     |inr q=>exact DM.2 O
  grind
 grind[DM]
theorem AOn(c:LZ)(j:Int):Tot (nG (some w,some s,c,j)) (λ_=>True):=by
 have h:=hw.gr;have b:=hs.ml;rw[h]at b
 have a:g.1.length*g.2.1.length<=100000:=by
  have:=Nat.mul_le_mul ho.i ho.t;omega
 have⟨fl,e⟩:=hw.fit c.2.1;unfold IT at fl e;unfold nG;dsimp only;rw[A0];refine DL.2 ((E_ (r:=nF) (σ:=Unit) ((DU DP c.2.1 w.2.2.2.1).getD []).length (λ_ i=>(some w,some s,j,c,((DU DP c.2.1 w.2.2.2.1).getD []),(((DU DP c.2.1 w.2.2.2.1).getD []).length:Int),i)) (λ_ _=>True) (Q:=λ_=>True) oa (λnext _ i hi _ d=>?_) (λnext _ _=>?_) () trivial).mono λq _=>?_)
 .unfold nF;dsimp only;have⟨t0,t1⟩:=e _ (AL hi);rw[E0,A6 hi,A7,ER (A1 hi),A0,A0,EU oa];generalize ((DU DP c.2.1 w.2.2.2.1).getD [])[i]=t at t0 t1 ⊢;have⟨y,l,_⟩:=L8 (l:=s.2.2.1) t0 oa;rw[l,A0,pL hw hg c t0 t1];refine DL.2 (Tot.mono (P:=λ_=>True) (DN.2 ⟨λ_=>DM.2 trivial,λ_=>DM.2 trivial⟩) λr _=>DN.2 ⟨λ_=>?_,λ_=>d () trivial⟩);have⟨p,m,_⟩:=L8 (l:=g.2.1) t0 t1;simp_all[A0,DM,trivial]
 .simp_all[nF,E0,A9,AA,A8,DM,trivial]
 .cases q<;>exact DM.2 trivial
theorem AOo(t:DK):Tot (nI (some w,some s,t)) (λ_=>True):=by
 have h:=hw.gr;have a:=hs.fl;rw[h]at a;have e:=ho.f;unfold nI;dsimp only;rw[A0,h];refine DL.2 ((E_ (r:=nH) (σ:=Unit) g.2.2.1.length (λ_ i=>(some s,t,g.2.2.1,(g.2.2.1.length:Int),i)) (λ_ _=>True) (Q:=λ_=>True) oa (λnext _ i hi _ b=>?_) (λnext _ _=>?_) () trivial).mono λq _=>?_)
 .unfold nH;dsimp only;have⟨y,d,_⟩:=L8 (l:=s.2.1) (i:=(i:Int)) oa oa;rw[E0,A6 hi,A7,ER (A1 hi),A0,A0,d,A0,EU oa];refine DL.2 (Tot.mono (P:=λ_=>True) (DN.2 ⟨λ_=>(pA _ (hg.f1 _ (AL hi)).2.2.2.1).mono λ_ _=>trivial,λ_=>DM.2 trivial⟩) λr _=>DN.2 ⟨λ_=>DM.2 trivial,λ_=>b () trivial⟩)
 .simp_all[nH,E0,A9,AA,A8,DM,trivial]
 .cases q<;>exact DM.2 trivial
theorem AOp{nx:List (List Int)}{t:Nat}{d:List Int}(l:Dist nx t d)(D:nx.length=g.2.2.1.length)(E:∀(k:Nat) r x,nx[k]?=some r->(x∈r<->∃i:Nat,x=(i:Int)/\Ed w s i (k:Int))){j:Int}(b:Rch w s.2.1 s.2.2.1 j):
 (0<=j/\∃x,d[j.toNat]?=some x/\0<=x)->∃e∈g.2.2.2,∃x,d[(GJ w.2.1 e).toNat]?=some x/\0<=x:=by
 have B:=hw.gr;induction b with
 |entry e h=>
  grind
 |step i f c j h1 m p z A I J=>
  rintro⟨K,x,k1,G⟩;have a:=(A5.1 k1).1;rw[l.len]at a;have b:=A1 a;have H:((j.toNat:Nat):Int)=j:=oa
  have C:=((E _ _ (i:Int) b).2 ⟨i,rfl,m,f,c,p,z,A,oc⟩);have⟨y,L,M,_⟩:=l.clo j.toNat x _ k1 G b _ C;simp_all
end
theorem A7y{b:Type}(s:DK)(v:b):∀m:List (DK×b),(EB DP s v m).map (·.1)=if s∈m.map (·.1)then m.map (·.1)else m.map (·.1)++[s]:=by
 intro m;induction m with
 |nil=>rfl
 |cons a m d=>
  simp only[EB];rw[D_];grind
def AOq{a:Type}{s:DK}{v:a}{m:List (DK×a)}(h:(m.map (·.1)).Nodup):((EB DP s v m).map (·.1)).Nodup:=by
 rw[A7y];grind
def AOr{a:Type}(s:DK)(v:a)(m:List (DK×a)):(EB DP s v m).length<=m.length+1:=by
 have h:=congrArg List.length (A7y s v m);grind
def A7z{a b:List (DK×DK)}(m:a.Perm b)(A:(b.map (·.1)).Nodup):∃r,r.length=b.length/\fL (a,(λx=>(S6 x).bind λr=>some r))=some r/\fL (b,(λx=>(S6 x).bind λr=>some r))=some r:=by
 have l:∀x y:DK×DK,(λx=>(S6 x).bind λr=>some r) (x,y)=some (J8 x.1 y.1):=λx y=>by
  grind[S6,bJ]
 have⟨w,h1,p1,D⟩:=A75 a (λx=>(S6 x).bind λr=>some r) (λx=>x.1) l;have⟨G,z,p,E⟩:=A75 b (λx=>(S6 x).bind λr=>some r) (λx=>x.1) l
 have s:∀r:List (DK×DK),r.Perm b->r.Pairwise (λa b=>¬b.1<a.1)->r.Pairwise (λa b=>a.1<b.1):=λr C B=>by
  have h:(r.map (·.1)).Nodup:=((C.map (·.1)).nodup_iff).2 A;have h:=List.pairwise_map.1 h
  exact(List.Pairwise.and B h).imp λ{a b} ⟨d,j⟩=>by
   grind
 have e:w=G:=List.Perm.eq_of_pairwise (le:=λx y:DK×DK=>x.1<y.1) (λa b _ _ d j=>absurd j (oU d)) (s _ (p1.trans m) D) (s _ p E) ((p1.trans m).trans p.symm);subst e;exact⟨w,p.length_eq,h1,z⟩
def AOs:∀(o:List (DK×DK)) (a:DK) (h:List pN) (m:List (DK×DK)),m.length+o.length<=1048576->EY WE o (a,(h,m))=some (.inl (a,(h,m++o))):=by
 intro o;induction o with
 |nil=>grind[EY]
 |cons k o j=>
  intro a h m b;rw[BJ]at b;have e:app? 48 m [k]=some (m++[k]):=LX (F4.2 ⟨oc,rfl⟩)
  have d:WE k (a,(h,m))=some (.inl (a,(h,m++[k]))):=by
   unfold WE;dsimp only;rw[e,A0]
  unfold EY;grind
abbrev U9:=JI×Int×List (List Int)×List (List Int)
def P5(b:JI)(sc:Int)(ix:List (DK×Int))(l:List GM)(k x:Int):Prop:=∃e∈l,e.2.2<=sc/\GJ ix e.1=k/\GJ ix e.2.1=x
structure GpOk(b:JI)(sc:Int)(g:U9):Prop where
 bl:g.1=b
 root:0<=g.2.1/\g.2.1<b.2.2.2.1.length
 ix:∃ix,P3 ix (b.2.2.2.1.map (·.1))/\g.2.1=GJ ix b.2.2.1/\Rws b.2.2.2.1.length g.2.2.1 (λk x=>P5 b sc ix b.2.2.2.2 (k:Int) x) 20000/\Rws b.2.2.2.1.length g.2.2.2 (λk x=>P5 b sc ix b.2.2.2.2 x (k:Int)) 20000
theorem AOt{n:Nat}{l:List (List Int)}{P:Nat->Int->Prop}{B:Nat}(h:Rws n l P B)(k:Nat)(hk:k<n){r:List Int}(h1:∀x,x∈r<->x∈l.getD k [])(p:r.length<=(l.getD k []).length):Rws n (l.set k r) P B:=by
 refine⟨by rw[B0];exact h.1,λd m b=>?_⟩;have a:k<l.length:=by rw[h.1];exact hk
 rw[List.getElem?_set]at b;by_cases e:k=d
 .subst e;rw[if_pos rfl,if_pos a]at b;cases b;have j:l.getD k []=l[k]:=by rw[AH,A1 a];rfl
  have⟨s,w⟩:=h.2 k _ (A1 a);grind
 .rw[if_neg e]at b;exact h.2 d m b
def AOu(b:JI)(J:BlOk b)(p:Int):Tot (m8 (b,p)) (GpOk b p):=by
 have hn:=J.few;have O:=J.edges
 have h5:0<b.2.2.2.1.length:=by
  have:=List.length_pos_of_mem J.root;rwa[AY]at this
 unfold m8;dsimp only
 refine DL.2 ((SF (σ:=List (DK×Int)) (α:=FU) b.2.2.2.1 (λs i=>(s,b.2.2.2.1,(b.2.2.2.1.length:Int),i)) (λm i y=>EB DP y.1 (i:Int) m) (λm=>m)
  (λi m=>P3 m ((b.2.2.2.1.take i).map (·.1))) oa (λnext s i y h=>?_) (λnext s=>?_) [] A0O (λm i y h hj=>?_)).mono λix j=>?_)
 .have a:=(A5.1 h).1;unfold yN;dsimp only;rw[E0,A6 a,A7,ER h,A0,EU oa]
 .simp_all[yN,E0,A9,AA,A8]
 .exact za
 obtain⟨h6,rfl,j⟩:=j;rw[AX]at j
 have mk:mks? 24 (b.2.2.2.1.length:Int) (b.2.2.2.1.length:Int) ([]:List Int)=some (List.replicate b.2.2.2.1.length []):=by
  unfold mks?;rw[A6 (show(0:Int)≤(b.2.2.2.1.length:Int) by omega),A6 (show(b.2.2.2.1.length:Int)≤(b.2.2.2.1.length:Int) by omega),A6 (show(b.2.2.2.1.length:Int).toNat*24≤70368744177664 by omega)];rfl
 rw[mk,A0,A0]
 have h0:∀ P:Nat->Int->Prop,(∀ k x,¬ P k x)->Rws b.2.2.2.1.length (List.replicate b.2.2.2.1.length ([]:List Int)) P 0:=λP hP=>⟨B7,λk r hr=>by
  grind⟩
 have A:∀s,0<=GJ ix s/\GJ ix s<b.2.2.2.1.length:=λs=>by
  have:=SG j s;grind
 refine DL.2 (Tot.mono (P:=λg:U9=>g.1=b/\g.2.1=GJ ix b.2.2.1/\Rws b.2.2.2.1.length g.2.2.1 (λk x=>P5 b p ix b.2.2.2.2 (k:Int) x) 20000/\Rws b.2.2.2.1.length g.2.2.2 (λk x=>P5 b p ix b.2.2.2.2 x (k:Int)) 20000) ?_ λg K=>?_)
 .refine E_ (r:=m6) (σ:=U9) b.2.2.2.2.length (λg i=>(p,ix,g,b.2.2.2.2,(b.2.2.2.2.length:Int),i)) (λi g=>g.1=b/\g.2.1=GJ ix b.2.2.1/\Rws b.2.2.2.1.length g.2.2.1 (λk x=>P5 b p ix (b.2.2.2.2.take i) (k:Int) x) i/\Rws b.2.2.2.1.length g.2.2.2 (λk x=>P5 b p ix (b.2.2.2.2.take i) x (k:Int)) i)
   oa (λnext g i hi d E=>?_) (λnext g d=>?_) _ ⟨rfl,rfl,h0 _ λk x ⟨e,h,_⟩=>(oq),h0 _ λk x ⟨e,h,_⟩=>(oq)⟩
  .obtain⟨G,H,B,C⟩:=d;unfold m6;dsimp only;have w:=A1 hi;rw[E0,A6 hi,A7,ER w,A0,EU oa];generalize b.2.2.2.2[i]=e at w ⊢;refine DN.2 ⟨λl=>?_,λl=>?_⟩
   .have l:=AC l;refine E _ ⟨G,H,B.mono (λk x _=>?_) oa,C.mono (λk x _=>?_) oa⟩
    all_goals
     unfold P5;rw[GX w];constructor
     .rintro⟨D,h1,z⟩;exact⟨D,BT _ h1,z⟩
     .rintro⟨D,h1,z,I⟩;rcases AV.1 h1 with h1|h1
      .exact⟨D,h1,z,I⟩
      .rw[AP]at h1;subst h1;omega
   .have l:=AK l;have⟨N,a1⟩:=A e.1;have⟨c0,c1⟩:=A e.2.1;have Q:(DU DP e.1 ix).getD 0=GJ ix e.1:=rfl;have R:(DU DP e.2.1 ix).getD 0=GJ ix e.2.1:=rfl;rw[Q,R];have L:=B.1;have M:=C.1
    have Y:(g.2.2.1.getD (GJ ix e.1).toNat []).length≤i:=by
     have a:(GJ ix e.1).toNat<g.2.2.1.length:=oa
     rw[AH,A1 a];exact(B.2 _ _ (A1 a)).1
    have Z:(g.2.2.2.getD (GJ ix e.2.1).toNat []).length<=i:=by
     have a:(GJ ix e.2.1).toNat<g.2.2.2.length:=oa
     rw[AH,A1 a];exact(C.2 _ _ (A1 a)).1
    refine DL.2 (ET.2 ⟨⟨N,oa⟩,DL.2 (F4.2 ⟨oc,DL.2 (ET.2 ⟨⟨c0,oa⟩,DL.2 (F4.2 ⟨oc,DL.2 (ET.2 ⟨⟨N,oa⟩,?_⟩)⟩)⟩)⟩)⟩);rw[show Nat.beq (GJ ix e.1).toNat (GJ ix e.1).toNat=true from CK _,A7,A0];refine DL.2 (ET.2 ⟨⟨c0,oa⟩,?_⟩);rw[show Nat.beq (GJ ix e.2.1).toNat (GJ ix e.2.1).toNat=true from CK _,A7,A0];refine E _ ⟨G,H,(A0R B _ oa _).mono (λk x _=>?_) oa,(A0R C _ oa _).mono (λk x _=>?_) oa⟩
    all_goals
     unfold P5;rw[GX w];constructor
     .rintro(⟨D,h1,z⟩|⟨h1,z⟩)
      .exact⟨D,BT _ h1,z⟩
      .exact⟨e,BO _ (AP.2 rfl),oa,oa,oa⟩
     .rintro⟨D,h1,z,I,X⟩;rcases AV.1 h1 with h1|h1
      .exact .inl ⟨D,h1,z,I,X⟩
      .rw[AP]at h1;subst h1;exact .inr ⟨oa,oa⟩
  .unfold m6;dsimp only;rw[E0,A9 (AA _),A8];rw[AX]at d;exact DM.2 ⟨d.1,d.2.1,d.2.2.1.mono (λ_ _ _=>Iff.rfl) O,d.2.2.2.mono (λ_ _ _=>Iff.rfl) O⟩
 .obtain⟨T,U,V,W⟩:=K;refine DL.2 (Tot.mono (P:=GpOk b p) ?_ λg K=>DM.2 K)
  refine E_ (r:=m7) (σ:=U9) b.2.2.2.1.length (λg i=>(g,(b.2.2.2.1.length:Int),i)) (λ_ g=>g.1=b/\g.2.1=GJ ix b.2.2.1/\Rws b.2.2.2.1.length g.2.2.1 (λk x=>P5 b p ix b.2.2.2.2 (k:Int) x) 20000/\Rws b.2.2.2.1.length g.2.2.2 (λk x=>P5 b p ix b.2.2.2.2 x (k:Int)) 20000)
   oa (λnext g i hi d E=>?_) (λnext g d=>?_) _ ⟨T,U,V,W⟩
  .obtain⟨G,H,B,C⟩:=d;unfold m7 slices_Compact_int;dsimp only;have L:=B.1;have M:=C.1;rw[E0,A6 hi,A7,EU oa];refine DL.2 (ET.2 ⟨⟨oa,oa⟩,?_⟩);rw[A0];refine DL.2 (ET.2 ⟨⟨oa,oa⟩,?_⟩);rw[A0];refine DL.2 (ET.2 ⟨⟨oa,oa⟩,?_⟩);rw[show Nat.beq (i:Int).toNat (i:Int).toNat=true from CK _,A7,A0];refine DL.2 (ET.2 ⟨⟨oa,oa⟩,?_⟩);rw[A0];grind[AOt,A7u,A7v]
  .unfold m7;dsimp only;rw[E0,A9 (AA _),A8];obtain⟨G,H,B,C⟩:=d;exact DM.2 ⟨G,oc,ix,j,H,B,C⟩
def AOv(l:List Int)(f:Int->Option Bool)(P:Int->Prop)(x:l.length<=1099511627776)(m:∀j∈l,∃c,f j=some c/\(c=true<->P j))(w:∃j∈l,P j):Tot (mC (l,f)) (λr=>∃n:Nat,r=(n:Int)/\∃j,l[n]?=some j/\P j):=by
 unfold mC;dsimp only;refine DL.2 (Tot.mono (P:=λq:Sum Unit Int=>match q with| .inl _=>False| .inr r=>∃n:Nat,r=(n:Int)/\∃j,l[n]?=some j/\P j) ?_ λq y=>?_)
 .refine E_ (r:=yW) (σ:=Unit) l.length (λ_ i=>(l,f,(l.length:Int),i)) (λi _=>∀j∈l.take i,¬P j) oa (λnext _ i hi e s=>?_) (λnext _ e=>?_) () (λj h=>oq)
  .unfold yW;dsimp only;have a:=A1 hi;have⟨c,b,d⟩:=m _ (AL hi);rw[E0,A6 hi,A7,ER a,A0,EU oa,b,A0];refine DN.2 ⟨λh=>DM.2 ⟨i,rfl,_,a,d.1 h⟩,λh=>s () λj p=>?_⟩;rw[GX a]at p;grind
  grind
 grind[DM]
def AOw{b:JI}{sc:Int}{g:U9}(hg:GpOk b sc g)(hn:b.2.2.2.1.length<=3000){t:Nat}(ht:t<b.2.2.2.1.length):Tot (mD (g,(t:Int))) (λl=>l.length<=3001/\∀j∈l,0<=j/\j<b.2.2.2.1.length):=by
 obtain⟨h5,E,ix,M,h8,Z,hi⟩:=hg
 have m:∀s,0<=GJ ix s/\GJ ix s<b.2.2.2.1.length:=λs=>by
  have:=SG M s;grind
 have Q:bT g.2.2.2:=⟨by rw [hi.1]; omega,λr hr=>by
  obtain⟨k,hk,rfl⟩:=List.mem_iff_getElem.1 hr;have⟨h1,h2⟩:=hi.2 k _ (A1 hk);refine⟨oa,λj C=>?_⟩;have⟨e,_,_,h3,_⟩:=(h2 j).1 C;rw[<-h3,hi.1];exact m _⟩
 unfold mD;dsimp only;refine DL.2 ((AOh Q (t:=t) (by rw[hi.1];exact ht)).mono λd G=>?_);have h4:d.length=b.2.2.2.1.length:=G.len.trans hi.1;have er:((g.2.1.toNat:Nat):Int)=g.2.1:=oa
 have⟨x0,T,p⟩:=L8 (l:=d) E.1 oa;rw[T,A0];refine DN.2 ⟨λ_=>DM.2 ⟨oh,λj h=>oq⟩,λw=>?_⟩;have w:=AK w;have H:=(G.low _ _ p).2;rw[hi.1]at H;refine DL.2 (Tot.mono (P:=λl:List Int=>l.length<=3001/\∀j∈l,0<=j/\j<b.2.2.2.1.length) ?_ λl hl=>DM.2 hl)
 refine EQ (R:=λl:List Int=>l.length<=3001/\∀j∈l,0<=j/\j<b.2.2.2.1.length) (λz:Int×U9×List Int×List Int×Int=>z.1=(t:Int)/\z.2.1=g/\z.2.2.1=d/\(∀j∈z.2.2.2.1,0<=j/\j<b.2.2.2.1.length)/\∃i:Nat,z.2.2.2.2=(i:Int)/\∃x:Int,d[i]?=some x/\0<=x/\(z.2.2.2.1.length:Int)+x<=3001) (λz=>(d.getD z.2.2.2.2.toNat 0).toNat)
  (λnext z hI D=>?_) fuel ((t:Int),g,d,([g.2.1]:List Int),g.2.1) ⟨rfl,rfl,rfl,λj C=>?_,g.2.1.toNat,oc,x0,p,oa,oc⟩ ?_
 .obtain⟨t',g',d',o,i'⟩:=z;obtain⟨i1,J,K,i4,i,i5,x,I,i7,i8⟩:=hI;dsimp only at i1 J K i4 i5 i8 D;have J:=J.symm;have K:=K.symm;subst i1 J K i5;have U:d.getD (i:Int).toNat 0=x:=by rw[AH,C5,I];rfl
  rw[U]at D;have h6:=(A5.1 I).1;unfold A5V;dsimp only;rw[DR];refine DN.2 ⟨λL=>?_,λL=>DM.2 ⟨oa,i4⟩⟩;have L:¬(i:Int)=(t:Int):=by simpa using L
  rcases G.pre i x I i7 with⟨_,e⟩|⟨k,y,r,p1,p2,p3,p4,p5⟩
  .omega
  .have h7:=(A5.1 p1).1;have hE:=((hi.2 k r p4).2 (i:Int)).1 p5;have R:i<g.2.2.1.length:=by rw[Z.1];omega
   obtain⟨row,A⟩:∃row,g.2.2.1[i]?=some row:=⟨_,A1 R⟩;have⟨o1,X⟩:=Z.2 i row A;have V:=(G.low i x I).2;rw[hi.1]at V;rw[ER A,A0];refine DL.2 ((AOv row _ (λj=>d[j.toNat]?=some (x-1)) oa (λj C=>?_) ⟨(k:Int),(X (k:Int)).2 hE,oc⟩).mono λn ⟨n',O,j,C,B⟩=>?_)
   .obtain⟨e,_,_,_,Y⟩:=(X j).1 C;have:=m e.2.1;rw[Y]at this;have⟨y2,W,x2⟩:=L8 (l:=d) this.1 oa;unfold yV;dsimp only;rw[A0,W,A0,A0,A0,ER I,A0,EG oa oa,A0,DR];grind
   .rw[O,A0,ER C,A0];have⟨e,_,_,_,Y⟩:=(X j).1 (AJ C);have N:=m e.2.1;rw[Y]at N;have x1:d.getD j.toNat 0=x-1:=by rw[AH,B];rfl
    have h9:=(G.low _ _ B).1;refine DL.2 (F4.2 ⟨oc,D _ ⟨rfl,rfl,rfl,λa ha=>?_,j.toNat,oc,x-1,B,oa,oc⟩ oc⟩);grind
 .grind
 .dsimp only;rw[AH,p];grind[fuel]
def AOx{b:JI}{g:U9}(h:g.1=b)(l:List Int)(w:l.length<=1048576)(d:∀j∈l,0<=j/\j<b.2.2.2.1.length):Tot (mF (g,l)) (λr=>r.length=l.length):=by
 unfold mF;dsimp only;refine DL.2 (Tot.mono (P:=λr=>r.length=l.length) ?_ λr e=>DM.2 e);refine E_ (r:=mE) (σ:=List DK) l.length (λo i=>(g,o,l,(l.length:Int),i)) (λi o=>o.length=i) oa (λnext o i hi a x=>?_) (λnext o a=>?_) [] rfl
 .unfold mE;dsimp only;have⟨p,s⟩:=d _ (AL hi);have⟨y,m,_⟩:=L8 (l:=b.2.2.2.1) p s;rw[E0,A6 hi,A7,ER (A1 hi),A0,EU oa,h,m,A0];exact qS
 simp_all[mE,E0,A9,AA,A8,DM]
def AOy(b:JI)(z:BlB b)(w:DK)(s:Int):Tot (mG (b,w,s)) (λr=>r.1.length<=3001):=by
 unfold mG;dsimp only;refine DL.2 (Tot.mono (P:=λr=>r.2.2=0->BlOk b/\GpOk b s r.1/\∃t:Nat,r.2.1=(t:Int)/\t<b.2.2.2.1.length) ?_ λH p=>DN.2 ⟨λ_=>DM.2 oh,λh=>?_⟩)
 .unfold yR;dsimp only;refine DL.2 (Tot.mono (P:=λr=>r.2=0->BlOk b/\GpOk b s r.1) ?_ λr x=>DN.2 ⟨λh=>DM.2 λh0=>(by have h0:r.2=0:=h0;rw[h0]at h;cases h),λh=>?_⟩)
  .unfold yO;dsimp only;refine DL.2 ((A0M b z).mono λe A=>DN.2 ⟨λh=>DM.2 λh0=>(by have h0:e=0:=h0;rw[h0]at h;cases h),λh=>DN.2 ⟨λ_=>DM.2 λh=>absurd h oi,λ_=>?_⟩⟩);have a:=A (L6 h);simp_all[DL,AOu,DM]
  .obtain⟨a,d⟩:=x (L6 h);have D:=a.few;unfold yQ;dsimp only;refine DL.2 (Tot.mono (P:=Srch (λy:FU=>y.1) b.2.2.2.1 w) ?_ λq j=>?_)
   .refine DL.2 ((AOX b.2.2.2.1 w oa _ λy=>⟨_,?_,WO _ _,WU _ _⟩).mono λq j=>DM.2 j);grind[yP,bJ]
   .refine DN.2 ⟨λ_=>DM.2 λh=>absurd h oi,λm=>DM.2 λ_=>⟨a,d,q.1.toNat,?_,?_⟩⟩
    .have:=j.rng;grind
    .obtain⟨y,E,_⟩:=j.is (by simpa using m);grind
 .obtain⟨a,d,t,e,B⟩:=p (L6 h);rw[e];refine DL.2 ((AOw d a.few B).mono λl ⟨G,C⟩=>DL.2 ((AOx d.bl l oa C).mono λr x=>DM.2 oc))
def key_ok{p:Pu}(h:KQ p=some 0)(j:p.2.2.2.2.1.length<=1048576):∃k,MD p=some (k,0):=by
 have e:=ANx (bG p j) h rfl;have⟨l,a,b⟩:=oP p e;have⟨m,d,_⟩:=A6s l b;exact⟨m,by unfold MD;rw[h,A0,show(!(DO (0:Int) 0))=false from rfl,A8,a,A0,d,A0]⟩
def UA(advs:List FZ)(cs:List FU)(h:ID):Prop:=∃a∈advs,a.1=h.1/\a.2.2.2.2.1=false/\0<=h.2.2/\h.2.2<a.2.2.2.2.2.2.length/\∃c∈cs,c.1=h.2.1
section
variable{cs:List FU}(hn:cs.length<=3000)(hk:∀c∈cs,(∃k,MD c.2.1=some (k,0))/\(WV c).length<=1048576)
include hn hk
def PlM(n:Nat)(B:Nat)(m:KM):Prop:=∀k,(LY m k).length<=B/\∀x∈LY m k,0<=x/\x<n
theorem AOz:Tot (yI ([],cs,(cs.length:Int),0)) (PlM cs.length cs.length):=by
 refine E_ (r:=lS) (σ:=KM) cs.length (λm i=>(m,cs,(cs.length:Int),i)) (λi m=>PlM cs.length i m) oa (λnext m i hi a j=>?_) (λnext m a=>?_) [] (λk=>⟨AD _,λx h=>oq⟩)
 .unfold lS;dsimp only;have⟨⟨k,k1⟩,_⟩:=hk _ (AL hi);rw[E0,A6 hi,A7,ER (A1 hi),A0,k1,A0,EU oa];have b:=(a k).1;unfold LY at b;refine DL.2 (F4.2 ⟨oc,?_⟩);dsimp only;rw[D_,A6 rfl,A7,A0];refine j _ λl=>?_;unfold LY;rw[AO5];by_cases e:l=k
  .rw[if_pos e,D1];refine⟨oc,λx d=>?_⟩;rcases AV.1 d with d|d
   .exact(a k).2 x d
   grind
  .rw[if_neg e];exact⟨by have:=(a l).1;grind[LY],(a l).2⟩
 simp_all[lS,E0,A9,AA,A8,DM]
theorem AP0{b:JI}(H:b.2.2.2.1=cs){m:KM}(J:PlM cs.length cs.length m){a:FZ}(G:LW a)(I:QK a=0):
 Tot (lR (a,b,m)) (λq=>q.length<=50*3000/\∀p∈q,0<=p.1/\p.1<cs.length/\0<=p.2/\p.2<a.2.2.2.2.2.2.length):=by
 have⟨h1,O,E,Q⟩:=AO3 G I;unfold lR;dsimp only;rw[h1,A0];refine DL.2 (Tot.mono (P:=λq:List (Int×Int)=>q.length<=50*3000/\∀p∈q,0<=p.1/\p.1<cs.length/\0<=p.2/\p.2<a.2.2.2.2.2.2.length) ?_ λo h=>DL.2 ((AO0 o).mono λq w=>DM.2 ⟨by rw[w.length_eq];exact h.1,λp C=>h.2 p (w.mem_iff.1 C)⟩));refine E_ (r:=lQ) (σ:=List (Int×Int)) a.2.2.2.2.2.2.length (λo i=>(m,b,SD a,o,a.2.2.2.2.2.2,(a.2.2.2.2.2.2.length:Int),i)) (λi o=>o.length<=i*3000/\∀p∈o,0<=p.1/\p.1<cs.length/\0<=p.2/\p.2<a.2.2.2.2.2.2.length) oa (λnext o i hi h e=>?_) (λnext o h=>?_) [] ⟨oh,oh⟩
 .obtain⟨M,A⟩:=h;unfold lQ;dsimp only;rw[E0,A6 hi,A7,ER (A1 hi),A0,EU oa];generalize a.2.2.2.2.2.2[i]=x;have⟨R,L⟩:=J x.1;have j:i<(SD a).length:=oa
  have K:=A1 j;have z:=E _ (AL j);refine DL.2 (Tot.mono (P:=λq:JI×List (Int×Int)=>q.1=b/\q.2.length<=i*3000+(LY m x.1).length/\∀p∈q.2,0<=p.1/\p.1<cs.length/\0<=p.2/\p.2<a.2.2.2.2.2.2.length) ?_ λq w=>?_)
  .refine E_ (r:=lP) (σ:=List (Int×Int)) (LY m x.1).length (λo n=>(b,SD a,o,(i:Int),x,LY m x.1,((LY m x.1).length:Int),n)) (λn o=>o.length<=i*3000+n/\∀p∈o,0<=p.1/\p.1<cs.length/\0<=p.2/\p.2<a.2.2.2.2.2.2.length) oa (λnext o n d h e=>?_) (λnext o h=>?_) o ⟨oa,A⟩
   .obtain⟨M,A⟩:=h;unfold lP;dsimp only;have⟨D,N⟩:=L _ (AL d);rw[E0,A6 d,A7,ER (A1 d),A0,ER K,A0,EU oa,H];generalize (LY m x.1)[n]=y at D N ⊢;have⟨c,l,s⟩:=L8 (l:=cs) D oa;rw[l,A0];have⟨B,_⟩:=AO4 x z x.1 (hk c (AJ s)).2;unfold WV at B;rw[B,A0];refine DN.2 ⟨λ_=>DL.2 (F4.2 ⟨oc,e _ ⟨oc,λp C=>?_⟩⟩),λ_=>e _ ⟨oa,A⟩⟩;grind
   .unfold lP;dsimp only;rw[E0,A9 (AA _),A8];exact DM.2 ⟨rfl,h⟩
  grind
 .unfold lQ;dsimp only;rw[E0,A9 (AA _),A8];grind[DM]
theorem AP1{b:JI}(z:b.2.2.2.1=cs){d:List FZ}{a:FZ}(x:a∈d)(A:a.2.2.2.2.1=false)(q:List (Int×Int))(B:∀p∈q,0<=p.1/\p.1<cs.length/\0<=p.2/\p.2<a.2.2.2.2.2.2.length)(C:q.length<=1000000)(out:List ID)(l:out.length<=100000/\∀h∈out,UA d cs h):
 Tot (yJ (b,out,a,q,(q.length:Int),0)) (λr=>match r with| .inl y=>y.1=b/\y.2.length<=100000/\∀h∈y.2,UA d cs h| .inr y=>y.1.length<=100000/\y.2≠0):=by
 refine E_ (r:=lT) (σ:=List ID) q.length (λo i=>(b,o,a,q,(q.length:Int),i)) (λi o=>o.length<=100000/\∀h∈o,UA d cs h) oa (λnext o i hi l w=>?_) (λnext o l=>?_) out l
 .unfold lT;dsimp only;have⟨p0,p1,D,E⟩:=B _ (AL hi);rw[E0,A6 hi,A7,ER (A1 hi),A0,EU oa,z];refine DN.2 ⟨λ_=>DM.2 ⟨oh,show(3:Int)≠0 by decide⟩,λe=>?_⟩;rw[DR]at e;have e:=AK e;have⟨c,m,s⟩:=L8 (l:=cs) p0 oa;rw[m,A0];refine DL.2 (F4.2 ⟨oc,w _ ⟨oc,λh j=>?_⟩⟩);rcases AV.1 j with j|j
  .exact l.2 h j
  .rw[AP]at j;subst j;exact⟨a,x,rfl,A,D,E,c,AJ s,rfl⟩
 .unfold lT;dsimp only;rw[E0,A9 (AA _),A8];exact DM.2 ⟨rfl,l⟩
end
def AP2{bs:Bs}(B:BB bs){b:JI}(d:BlB b)(M:∀c∈b.2.2.2.1,c.2.1.2.2.2.1.length<=1048576):Tot (aL (bs,b)) (λq=>q.1.length<=100000/\(q.2=0->WQ bs/\BlOk b/\∀h∈q.1,UA bs.2.1 b.2.2.2.1 h)):=by
 unfold aL;dsimp only;refine DL.2 ((A7V bs B).mono λe w=>DN.2 ⟨λh=>DM.2 ⟨oh,λh0=>(by have h0:e=0:=h0;rw[h0]at h;cases h)⟩,λh=>?_⟩);have D:=w.1 (L6 h);refine DL.2 ((A0M b d).mono λe w=>DN.2 ⟨λh=>DM.2 ⟨oh,λh0=>(oc)⟩,λh=>?_⟩);have l:=w (L6 h)
 have p:∀a∈bs.2.1,LW a/\QK a=0:=λa C=>by
  refine⟨B a C,?_⟩;have⟨j,K,e⟩:=List.mem_iff_getElem.1 C;exact((D.2.2.2 j K).1 a oc).1
 have E:=D.2.1;have x:=l.few;have hk:∀c∈b.2.2.2.1,(∃k,MD c.2.1=some (k,0))/\(WV c).length<=1048576:=λc s=>⟨key_ok (l.purl c s) (d.c c s).2.1,M c s⟩;refine DL.2 ((AOz x hk).mono λm L=>?_);refine DL.2 (Tot.mono (P:=λq:Sum (List ID) (List ID×Int)=>match q with| .inl o=>o.length<=100000/\∀h∈o,UA bs.2.1 b.2.2.2.1 h| .inr y=>y.1.length<=100000/\y.2≠0) ?_ λq H=>?_)
 .refine E_ (r:=lU) (σ:=List ID) bs.2.1.length (λo i=>(b,m,o,bs.2.1,(bs.2.1.length:Int),i)) (λi o=>o.length<=100000/\∀h∈o,UA bs.2.1 b.2.2.2.1 h) oa (λnext o i hi A z=>?_) (λnext o A=>?_) [] ⟨oh,oh⟩
  .unfold lU;dsimp only;have⟨I,J⟩:=p _ (AL hi);rw[E0,A6 hi,A7,ER (A1 hi),A0,EU oa];refine DN.2 ⟨λG=>z o A,λG=>?_⟩;refine DL.2 ((AP0 x hk rfl L I J).mono λq H=>?_);obtain⟨Q,N⟩:=H;refine DL.2 ((AP1 x hk rfl (AL hi) G q N oa o A).mono λr O=>?_);grind[DM]
  simp_all[lU,E0,A9,AA,A8,DM]
 grind[DM,absurd]
abbrev FQ:=DK×DK×DK×Int×Int×Int×Int
def ML(x y:FQ):Prop:=x.2.2.2.2.2.2<y.2.2.2.2.2.2\/(x.2.2.2.2.2.2=y.2.2.2.2.2.2/\x.2.2.2.2.2.1<=y.2.2.2.2.2.1)
theorem AP3{x y z:FQ}(h:ML x y)(k:ML y z):ML x z:=by unfold ML at *;omega
theorem A80(x y:FQ):ML x y\/ML y x:=by unfold ML;omega
def JK(l:List FQ)(ab:FQ->Bool)(b:Int):Prop:=(b= -1/\∀x∈l,ab x=false)\/
 ∃(k:Nat) (y:FQ),b=(k:Int)/\l[k]?=some y/\ab y=true/\∀(j:Nat) (x:FQ),l[j]?=some x->ab x=true->(j<=k->ML x y)/\(k<j->¬ML y x)
def AP4(ab:FQ->Bool):JK [] ab (-1):=.inl ⟨rfl,λx h=>oq⟩
def AP5{α:Type}{l:List α}{x y:α}{j:Nat}(h:(l++[x])[j]?=some y):(j<l.length/\l[j]?=some y)\/(j=l.length/\y=x):=by
 grind
def A81{l:List FQ}{ab:FQ->Bool}{b:Int}(h:JK l ab b){x:FQ}(p:ab x=false):JK (l++[x]) ab b:=by
 rcases h with⟨rfl,h⟩|⟨k,y,rfl,h1,a,e⟩
 .refine .inl ⟨rfl,λz d=>?_⟩;grind
 .refine .inr ⟨k,y,rfl,oc,a,λj z d m=>?_⟩;grind
theorem A82{l:List FQ}{ab:FQ->Bool}{b:Int}(h:JK l ab b){x:FQ}(d:ab x=true)(s:b<0\/∃(k:Nat) (y:FQ),b=(k:Int)/\l[k]?=some y/\ML y x):JK (l++[x]) ab (l.length:Int):=by
 refine .inr ⟨l.length,x,rfl,oh,d,λj z a e=>⟨λ_=>?_,λw=>?_⟩⟩
 .rcases AP5 a with⟨_,a⟩|⟨_,rfl⟩
  .rcases h with⟨rfl,h⟩|⟨k,y,rfl,h1,m,p⟩
   .grind
   grind[AP3,A80]
  grind[A80,id]
 grind
def AP6{l:List FQ}{ab:FQ->Bool}{k:Nat}(h:JK l ab (k:Int)){x y:FQ}(b:l[k]?=some y)(s:¬ML y x):JK (l++[x]) ab (k:Int):=by
 rcases h with⟨e,h⟩|⟨d,A,e,h1,a,m⟩
 .omega
 .have:k=d:=oa
  subst this;rw[b]at h1;cases h1;refine .inr ⟨k,y,rfl,oc,a,λj z w p=>?_⟩;grind
def AP7{l:List FQ}{ab:FQ->Bool}{b c:Int}(h:JK l ab b)(k:JK l ab c):b=c:=by
 rcases h with⟨rfl,h⟩|⟨i,y,rfl,h1,d,e⟩
 .rcases k with⟨rfl,_⟩|⟨j,z,rfl,k1,a,_⟩<;>grind
 .rcases k with⟨rfl,k⟩|⟨j,z,rfl,k1,a,m⟩<;>grind
def dn(n:Nat)(b:Int):Int:=if(n:Int)<b then b-1 else b
section
variable{g:JJ}(hg:GB g)(how:Int){fs:List DK}(hf0:fs.length<=1048576)(hf1:∀s∈fs,s.length<=1048576)
include hg hf0 hf1
theorem A83:Tot (aB (g,how,fs)) (λr=>r.2=0->∃w,r.1=some w/\WoOk g how w/\GrOk g):=by
 unfold aB;dsimp only;refine DL.2 ((AOP hg).mono λe d=>DN.2 ⟨λh=>DM.2 λe0=>(by have e0:e=0:=e0;rw[e0]at h;cases h),λh=>?_⟩);have a:=d (L6 h);refine DL.2 ((AOQ fs hf1).mono λe _=>DN.2 ⟨λh=>DM.2 λe0=>(by have e0:e=0:=e0;rw[e0]at h;cases h),λ_=>DN.2 ⟨λ_=>DM.2 λh=>absurd h oi,λ_=>?_⟩⟩);exact DL.2 ((AO_ hg a.i a.t how fs hf0).mono λr ⟨w,h1,b⟩=>DM.2 λ_=>⟨w,h1,b,a⟩)
theorem A84:Tot (WA (g,how,fs)) (λr=>r.1.length<=3000):=by
 unfold WA;dsimp only;refine DL.2 ((A83 hg how hf0 hf1).mono λr m=>DN.2 ⟨λh=>DM.2 oh,λh=>?_⟩);have⟨w,h1,e,d⟩:=m (L6 h);rw[h1];refine DL.2 ((A7p e hg d).mono λB ⟨s,j,p⟩=>?_);subst j;have b:=p.fl;rw[e.gr]at b;have z:=d.f;rw[A0];refine DL.2 ((E_ (r:=lE) (σ:=List DK) s.2.1.length (λo i=>(g,o,s.2.1,(s.2.1.length:Int),i)) (λi o=>o.length<=i) (Q:=λo=>o.length<=s.2.1.length) oa (λnext o i hi l a=>?_) (λnext o l=>?_) [] (AD _)).mono λq A=>DM.2 oc)
 .unfold lE;dsimp only;have⟨y,x,_⟩:=L8 (l:=g.2.2.1) (i:=(i:Int)) oa oa;rw[E0,A6 hi,A7,ER (A1 hi),A0,EU oa,x,A0];refine DN.2 ⟨λ_=>DL.2 (F4.2 ⟨oc,a _ oc⟩),λ_=>a _ oa⟩
 simp_all[lE,E0,A9,AA,A8,DM]
theorem AP8(tg:DK):Tot (aX (g,how,fs,tg)) (λr=>r.1.2.1.length<=3000/\r.1.2.2.length<=3000):=by
 unfold aX;dsimp only;refine DL.2 (Tot.mono (P:=λr=>r.2.2=0->∃w,∃t:Nat,r.1=some w/\WoOk g how w/\GrOk g/\r.2.1=(t:Int)/\t<g.2.2.1.length) ?_ λr1 h8=>?_)
 .unfold z8;dsimp only;refine DL.2 ((A83 hg how hf0 hf1).mono λr hr=>DN.2 ⟨λh=>DM.2 λe0=>(by have e0:r.2=0:=e0;rw[e0]at h;cases h),λh=>?_⟩);have⟨w,h1,A,D⟩:=hr (L6 h);rw[h1,A0];refine DN.2 ⟨λh=>DM.2 λe0=>absurd e0 oi,λh=>DM.2 λ_=>?_⟩;cases e:DU DP tg w.2.1 with
  |none=>grind
  |some i=>
   have⟨i0,i1⟩:=A.fn.1 _ _ e;grind
 refine DN.2 ⟨λ_=>DM.2 ⟨oh,oh⟩,λh=>?_⟩;have⟨w,t,e1,A,D,e2,ht⟩:=h8 (L6 h);have h6:=A.gr;have hn:=D.f;have y0:=hg.e0;rw[e1,e2];refine DL.2 ((A7p A hg D).mono λr3 ⟨s,h2,G⟩=>?_);subst h2;have h5:=G.fl;have h7:=G.ml;rw[h6]at h5 h7;obtain⟨y,hy⟩:∃y,s.2.1[t]?=some y:=⟨_,A1 oa⟩;rw[A0,ER hy,A0];refine DN.2 ⟨λ_=>DM.2 ⟨oh,oh⟩,λK=>?_⟩;have K:y=true:=by simpa using K
 subst K;refine DL.2 ((AOl A hg D G ht).mono λd ⟨nx,C,O,E⟩=>?_);have h4:d.length=g.2.2.1.length:=C.len.trans O
 have T:∀e,0<=GJ w.2.1 e/\GJ w.2.1 e<g.2.2.1.length:=λe=>by
  have:=SG A.fn e;grind
 refine DL.2 (Tot.mono (P:=λb=>∃n:Nat,b=(n:Int)/\n<g.2.2.1.length/\∃x,d[n]?=some x/\0<=x) ?_ λy7 Q=>?_)
 .obtain⟨e0,x5,x0,m,H⟩:=AOp A hg D G C O E (G.r t hy) ⟨oa,0,by rw[C5];exact C.t0,AS _⟩;refine E_ (r:=nJ) (σ:=Int) g.2.2.2.length (λb i=>(some w,d,b,g.2.2.2,(g.2.2.2.length:Int),i)) (λi b=>(b= -1/\∀e∈g.2.2.2.take i,∀x,d[(GJ w.2.1 e).toNat]?=some x->x<0)\/∃n:Nat,b=(n:Int)/\n<g.2.2.1.length/\∃x,d[n]?=some x/\0<=x) oa (λnext b i hi L a=>?_) (λnext b L=>?_) (-1) (.inl ⟨rfl,λe h=>oq⟩)
  .unfold nJ;dsimp only;have p:=A1 hi;rw[E0,A6 hi,A7,ER p,A0,A0,EU oa];generalize g.2.2.2[i]=e at p ⊢;have⟨r0,r1⟩:=T e;unfold GJ at r0 r1;have⟨x4,U,J⟩:=L8 (l:=d) r0 oa;rw[U,A0];refine DL.2 (Tot.mono (P:=λ_=>True) (DN.2 ⟨λ_=>DM.2 trivial,λ_=>DM.2 trivial⟩) λy8 _=>?_);refine DL.2 (Tot.mono (P:=λ_=>True) (DN.2 ⟨λhb=>?_,λ_=>DM.2 trivial⟩) λy9 _=>?_)
   .rcases L with⟨rfl,_⟩|⟨n,rfl,y1,x,hx,_⟩
    .grind
    simp_all[EH,trivial]
   .refine DN.2 ⟨λhb=>a _ (.inr ⟨((DU DP e w.2.1).getD 0).toNat,oa,oa,x4,J,?_⟩),λhb=>a _ ?_⟩
    .grind
    .rcases L with⟨rfl,L⟩|L
     .refine .inl ⟨rfl,λe' l x hx=>?_⟩;rw[GX p]at l;rcases AV.1 l with l|l
      .grind
      .rw[AP]at l;subst l;unfold GJ at hx;grind
     .exact .inr L
  .unfold nJ;dsimp only;rw[E0,A9 (AA _),A8];grind[DM,List.take_length]
 obtain⟨Z,rfl,h3,x0,m,H⟩:=Q;have p:=A1 h3;rw[ER p,A0];refine DL.2 (Tot.mono (P:=λr=>r.1.2.2=[]/\r.1.2.1.length<=3000/\r.2.length<=3000/\(r.2.map (·.1)).Nodup) ?_ λx3 R=>?_)
 .refine EQ (R:=λr:WZ×List (DK×DK)=>r.1.2.2=[]/\r.1.2.1.length<=3000/\r.2.length<=3000/\(r.2.map (·.1)).Nodup) (λz:Option IE×Int×Option L7×List Int×WZ×List (DK×DK)×Int=>z.1=some w/\z.2.1=(t:Int)/\z.2.2.1=some s/\z.2.2.2.1=d/\z.2.2.2.2.1.2.2=[]/\∃ f:Nat,z.2.2.2.2.2.2=(f:Int)/\∃ x:Int,d[f]? = some x/\0<=x /\
   (z.2.2.2.2.1.2.1.length:Int)+x<=3000/\(z.2.2.2.2.2.1.length:Int)+x<=3000/\(z.2.2.2.2.2.1.map (·.1)).Nodup) (λz=>(d.getD z.2.2.2.2.2.2.toNat 0).toNat) (λnext z hI a=>?_) fuel (some w,(t:Int),some s,d,((g.2.2.1[Z]).1,(([]:List pN),([]:List (DK×DK)))),([]:List (DK×DK)),(Z:Int))
   ⟨rfl,rfl,rfl,rfl,rfl,Z,rfl,x0,m,H,?_,?_,AT⟩ ?_
  .obtain⟨w',t',s',d',o,ty,f'⟩:=z;obtain⟨i1,i2,i3,W,X,f,i6,x,Y,i8,i9,x1,B⟩:=hI;dsimp only at i1 i2 i3 W X i6 i9 x1 B a;have W:=W.symm;subst i1 i2 i3 W i6;have y4:=(C.low f x Y).2;have h9:d.getD (f:Int).toNat 0=x:=by rw[AH,C5,Y];rfl
   rw[h9]at a;unfold A5k;dsimp only;rw[DR];refine DN.2 ⟨λhc=>?_,λhc=>DM.2 ⟨X,oc,oc,B⟩⟩;have hc:¬(f:Int)=(t:Int):=by simpa using hc
   rcases C.pre f x Y i8 with⟨_,e⟩|⟨i,y,r,p1,p2,p3,p4,p5⟩
   .omega
   .obtain⟨i',p6,p7⟩:=(E i r (f:Int) p4).1 p5;have p6:f=i':=oa
    subst p6;refine DL.2 ((AOm A hg D G h4 Y oa (i:=i) oc p7).mono λq ⟨j,hj,I⟩=>?_);rw[A0];have y5:d.getD (j:Int).toNat 0=x-1:=by rw[AH,C5,I];rfl
    refine DN.2 ⟨λ_=>?_,λ_=>?_⟩
    .refine DL.2 ((AOn A hg D G q.2.1 q.2.2).mono λV _=>DL.2 ((AOo A hg D G V).mono λx2 _=>DL.2 (F4.2 ⟨oc,?_⟩)));have y2:=AOr V x2 ty;refine a _ ⟨rfl,rfl,rfl,rfl,X,j,hj,x-1,I,oa,?_,?_,AOq B⟩ ?_
     .grind
     .grind
     grind
    .refine DL.2 (F4.2 ⟨oc,?_⟩);refine a _ ⟨rfl,rfl,rfl,rfl,X,j,hj,x-1,I,oa,?_,oc,B⟩ ?_
     .grind
     grind
  .have:=(C.low _ _ m).2;grind
  .have:=(C.low _ _ m).2;grind
  .dsimp only;have:=(C.low _ _ m).2;rw[AH,C5,m];grind[fuel]
 obtain⟨⟨M,N,y6⟩,ty⟩:=x3;obtain⟨q1,q0,q2,q3⟩:=R;dsimp only at q1 q0 q2 q3 ⊢;subst q1;have⟨r,y3,_,hr⟩:=A7z (List.Perm.refl ty) q3;refine⟨_,cQ (ω:=((M,(N,r)),true,0)) ⟨ty,List.Perm.refl _⟩ λo hp=>?_,q0,oc⟩;have hl:=hp.length_eq;rw[AOs o M N [] oc,A0,CN];dsimp only;have⟨r',_,h1,h2⟩:=A7z hp q3;grind
end
abbrev J0:=JI×Int×Bs×List JJ×Int×List DK×List FQ
abbrev O5:=J0×List (DK×FZ)×List (DK×FU)×List (DK×Bool)×List ((DK×DK×Int)×Bool)
abbrev W_:=Option O5×ID×FZ×FU×List DK×Int×List DK
abbrev O6:=DK×DK×Int×Int×Int×List DK×DK×List WZ×Int
structure PrB(p:J0):Prop where
 bl:BlB p.1
 bv:∀c∈p.1.2.2.2.1,c.2.1.2.2.2.1.length<=1048576
 bs:BB p.2.2.1
 gr:∀g∈p.2.2.2.1,GB g
 f0:p.2.2.2.2.2.1.length<=1048576
 f1:∀s∈p.2.2.2.2.2.1,s.length<=1048576
 s0:p.2.2.2.2.2.2.length<=1048576
 s1:∀s∈p.2.2.2.2.2.2,s.1.length<=1048576/\s.2.1.length<=1048576
def AP9(s:DK)(a:s.length<=1048576):Tot (lG s) (λ_=>True):=by
 unfold lG;refine DL.2 ((E_ (r:=lF) s.length (λ_ i=>(s,(s.length:Int),i)) (λ_ _=>True) (Q:=λ_=>True) oa (λnext _ i hi _ h=>?_) (λnext _ _=>?_) () trivial).mono λr _=>?_)
 .unfold lF;dsimp only;rw[E0,A6 hi,A7,EU oa];simp_all[DL,EH,DN,DM,trivial]
 .simp_all[lF,E0,A9,AA,A8,DM,trivial]
 .cases r<;>exact DM.2 trivial
def APA(s:DK)(a:s.length<=1048576):Tot (lI s) (λ_=>True):=by
 unfold lI;refine DL.2 ((E_ (r:=lH) s.length (λ_ i=>(s,(s.length:Int),i)) (λ_ _=>True) (Q:=λ_=>True) oa (λnext _ i hi _ h=>?_) (λnext _ _=>?_) () trivial).mono λr _=>?_)
 .unfold lH;dsimp only;rw[E0,A6 hi,A7,EU oa];simp_all[DL,EH,Tot.mono,DN,trivial,DM]
 .simp_all[lH,E0,A9,AA,A8,DM,trivial]
 .cases r<;>exact DM.2 trivial
def A85(s:FQ)(h1:s.1.length<=1048576)(h:s.2.1.length<=1048576):∃e,N_ s=some e:=by
 unfold N_;refine IJ.1 (DL.2 ((AP9 _ h1).mono λb _=>DL.2 (Tot.mono (P:=λ_=>True) (DN.2 ⟨λ_=>APA _ h,λ_=>DM.2 trivial⟩) λd _=>DN.2 ⟨λ_=>DM.2 trivial,λ_=>?_⟩)));have⟨j,a⟩:=AO8 s.2.2.1;simp_all[A0,DN,DM,trivial]
def A86(l:List FQ)(w:l.length<=1048576)(b:∀s∈l,s.1.length<=1048576/\s.2.1.length<=1048576):Tot (yF (l,(l.length:Int),0)) (λq=>match q with| .inl _=>∀s∈l,N_ s=some 0| .inr e=>e≠0/\¬∀s∈l,N_ s=some 0):=by
 refine E_ (r:=lL) (σ:=Unit) l.length (λ_ i=>(l,(l.length:Int),i)) (λi _=>∀s∈l.take i,N_ s=some 0) oa (λnext _ i hi j p=>?_) (λnext _ j=>?_) () (λs h=>oq)
 .unfold lL;dsimp only;have a:=A1 hi;have⟨h1,d⟩:=b _ (AL hi);have⟨e,m⟩:=A85 _ h1 d;rw[E0,A6 hi,A7,ER a,A0,EU oa,m,A0,DR];refine DN.2 ⟨λh=>?_,λh=>p () λs b=>?_⟩
  .grind[DM,List.getElem_mem,Option.some.inj]
  .have h:e=0:=by simpa using h
   subst h;rw[GX a]at b;grind
 simp_all[lL,E0,A9,AA,A8,AX,DM]
structure PrOk(p:J0):Prop where
 bl:BlOk p.1
 bs:WQ p.2.2.1
 gr:p.2.2.2.1.length<=1
 st:p.2.2.2.2.2.2.length<=2000
def APB(p:J0)(a:PrB p):Tot (aD p) (λe=>e=0->p.2.2.2.1.length<=1):=by
 unfold aD;refine DN.2 ⟨λ_=>DM.2 λh=>absurd h oi,λh=>?_⟩;have h:=AK h;refine DN.2 ⟨λ_=>DN.2 ⟨λ_=>DM.2 λh=>absurd h oi,λ_=>DM.2 λ_=>oa⟩,λh0=>?_⟩;rw[DR]at h0;have h0:=AK h0;refine DL.2 (EH.2 ⟨⟨oa,oa⟩,λg b=>?_⟩);exact DL.2 ((A84 (a.gr g (AJ b)) _ a.f0 a.f1).mono λr _=>DM.2 λ_=>oa)
def A87(p:J0)(b:PrB p):Tot (S2 p) (λe=>e=0->PrOk p/\∀s∈p.2.2.2.2.2.2,N_ s=some 0):=by
 unfold S2;refine DL.2 ((A0M p.1 b.bl).mono λe a=>DN.2 ⟨λh=>DM.2 λh0=>(by have h0:e=0:=h0;rw[h0]at h;cases h),λh=>?_⟩);have j:=a (L6 h);refine DN.2 ⟨λ_=>DM.2 λh=>absurd h oi,λ_=>?_⟩;refine DL.2 ((A7V p.2.2.1 b.bs).mono λe a=>DN.2 ⟨λh=>DM.2 λh0=>(by have h0:e=0:=h0;rw[h0]at h;cases h),λh=>?_⟩);have l:=a.1 (L6 h);refine DL.2 ((APB p b).mono λe a=>DN.2 ⟨λh=>DM.2 λh0=>(oc),λh=>?_⟩);have m:=a (L6 h);refine DN.2 ⟨λ_=>DM.2 λh=>absurd h oi,λd=>?_⟩;have d:=AK d;refine DL.2 ((A86 _ b.s0 b.s1).mono λq w=>?_);cases q with
 |inl u=>exact DM.2 λ_=>⟨⟨j,l,m,oa⟩,w⟩
 |inr e=>grind[DM,absurd]
def GY(p:J0)(l:List FQ):J0:=(p.1,p.2.1,p.2.2.1,p.2.2.2.1,p.2.2.2.2.1,p.2.2.2.2.2.1,l)
def APC{p:J0}(h:S2 p=some 0){l:List FQ}(A:l.length<=2000)(x:∀s∈l,s.1.length<=1048576/\s.2.1.length<=1048576)(z:∀s∈l,N_ s=some 0):S2 (GY p l)=some 0:=by
 unfold S2 at h ⊢;unfold GY;dsimp only;have⟨C,h1,h⟩:=MJ h;rw[h1,A0];rcases P1 h with⟨b,h⟩|⟨b,h⟩
 .grind
 rw[b,A8];rcases P1 h with⟨_,h⟩|⟨e,h⟩
 .cases h
 rw[e,A8];have⟨D,j,h⟩:=MJ h;rw[j,A0];rcases P1 h with⟨a,h⟩|⟨a,h⟩
 .grind
 rw[a,A8];have⟨y,m,h⟩:=MJ h;rw[show aD (p.1,p.2.1,p.2.2.1,p.2.2.2.1,p.2.2.2.2.1,p.2.2.2.2.2.1,l)=some y from m,A0];rcases P1 h with⟨d,h⟩|⟨d,h⟩
 .grind
 rw[d,A8,A9 (show ¬(2000:Int)<(l.length:Int) by omega),A8];have⟨q,B,w⟩:=A86 l oa x;grind
def pO{X R σ α:Type}{r:(X->Option R)->X->Option R}(l:List α)(enc:σ->Int->X)(f:σ->α->σ)(out:σ->R)(d:l.length<=1099511627776)
 (e:∀next s (i:Nat) y,l[i]?=some y->r next (enc s (i:Int))=next (enc (f s y) ((i:Int)+1)))(a:∀next s,r next (enc s (l.length:Int))=some (out s))(s0:σ):DX r fuel (enc s0 0)=some (out (l.foldl f s0)):=by
 refine LX ((SF l enc (λs _ y=>f s y) out (λi s=>s=(l.take i).foldl f s0) d (λnext s i y h=>e next s i y h) a s0 rfl (λs i y h b=>?_)).mono λq ⟨s,h1,j⟩=>?_)
 .rw[GX h,List.foldl_append,<-b];rfl
 grind
def A88{j:Type}(d:j->DK):∀(l:List j) (m:List (DK×j)),l.Pairwise (λa b=>d a<d b)->∀a∈l,DU DP (d a) (l.foldl (λm a=>EB DP (d a) a m) m)=some a:=by
 have p:∀(l:List j) (m:List (DK×j)) (s:DK) (b:j),DU DP s m=some b->(∀a∈l,d a≠s)->DU DP s (l.foldl (λm a=>EB DP (d a) a m) m)=some b:=by
  intro l;induction l with
  |nil=>simp
  |cons a l z=>
   intro m s b h y;refine z _ s b ?_ λc x=>y c (AN _ x);rw[U8,if_neg (λe=>y a AE e.symm)];exact h
 intro l;induction l with
 |nil=>simp
 |cons b l z=>
  intro m A a w;have⟨h1,B⟩:=List.pairwise_cons.1 A;rcases A_.1 w with rfl|w
  .exact p l _ _ _ (by rw[U8,if_pos rfl]) λc x e=>by
    grind
  grind
abbrev A89:DK×DK×Int->DK×DK×Int->Bool:=λ(x y:DK×DK×Int)=>DP x.1 y.1&&(λ(x y:DK×Int)=>DP x.1 y.1&&DO x.2 y.2) x.2 y.2
def edM(sc:Int)(l:List GM):List ((DK×DK×Int)×Bool):=l.foldl (λm e=>if e.2.2<=sc then EB A89 (e.1,(e.2.1,(0:Int))) true m else m) []
def APD(q:J0)(l:List FZ)(d:l.length<=1099511627776)(m:List (DK×FZ))(X:List (DK×FU)×List (DK×Bool)×List ((DK×DK×Int)×Bool)):
 yK ((q,(m,X)),l,(l.length:Int),0)=some (q,l.foldl (λm a=>EB DP a.1 a m) m,X):=by
 refine pO (r:=lV) l (λm i=>((q,(m,X)),l,(l.length:Int),i)) (λm a=>EB DP a.1 a m) (λm=>(q,m,X)) d (λnext s i y h=>?_) (λnext s=>?_) m
 .have b:=(A5.1 h).1;unfold lV;dsimp only;rw[E0,A6 b,A7,ER h,A0,EU oa]
 simp_all[lV,E0,A9,AA,A8]
def APE(q:J0)(l:List FU)(d:l.length<=1099511627776)(m:List (DK×FU))(A:List (DK×FZ))(X:List (DK×Bool)×List ((DK×DK×Int)×Bool)):
 yL ((q,(A,(m,X))),l,(l.length:Int),0)=some (q,A,l.foldl (λm a=>EB DP a.1 a m) m,X):=by
 refine pO (r:=lW) l (λm i=>((q,(A,(m,X))),l,(l.length:Int),i)) (λm a=>EB DP a.1 a m) (λm=>(q,A,m,X)) d (λnext s i y h=>?_) (λnext s=>?_) m
 .have b:=(A5.1 h).1;unfold lW;dsimp only;rw[E0,A6 b,A7,ER h,A0,EU oa]
 simp_all[lW,E0,A9,AA,A8]
def APF(q:J0)(l:List GM)(b:l.length<=1099511627776)(A:List (DK×FZ))(C:List (DK×FU))(R:List (DK×Bool)):
 yM (q,(q,(A,(C,(R,[])))),l,(l.length:Int),0)=some (q,q,A,C,R,edM q.2.1 l):=by
 refine pO (r:=lX) l (λm i=>(q,(q,(A,(C,(R,m)))),l,(l.length:Int),i)) (λm e=>if e.2.2<=q.2.1 then EB A89 (e.1,(e.2.1,(0:Int))) true m else m) (λm=>(q,q,A,C,R,m)) b (λnext s i y h=>?_) (λnext s=>?_) []
 .have a:=(A5.1 h).1;unfold lX;dsimp only;rw[E0,A6 a,A7,ER h,A0,EU oa];grind
 simp_all[lX,E0,A9,AA,A8]
def APG(p:J0)(D:PrB p)(d:PrOk p):∃A C R N,(∀l,l_ (GY p l)=some (some (GY p l,A,C,R,N)))/\(∀a∈p.2.2.1.2.1,DU DP a.1 A=some a)/\∀c∈p.1.2.2.2.1,DU DP c.1 C=some c:=by
 have J:=d.bs.2.1;have L:=d.bl.few;have M:=d.bl.edges
 have key:∃R,∀(q:J0) (A:List (DK×FZ)) (C:List (DK×FU)) (N:List ((DK×DK×Int)×Bool)),q.2.2.2.1=p.2.2.2.1->q.2.2.2.2.1=p.2.2.2.2.1->q.2.2.2.2.2.1=p.2.2.2.2.2.1->
  (bif (DO (q.2.2.2.1.length:Int) (1:Int)) then
   (at? q.2.2.2.1 (0:Int)).bind λG=>(WA (G,q.2.2.2.2.1,q.2.2.2.2.2.1)).bind λj=>
   (lZ ((q,(A,(C,(([]:List (DK×Bool)),N)))),j.1,(j.1.length:Int),(0:Int))).bind λb=>some (some (b.1,(b.2.1,(b.2.2.1,(b.2.2.2.1,b.2.2.2.2)))))
  else some (some (q,(A,(C,(([]:List (DK×Bool)),N))))))=some (some (q,A,C,R,N)):=by
  by_cases h1:(p.2.2.2.1.length:Int)=1
  .obtain⟨y,T,E⟩:=L8 (l:=p.2.2.2.1) (i:=0) (AS _) oa;have⟨r,O,Q⟩:=A84 (D.gr y (AJ E)) p.2.2.2.2.1 D.f0 D.f1;refine⟨r.1.foldl (λm s=>EB DP s true m) [],λq A C N e w x=>?_⟩;rw[e,w,x,DR,A6 h1,A7,T,A0,O,A0];have:=pO (r:=lY) (σ:=List (DK×Bool)) r.1 (λm i=>((q,(A,(C,(m,N)))),r.1,(r.1.length:Int),i)) (λm s=>EB DP s true m) (λm=>(q,(A,(C,(m,N))))) oa (λnext s i y h=>?_) (λnext s=>?_) []
   .simp_all[lZ,A0]
   .have B:=(A5.1 h).1;unfold lY;dsimp only;rw[E0,A6 B,A7,ER h,A0,EU oa]
   simp_all[lY,E0,A9,AA,A8]
  .refine⟨[],λq A C N e _ _=>?_⟩;rw[e,DR,A9 h1,A8]
 obtain⟨R,H⟩:=key
 refine ⟨p.2.2.1.2.1.foldl (λm a=>EB DP a.1 a m) [],p.1.2.2.2.1.foldl (λm c=>EB DP c.1 c m) [],R,
  edM p.2.1 p.1.2.2.2.2,λl=>?_,λa I=>?_,λc K=>?_⟩
 .unfold l_;have e:=APD (GY p l) p.2.2.1.2.1 oa [] ([],[],[]);have w:=APE (GY p l) p.1.2.2.2.1 oa [] (p.2.2.1.2.1.foldl (λm a=>EB DP a.1 a m) []) ([],[]);have x:=APF (GY p l) p.1.2.2.2.2 oa (p.2.2.1.2.1.foldl (λm a=>EB DP a.1 a m) []) (p.1.2.2.2.1.foldl (λm c=>EB DP c.1 c m) []) [];refine(congrArg (λz=>Option.bind z _) e).trans ((congrArg (λz=>Option.bind z _) w).trans ((congrArg (λz=>Option.bind z _) x).trans ?_));exact H (GY p l) _ _ _ rfl rfl rfl
 .exact A88 (λa:FZ=>a.1) _ [] (AO6 d.bs) a I
 .exact A88 (λc:FU=>c.1) _ [] d.bl.asc c K
noncomputable def cS(l:List DK)(v:DK):Bool:=(NX (l,v)).getD false
theorem A0S(l:List DK)(v:DK)(a:l.length<=1048576):NX (l,v)=some (cS l v):=by
 have⟨r,h,_⟩:=pA (l,v) a;grind[cS]
noncomputable def SH(name:DK)(a:FZ)(c:FU)(x:FQ):Bool:=
 (DP x.1 a.1||cS a.2.1 x.1)&&((DP x.2.1 []||DP x.2.1 name)&&((aO (x.2.2.1,c.2.1)).getD (false,0)).1)
def APH(s:O5)(x:FQ)(a:FZ)(c:FU)(b:a.2.1.length<=1048576)(h:c.2.1.2.2.2.2.1.length<=1048576):mP (some s,x,a,c)=some (SH s.1.1.1 a c x):=by
 have⟨r,d⟩:=AOJ x.2.2.1 c.2.1 h;grind[mP,SH,A0S,DP,cS]
theorem A8A(x y:FQ):((((DP x.1 y.1)&&((DP x.2.1 y.2.1)&&((DP x.2.2.1 y.2.2.1)&&((DO x.2.2.2.1 y.2.2.2.1)&&((DO x.2.2.2.2.1 y.2.2.2.2.1)&&((DO x.2.2.2.2.2.1 y.2.2.2.2.2.1)&&(DO x.2.2.2.2.2.2 y.2.2.2.2.2.2)))))))||(decide (y.2.2.2.2.2.2<x.2.2.2.2.2.2)))||((DO x.2.2.2.2.2.2 y.2.2.2.2.2.2)&&(decide (y.2.2.2.2.2.1<=x.2.2.2.2.2.1))))=true<->ML y x:=by
 unfold ML;simp only[D_,DR,BZ,A4,BH];omega
def API(s:O5)(a:FZ)(c:FU)(A:a.2.1.length<=1048576)(C:c.2.1.2.2.2.2.1.length<=1048576)(G:s.1.2.2.2.2.2.2.length<=1048576):Tot (mR (some s,a,c)) (λb=>JK s.1.2.2.2.2.2.2 (SH s.1.1.1 a c) b):=by
 unfold mR;dsimp only;rw[A0];refine DL.2 (Tot.mono (P:=λb=>JK s.1.2.2.2.2.2.2 (SH s.1.1.1 a c) b) ?_ λb l=>DM.2 l);refine E_ (r:=mQ) (σ:=Int) s.1.2.2.2.2.2.2.length (λb i=>(some s,a,c,b,s.1.2.2.2.2.2.2,(s.1.2.2.2.2.2.2.length:Int),i)) (λi b=>JK (s.1.2.2.2.2.2.2.take i) (SH s.1.1.1 a c) b) oa (λnext b i hi j p=>?_) (λnext b j=>?_) (-1) (AP4 _)
 .unfold mQ;dsimp only;have e:=A1 hi;rw[E0,A6 hi,A7,ER e,A0,EU oa,APH s _ a c A C,A0];rw[GX e]at p;generalize s.1.2.2.2.2.2.2[i]=x at e p ⊢;have w:(s.1.2.2.2.2.2.2.take i).length=i:=by rw[BQ];omega
  refine DN.2 ⟨λh=>p b (A81 j (by simpa using h)),λh=>?_⟩;have z:SH s.1.1.1 a c x=true:=by simpa using h
  refine DN.2 ⟨λl=>?_,λl=>?_⟩
  .have:=A82 j z (.inl (AC l));grind
  .have l:=AK l;rw[A0]
   obtain⟨k,y,rfl,d,D,E⟩:∃(k:Nat) (y:FQ),b=(k:Int)/\(s.1.2.2.2.2.2.2.take i)[k]?=some y/\True/\True:=by
    rcases j with⟨rfl,_⟩|⟨k,y,rfl,h1,_⟩<;>grind
   have m:s.1.2.2.2.2.2.2[k]?=some y:=by
    rw[B3]at d;split at d
    .exact d
    .cases d
   rw[ER m,A0];refine DN.2 ⟨λh=>?_,λh=>p _ (AP6 j d λB=>?_)⟩
   .have:=A82 j z (.inr ⟨k,y,rfl,d,(A8A x y).1 h⟩);grind
   grind[A8A]
 simp_all[mQ,E0,A9,AA,A8,AX,DM]
noncomputable def UB(fs:List DK)(ref:DK)(f:ND):Bool:=DP f.2.1 ref&&(DO (fs.length:Int) 0||cS fs f.1)
def A8B(s:Option O5)(h:ID)(a:FZ)(c:FU)(pa:List DK)(k:Int)(w:List DK){x:Af}(b:a.2.2.2.2.2.2[h.2.2.toNat]?=some x)(h0:0<=h.2.2):WC (s,h,a,c,pa,k,w)=some x.2.2.2.2:=by
 unfold WC;dsimp only;have e:h.2.2=((h.2.2.toNat:Nat):Int):=oa
 rw[e,ER b,A0]
def APJ(s:Option O5)(h:ID)(a:FZ)(c:FU)(pa:List DK)(k:Int)(d:List DK){x:Af}(C:a.2.2.2.2.2.2[h.2.2.toNat]?=some x)(h0:0<=h.2.2)(y:x.2.2.2.2.length<=1048576)(fs:List ND)(z:d.length+fs.length<=1099511627776):
 yZ (h,(s,(h,(a,(c,(pa,(k,d)))))),fs,(fs.length:Int),0)=some (h,s,h,a,c,pa,k,d++(fs.filter (UB x.2.2.2.2 h.2.1)).map (·.1)):=by
 have key:=E_ (r:=mS) (σ:=List DK) (Q:=λq=>q=(h,s,h,a,c,pa,k,d++(fs.filter (UB x.2.2.2.2 h.2.1)).map (·.1))) fs.length (λw i=>(h,(s,(h,(a,(c,(pa,(k,w)))))),fs,(fs.length:Int),i))
  (λi w=>w=d++((fs.take i).filter (UB x.2.2.2.2 h.2.1)).map (·.1)) oa (λnext w i hi l e=>?_) (λnext w l=>?_) d oh
 .exact LX key
 .unfold mS;dsimp only;have b:=A1 hi;have p:=A8B s h a c pa k w C h0
  have B:w.length<=d.length+i:=by
   rw[l,AG,AY];have:=CT (UB x.2.2.2.2 h.2.1) (fs.take i);rw[BQ]at this;omega
  rw[E0,A6 hi,A7,ER b,A0,EU oa,p];rw[GX b,List.filter_append,DJ,<-CF,<-l]at e;generalize fs[i]=f at b e ⊢;have j:UB x.2.2.2.2 h.2.1 f=(DP f.2.1 h.2.1&&(DO (x.2.2.2.2.length:Int) 0||cS x.2.2.2.2 f.1)):=rfl;cases A:DP f.2.1 h.2.1 with
  |false=>
   grind
  |true=>
   rw[A7,A0,BV];rw[A,BV]at j;cases D:DO (x.2.2.2.2.length:Int) 0 with
   |true=>
    rw[C9,A8,A0,A8,A0,Bool.true_or,BV,A7];refine DL.2 (F4.2 ⟨oc,e _ ?_⟩);grind
   |false=>
    rw[CY,A7,A0,A7,A0S _ _ y,A0,CA,BV];rw[D,CA]at j;refine DN.2 ⟨λm=>DL.2 (F4.2 ⟨oc,e _ ?_⟩),λm=>e _ ?_⟩
    .simp[j,m]
    .simp[j,m]
 simp_all[mS,E0,A9,AA,A8,AX,DM]
noncomputable def O7(fs:List DK)(ref:DK)(gs:List JJ):List DK:=gs.flatMap λg=>(g.2.2.1.filter (UB fs ref)).map (·.1)
def APK(s:Option O5)(h:ID)(a:FZ)(c:FU)(pa:List DK)(k:Int){x:Af}(A:a.2.2.2.2.2.2[h.2.2.toNat]?=some x)(h0:0<=h.2.2)(j:x.2.2.2.2.length<=1048576)(b:List JJ)(y:b.length<=1)(m:∀g∈b,g.2.2.1.length<=1048576):
 y_ (h,(s,(h,(a,(c,(pa,(k,([]:List DK))))))),b,(b.length:Int),0)=some (s,h,a,c,pa,k,O7 x.2.2.2.2 h.2.1 b):=by
 have key:=E_ (r:=mT) (σ:=List DK) (Q:=λq=>q=(s,h,a,c,pa,k,O7 x.2.2.2.2 h.2.1 b)) b.length (λw i=>(h,(s,(h,(a,(c,(pa,(k,w)))))),b,(b.length:Int),i))
  (λi w=>w=O7 x.2.2.2.2 h.2.1 (b.take i)/\w.length<=1048576*i) oa (λnext w i hi e z=>?_) (λnext w e=>?_) [] (by simp[O7])
 .exact LX key
 .unfold mT;dsimp only;have d:=A1 hi;have p:=m _ (AL hi);have l:=CT (UB x.2.2.2.2 h.2.1) (b[i]).2.2.1;rw[E0,A6 hi,A7,ER d,A0,EU oa,APJ s h a c pa k w A h0 j _ oa,A0];refine z _ ⟨?_,?_⟩
  .rw[GX d];unfold O7;rw[List.flatMap_append,<-O7,<-e.1];simp
  grind
 simp_all[mT,E0,A9,AA,A8,AX,DM]
def APL{fs:List DK}{ref:DK}{a:List JJ}{s:DK}(h:s∈O7 fs ref a):0<a.length:=by
 have⟨g,b,_⟩:=List.mem_flatMap.1 h;grind
def bV{m:W_}(k:Nat)(L:List (Int×Option (W_->Option Bool)))(i:Nat){st:Int}{F:W_->Option Bool}{b:Bool}(h:L[i]?=some (st,some F))(d:F m=some b)(hi:i<1000):
 DX S5 (k+1) (m,L,(L.length:Int),(i:Int))=bif b then some (.inr st)else DX S5 k (m,L,(L.length:Int),((i+1:Nat):Int)):=by
 show S5 (DX S5 k) _=_;generalize DX S5 k=next
 unfold S5;dsimp only;have a:=(A5.1 h).1;rw[E0,A6 a,A7,ER h,A0,EU oa];grind
def APM{m:W_}{d j l p s:Bool}(h1:mU m=some d)(w:aQ m=some j)(y:aS m=some l)(z:aT m=some p)(A:WD m=some s):
 aU m=some (bif d then 1 else bif j then 2 else bif l then 6 else bif p then 5 else bif s then 3 else 4):=by
 unfold aU z6;rw[A0];unfold z7;obtain⟨k,hk⟩:∃k,fuel=k+1+1+1+1+1+1:=⟨fuel-6,by rfl⟩;rw[hk];have bs:∀{x:Option Bool} {b:Bool},x=some b->(x.bind λr=>some r)=some b:=λh=>by rw[h];rfl
 generalize a:([((1:Int),(some (λx=>(mU x).bind λr=>some r))),((2:Int),(some (λx=>(aQ x).bind λr=>some r))),((6:Int),(some (λx=>(aS x).bind λr=>some r))),((5:Int),(some (λx=>(aT x).bind λr=>some r))),((3:Int),(some (λx=>(WD x).bind λr=>some r)))]:List (Int×Option (W_->Option Bool)))=L;have e:=bV (m:=m) (k+1+1+1+1+1) L 0 (by rw[<-a];rfl) (bs h1) oa;have B:=bV (m:=m) (k+1+1+1+1) L 1 (by rw[<-a];rfl) (bs w) oa;have C:=bV (m:=m) (k+1+1+1) L 2 (by rw[<-a];rfl) (bs y) oa;have D:=bV (m:=m) (k+1+1) L 3 (by rw[<-a];rfl) (bs z) oa;have E:=bV (m:=m) (k+1) L 4 (by rw[<-a];rfl) (bs A) oa;have G:DX S5 (k+1) (m,L,(L.length:Int),((4+1:Nat):Int))=some (.inl ()):=by rw[<-a];rfl
 grind
def I7(l:List FQ)(k a b:Int):Bool:=bif decide (k<0)then false else match l[k.toNat]? with
 |some y=>DO y.2.2.2.1 a||DO y.2.2.2.1 b
 |none=>false
def A8C(s:O5)(h:ID)(a:FZ)(c:FU)(pa:List DK)(k:Int)(w:List DK)(x y:Int)(hk:k<s.1.2.2.2.2.2.2.length):aP ((some s,h,a,c,pa,k,w),x,y)=some (I7 s.1.2.2.2.2.2.2 k x y):=by
 unfold aP I7;dsimp only;by_cases e:k<0
 .grind
 .rw[A9 e,A8,A8,A0];have⟨z,d,b⟩:=L8 (l:=s.1.2.2.2.2.2.2) (i:=k) oa hk;grind
def JR(R:List (DK×Bool))(wk:List DK):DK:=(wk.find? λf=>(DU DP f R).getD false).getD []
theorem A8D(s:O5)(h:ID)(a:FZ)(c:FU)(pa:List DK)(k:Int)(w:List DK)(z:w.length<=1099511627776):aR (some s,h,a,c,pa,k,w)=some (JR s.2.2.2.1 w):=by
 unfold aR;dsimp only;generalize l:((some s,h,a,c,pa,k,w):W_)=m
 have key:=E_ (r:=mV) (σ:=Unit) (Q:=λq:Sum Unit DK=>match q with| .inl _=>w.find? (λf=>(DU DP f s.2.2.2.1).getD false)=none| .inr y=>w.find? (λf=>(DU DP f s.2.2.2.1).getD false)=some y) w.length (λ_ i=>(m,w,(w.length:Int),i))
  (λi _=>(w.take i).find? (λf=>(DU DP f s.2.2.2.1).getD false)=none) oa (λnext _ i hi d p=>?_) (λnext _ d=>?_) () oh
 .refine LX (DL.2 (key.mono λq x=>?_));grind[JR,DM]
 .unfold mV;dsimp only;have b:=A1 hi;rw[E0,A6 hi,A7,ER b,A0,EU oa];have j:m.1=some s:=by rw[<-l]
  rw[j,A0];refine DN.2 ⟨λe=>DM.2 ?_,λe=>p () ?_⟩
  .have:w=w.take i++(w[i]::w.drop (i+1)):=by rw[<-BN hi,List.take_append_drop]
   grind
  .rw[GX b,List.find?_append,d,List.find?_cons,e];rfl
 simp_all[mV,E0,A9,AA,A8,AX,DM]
def APN{R:List (DK×Bool)}{w:List DK}(h:JR R w≠[]):JR R w∈w:=by
 unfold JR at h ⊢;cases e:w.find? λf=>(DU DP f R).getD false<;>grind
def APO(p:J0)(H:PrB p)(ho:PrOk p)(A:List (DK×FZ))(C:List (DK×FU))(R:List (DK×Bool))(N:List ((DK×DK×Int)×Bool))(h:ID)(a:FZ)(c:FU)(pa d:List DK){x:Af}(Z:a.2.2.2.2.2.2[h.2.2.toNat]?=some x)(h0:0<=h.2.2)
 (K:d.length<=1099511627776)(J:∀f∈d,0<p.2.2.2.1.length):
 ∃F:Bool->Bool->Int×Int×DK×List WZ,(∀B z,(F B z).2.2.2.length<=1/\∀w∈(F B z).2.2.2,w.2.1.length<=3000/\w.2.2.length<=3000)/\∀(l:List FQ) (k:Int),k<l.length->S7 (some (GY p l,A,C,R,N),h,a,c,pa,k,d)=
  some (h.1,h.2.1,h.2.2,(F (I7 l k 3 4) (I7 l k 2 2)).1,(F (I7 l k 3 4) (I7 l k 2 2)).2.1,pa,(F (I7 l k 3 4) (I7 l k 2 2)).2.2.1,(F (I7 l k 3 4) (I7 l k 2 2)).2.2.2,k):=by
 obtain⟨O,I⟩:∃O,∀(s:Option O5) (k:Int),mW (s,h,a,c,pa,k,d)=some O:=by
  have⟨r,Q,_⟩:=A7R.1 a.2.2.2.2.2.1 trivial;refine⟨bif DP a.2.2.2.2.2.1 []then 100 else r.1,λs k=>?_⟩;grind[mW,DP]
 obtain⟨m,E⟩:∃m,∀(l:List FQ) (k:Int),WD (some (GY p l,A,C,R,N),h,a,c,pa,k,d)=some m:=by
  refine⟨(DO (p.2.2.2.1.length:Int) 1&&decide ((0:Int)<(d.length:Int)))&&decide (((bif (DO (p.2.2.2.1.length:Int) 1&&decide ((0:Int)<(d.length:Int)))then x.2.2.2.2 else []).length:Int)<=(d.length:Int)),λl k=>?_⟩;unfold WD;dsimp only;rw[A0,A8B _ h a c pa k d Z h0,show(GY p l).2.2.2.1=p.2.2.2.1 from rfl];grind
 have j:∀(l:List FQ) (k:Int),k<l.length->aU (some (GY p l,A,C,R,N),h,a,c,pa,k,d)=some (bif DO (pa.length:Int) 0 then 1 else bif I7 l k 3 4 then 2 else bif !(DP (JR R d) [])then 6 else bif I7 l k 2 2 then 5 else bif m then 3 else 4):=λl k hk=>by
  refine APM rfl ?_ ?_ ?_ (E l k)
  .unfold aQ;rw[A8C _ h a c pa k d 3 4 hk];rfl
  .grind[aS,A8D]
  .unfold aT;rw[A8C _ h a c pa k d 2 2 hk];rfl
 obtain⟨D,Y,L⟩:∃D:WZ,(D.2.1.length<=3000/\D.2.2.length<=3000)/\(DP (JR R d) []=false->∃y b e,at? p.2.2.2.1 (0:Int)=some y/\aX (y,p.2.2.2.2.1,p.2.2.2.2.2.1,JR R d)=some (D,b,e)):=by
  cases e:DP (JR R d) []with
  |true=>exact⟨([],[],[]),⟨oh,oh⟩,λh=>oq⟩
  |false=>
   have G:JR R d≠[]:=by rw[D_]at e;simpa using e
   have V:=J _ (APN G);have⟨y,T,M⟩:=L8 (l:=p.2.2.2.1) (i:=0) (AS _) oa;have⟨⟨D,b,e⟩,Q,W⟩:=AP8 (H.gr y (AJ M)) p.2.2.2.2.1 H.f0 H.f1 (JR R d);grind
 refine ⟨λB z=>(bif DO (pa.length:Int) 0 then 1 else bif B then 2 else bif !(DP (JR R d) []) then 6 else bif z then 5 else bif m then 3 else 4,O,
  bif DO (bif DO (pa.length:Int) 0 then 1 else bif B then 2 else bif !(DP (JR R d) [])then 6 else bif z then 5 else bif m then 3 else 4) 6 then JR R d else [],
  bif DO (bif DO (pa.length:Int) 0 then 1 else bif B then 2 else bif !(DP (JR R d) [])then 6 else bif z then 5 else bif m then 3 else 4) 6 then [D]else []),λB z=>?_,λl k hk=>?_⟩
 .grind
 unfold S7;rw[j l k hk,A0,I,A0];dsimp only;generalize X:(bif DO (pa.length:Int) 0 then(1:Int)else bif I7 l k 3 4 then 2 else bif !(DP (JR R d) [])then 6 else bif I7 l k 2 2 then 5 else bif m then 3 else 4)=st;cases U:DO st 6 with
 |false=>rfl
 |true=>
  have hz:DP (JR R d) []=false:=by
   cases hq:DP (JR R d) []with
   |false=>rfl
   |true=>
    exfalso;rw[DR]at U;grind
  have⟨y,b,e,T,Q⟩:=L hz;rw[A7,A8D _ h a c pa k d K,A0,A0,show(GY p l).2.2.2.1=p.2.2.2.1 from rfl,T,A0,A0,A0,show(GY p l).2.2.2.2.1=p.2.2.2.2.1 from rfl,show(GY p l).2.2.2.2.2.1=p.2.2.2.2.2.1 from rfl];grind
abbrev X0:=(FQ->Bool)×(Bool->Bool->Int×Int×DK×List WZ)×List DK
def J1(h:ID)(d:X0)(l:List FQ)(k:Int):O6:=
 (h.1,h.2.1,h.2.2,(d.2.1 (I7 l k 3 4) (I7 l k 2 2)).1,(d.2.1 (I7 l k 3 4) (I7 l k 2 2)).2.1,d.2.2,(d.2.1 (I7 l k 3 4) (I7 l k 2 2)).2.2.1,(d.2.1 (I7 l k 3 4) (I7 l k 2 2)).2.2.2,k)
def pP(f:O6):Prop:=f.2.2.2.2.2.1.length<=1048576/\f.2.2.2.2.2.2.2.1.length<=1/\∀w∈f.2.2.2.2.2.2.2.1,w.2.1.length<=3000/\w.2.2.length<=3000
def A8E{l:List FQ}{ab:FQ->Bool}{b:Int}(h:JK l ab b):-1<=b/\b<(l.length:Int):=by
 rcases h with⟨rfl,_⟩|⟨k,y,rfl,h1,_⟩<;>grind
def pQ(p:J0)(h:ID)(d:X0):Prop:=(∃a∈p.2.2.1.2.1,a.1=h.1)/\∀a∈p.2.2.1.2.1,a.1=h.1->∀x,d.1 x=true->DP x.1 a.1=true\/cS a.2.1 x.1=true
section
variable{p:J0}(hp:PrB p)(ho:PrOk p)
include hp ho
theorem APP{A:List (DK×FZ)}{C:List (DK×FU)}{R:List (DK×Bool)}{N:List ((DK×DK×Int)×Bool)}(y:∀a∈p.2.2.1.2.1,DU DP a.1 A=some a)(U:∀c∈p.1.2.2.2.1,DU DP c.1 C=some c){h:ID}(Y:UA p.2.2.1.2.1 p.1.2.2.2.1 h):
 ∃d:X0,((∀l k,pP (J1 h d l k))/\pQ p h d)/\∀l:List FQ,l.length<=1048576->∃k,JK l d.1 k/\((S4 (some (GY p l,A,C,R,N),h)).bind λr5=>S7 r5)=some (J1 h d l k):=by
 obtain⟨a,s,w,_,i0,i1,c,L,T⟩:=Y;obtain⟨x,b⟩:∃x,a.2.2.2.2.2.2[h.2.2.toNat]?=some x:=⟨_,A1 oa⟩;have e:=hp.bs a s;have G:=e.2.2.2.2.2.2 x (AJ b);have⟨pr,D,M⟩:=AOy p.1 hp.bl h.2.1 p.2.1;have j:∀g∈p.2.2.2.1,g.2.2.1.length<=1048576:=λg X=>(hp.gr g X).f0
 have E:(O7 x.2.2.2.2 h.2.1 p.2.2.2.1).length<=1099511627776:=by
  have h1:=ho.gr;unfold O7;generalize p.2.2.2.1=J at h1 j;cases J with
  |nil=>simp
  |cons g J=>
   grind
 have⟨F,z,V⟩:=APO p hp ho A C R N h a c pr.1 (O7 x.2.2.2.2 h.2.1 p.2.2.2.1) b i0 E λf W=>APL W;refine⟨(SH p.1.1 a c,F,pr.1),⟨λl k=>⟨by show pr.1.length<=_;omega,z _ _⟩,⟨a,s,w⟩,λO B Q x b=>?_⟩,λl Z=>?_⟩
 .have h1:=y a s;have K:=y O B;rw[w]at h1;rw[Q,h1]at K;cases K;simp only[SH,A4,BZ]at b;exact b.1
 have⟨k,hk,m⟩:=API (GY p l,A,C,R,N) a c e.2.1 (hp.bl.c c L).2.1 Z;refine⟨k,m,?_⟩
 have hm:S4 (some (GY p l,A,C,R,N),h)=some (some (GY p l,A,C,R,N),h,a,c,pr.1,k,O7 x.2.2.2.2 h.2.1 p.2.2.2.1):=by
  have H:=y a s;have I:=U c L;rw[w]at H;rw[T]at I;unfold S4;dsimp only
  rw [A0,A0,A0,A0,H,I,D1,D1,show (GY p l).1=p.1 from rfl,show (GY p l).2.1=p.2.1 from rfl,D,A0,hk,A0,A0,show (GY p l).2.2.2.1=p.2.2.2.1 from rfl,
   APK _ h a c pr.1 k b i0 G.2.2.2.2.2.1 p.2.2.2.1 ho.gr j,A0]
 rw[hm,A0];exact V l k (A8E m).2
end
def bW(l:List FQ):Prop:=l.length<=2000/\∀s∈l,(s.1.length<=1048576/\s.2.1.length<=1048576)/\N_ s=some 0
def APQ(p:J0)(x:PrB p):Tot (OT p) (λr=>r.2.2≠0\/(bW p.2.2.2.2.2.2/\∃(a:List ID) (D:ID->X0),a.length<=100000/\(∀h∈a,(∀l k,pP (J1 h (D h) l k))/\pQ p h (D h))/\∀l,bW l->∃(K:ID->Int) (s:Option O5),(∀h∈a,JK l (D h).1 (K h))/\OT (GY p l)=some (s,a.map λh=>J1 h (D h) l (K h),0))):=by
 have⟨e,Q,T⟩:=A87 p x;by_cases hz:e=0
 .subst hz;have⟨W,h2⟩:=T rfl;have⟨q,hq,X,Y⟩:=AP2 x.bs x.bl x.bv;by_cases j:q.2=0
  .obtain⟨_,_,w⟩:=Y j;have⟨A,C,R,N,Z,hA,hC⟩:=APG p x W;have H:∀h∈q.1,∃d:X0,((∀l k,pP (J1 h d l k))/\pQ p h d)/\∀l:List FQ,l.length<=1048576->∃k,JK l d.1 k/\((S4 (some (GY p l,A,C,R,N),h)).bind λG=>S7 G)=some (J1 h d l k):=λh b=>APP x W hA hC (w h b)
   have L:∃D:ID->X0,∀h∈q.1,((∀l k,pP (J1 h (D h) l k))/\pQ p h (D h))/\∀l:List FQ,l.length<=1048576->∃k,JK l (D h).1 k/\((S4 (some (GY p l,A,C,R,N),h)).bind λG=>S7 G)=some (J1 h (D h) l k):=by
    classical
    refine⟨λh=>if b:h∈q.1 then Classical.choose (H h b)else(λ_=>false,λ_ _=>(0,0,[],[]),[]),λh b=>?_⟩;grind
   obtain⟨D,H⟩:=L
   have all:∀l,bW l->∃(K:ID->Int) (s:Option O5),(∀h∈q.1,JK l (D h).1 (K h))/\OT (GY p l)=some (s,q.1.map λh=>J1 h (D h) l (K h),0):=λl J=>by
    have I:∃K:ID->Int,∀h∈q.1,JK l (D h).1 (K h)/\((S4 (some (GY p l,A,C,R,N),h)).bind λG=>S7 G)=some (J1 h (D h) l (K h)):=by
     classical
     have h0:=λh b=>(H h b).2 l (by have:=J.1;omega);refine⟨λh=>if b:h∈q.1 then Classical.choose (h0 h b)else 0,λh b=>?_⟩;grind
    obtain⟨K,I⟩:=I;refine⟨K,some (GY p l,A,C,R,N),λh b=>(I h b).1,?_⟩;have O:=APC Q J.1 (λs y=>(J.2 s y).1) λs y=>(J.2 s y).2;unfold OT;rw[O,A0,show(!(DO (0:Int) 0))=false from rfl,A8,show aL ((GY p l).2.2.1,(GY p l).1)=some q from hq,A0,show(!(DO q.2 0))=false from by rw[j];rfl,A8,Z l,A0];have key:=E_ (r:=nK) (σ:=List O6) (Q:=λr=>r=q.1.map λh=>J1 h (D h) l (K h)) q.1.length (λo i=>(some (GY p l,A,C,R,N),o,q.1,(q.1.length:Int),i)) (λi o=>o=(q.1.take i).map λh=>J1 h (D h) l (K h)) oa (λnext o i hi M hn=>?_) (λnext o M=>?_) [] oh
    .refine LX (DL.2 (key.mono λr hr=>DM.2 (by rw[hr])))
    .unfold nK;dsimp only;have z:=A1 hi;have E:=(I _ (AL hi)).2;rw[E0,A6 hi,A7,ER z,A0,EU oa];have h3:o.length=i:=by rw[M,AY,BQ];omega
     have⟨m,U,V⟩:=MJ E;rw[U,A0,V,A0];refine DL.2 (F4.2 ⟨oc,hn _ ?_⟩);rw[GX z,DJ,<-M];rfl
    simp_all[nK,E0,A9,AA,A8,AX,DM]
   have B:bW p.2.2.2.2.2.2:=⟨W.st,λs y=>⟨x.s1 s y,h2 s y⟩⟩;have⟨K,s,_,hf⟩:=all _ B;exact⟨_,hf,.inr ⟨B,q.1,D,X,λh b=>(H h b).1,all⟩⟩
  .refine⟨(none,[],q.2),?_,.inl j⟩;unfold OT;rw[Q,A0,show(!(DO (0:Int) 0))=false from rfl,A8,hq,A0,show(!(DO q.2 0))=true from by rw[DR];simp[j],A7]
 .refine⟨(none,[],e),?_,.inl hz⟩;unfold OT;rw[Q,A0,show(!(DO e 0))=true from by rw[DR];simp[hz],A7]
abbrev L_:GM->GM->Bool:=λx y=>DP x.1 y.1&&(λ(x y:(List UInt8)×Int)=>DP x.1 y.1&&DO x.2 y.2) x.2 y.2
def A8F(x y:GM):L_ x y=decide (x=y):=by
 unfold L_;dsimp only;rw[D_,D_,DR,Bool.eq_iff_iff];simp[Prod.ext_iff]
abbrev QO(f:O6):GM:=(f.1,f.2.1,f.2.2.1)
def SI(k:GM)(l:List O6):Int:=l.foldl (λa f=>if k=QO f then f.2.2.2.1 else a) 0
theorem APR(k:GM)(l:List O6)(f:O6):SI k (l++[f])=if k=QO f then f.2.2.2.1 else SI k l:=by
 simp[SI]
def APS{a:Type}(k:GM)(v:a)(m:List (GM×a)):(EB L_ k v m).length<=m.length+1:=by
 have:=congrArg List.length (pJ A8F k v m);rw[AY]at this;grind
def A8G(l:List O6)(j:l.length<=100000):Tot (aZ l) (λr=>r.1.length<=100000/\(r.2=true->∀k,(DU L_ k r.1).getD 0=SI k l)):=by
 unfold aZ;have key:=E_ (r:=nO) (σ:=List (GM×Int)) (Q:=λq=>match q with| .inl m=>m.length<=100000/\∀k,(DU L_ k m).getD 0=SI k l| .inr y=>y=([],false)) l.length (λm i=>(m,l,(l.length:Int),i)) (λi m=>m.length<=i/\∀k,(DU L_ k m).getD 0=SI k (l.take i)) oa (λnext m i hi b e=>?_) (λnext m b=>?_) [] ⟨AD _,λk=>rfl⟩
 .refine DL.2 (key.mono λq d=>?_);rcases q with q|q
  .exact DM.2 ⟨d.1,λ_=>d.2⟩
  .subst d;exact DM.2 ⟨AQ _,λh=>oq⟩
 .unfold nO;dsimp only;have a:=A1 hi;rw[E0,A6 hi,A7,ER a,A0,EU oa];unfold nN;rw[A0];refine DN.2 ⟨λ_=>DM.2 rfl,λ_=>e _ ⟨AM (APS _ _ _) oa,λk=>?_⟩⟩;have:=b.2 k;rw[GX a,APR,pG A8F];split<;>grind
 .unfold nO;dsimp only;rw[E0,A9 (AA _),A8];rw[AX]at b;exact DM.2 ⟨oa,b.2⟩
def APT(l:List O6):Tot (nM l) (λ_=>True):=by
 unfold nM;refine DN.2 ⟨λ_=>DM.2 trivial,λh=>?_⟩;have h:=AK h;refine DL.2 ((E_ (r:=nL) (σ:=Unit) (Q:=λ_=>True) l.length (λ_ i=>(l,(l.length:Int),i)) (λ_ _=>True) oa (λnext _ i hi _ a=>?_) (λnext _ _=>?_) () trivial).mono λq _=>?_)
 .unfold nL;dsimp only;rw[E0,A6 hi,A7,ER (A1 hi),A0,EU oa];refine DL.2 (Tot.mono (P:=λ_=>True) ?_ λr _=>DN.2 ⟨λ_=>DM.2 trivial,λ_=>a () trivial⟩);unfold zJ;exact DN.2 ⟨λ_=>DM.2 trivial,λ_=>DN.2 ⟨λ_=>DM.2 trivial,λ_=>DM.2 trivial⟩⟩
 .unfold nL;dsimp only;rw[E0,A9 (AA _),A8];exact DM.2 trivial
 .cases q<;>exact DM.2 trivial
def APU:∀(o:List (GM×Int)) (ks:List GM),ks.length+o.length<=1000000->EY TZ o ks=some (.inl (ks++o.map (·.1))):=by
 intro o;induction o with
 |nil=>intro ks _;simp[EY]
 |cons e o a=>
  intro ks h
  have h1:TZ e ks=some (.inl (ks++[e.1])):=by
   unfold TZ;exact LX (DL.2 (F4.2 ⟨oc,DM.2 rfl⟩))
  unfold EY;rw[h1];show EY TZ o (ks++[e.1])=_;rw[a _ oc];simp
def APV(m:List (GM×Int)):∀(o:List (GM×Int)) (ks:List GM),ks.length+o.length<=1000000->EY OU o (m,ks)=some (.inl (m,ks++(o.filter λe=>DO ((DU L_ e.1 m).getD 0) 0).map (·.1))):=by
 intro o;induction o with
 |nil=>intro ks _;simp[EY]
 |cons e o b=>
  intro ks h;cases a:DO ((DU L_ e.1 m).getD 0) 0 with
  |true=>
   have h1:OU e (m,ks)=some (.inl (m,ks++[e.1])):=by
    unfold OU;dsimp only;rw[show DO ((DU _ e.1 m).getD 0) 0=true from a,A7];exact LX (DL.2 (F4.2 ⟨oc,DM.2 rfl⟩))
   unfold EY;rw[h1];show EY OU o (m,ks++[e.1])=_;rw[b _ oc];simp[List.filter_cons,a]
  |false=>
   have h1:OU e (m,ks)=some (.inl (m,ks)):=by
    unfold OU;dsimp only;rw[show DO ((DU _ e.1 m).getD 0) 0=false from a,A8]
   unfold EY;rw[h1];show EY OU o (m,ks)=_;rw[b _ oc];simp[List.filter_cons,a]
noncomputable abbrev oK:GM×GM->Option Int:=λx=>(zK x).bind λr=>some r
def APW(xs:List GM):∃r:List GM,r.Perm xs/\∀y,y.Perm xs->fM (y,oK)=some r:=by
 have key:∀z:List GM,Tot (MA z oK) (λr=>r.Perm z/\r.Pairwise λa b=>¬KB b a):=λz=>
  A7Y z _ KB (λa b=>by
   have⟨c,h1,d⟩:=A7a a b;exact⟨c,by show(VP (a,b)).bind _=_;rw[h1];rfl,d⟩) A7Z A7_ AO1
 have⟨r,h1,d,m⟩:=key xs;refine⟨r,d,λy p=>?_⟩;have⟨x,e,j,l⟩:=key y
 have:x=r:=List.Perm.eq_of_pairwise (le:=λa b=>¬ KB b a) (λa b _ _ s w=>by
  rcases A0H a b with h|h|h
  .exact absurd h w
  .exact h
  .exact absurd h s) l m (j.trans (p.trans d.symm))
 rw[<-this];exact e
abbrev X6:=DK×DK×Int×Int×Int
def APX(m n:List (GM×Int))(r:List GM)(e:r.length<=1000000):Tot (zL (m,n,([]:List X6),r,(r.length:Int),0)) (λo=>o.length<=1000000/\∀x∈o,(DU L_ (x.1,x.2.1,x.2.2.1) m).getD 0≠(DU L_ (x.1,x.2.1,x.2.2.1) n).getD 0):=by
 refine E_ (r:=nQ) (σ:=List X6) r.length (λo i=>(m,n,o,r,(r.length:Int),i)) (λi o=>o.length<=i/\∀x∈o,(DU L_ (x.1,x.2.1,x.2.2.1) m).getD 0≠(DU L_ (x.1,x.2.1,x.2.2.1) n).getD 0) oa (λnext o i hi b d=>?_) (λnext o b=>?_) [] ⟨AD _,λx h=>oq⟩
 .unfold nQ;dsimp only;rw[E0,A6 hi,A7,ANa hi,A0,EU oa];generalize r.getD ((i:Int).toNat) _=k;refine DN.2 ⟨λh=>DL.2 (F4.2 ⟨oc,d _ ⟨oc,λx a=>?_⟩⟩),λ_=>d _ ⟨oa,b.2⟩⟩;rcases AV.1 a with a|a
  .exact b.2 x a
  .cases AP.1 a;rw[DR]at h;simpa using h
 .unfold nQ;dsimp only;rw[E0,A9 (AA _),A8];exact DM.2 ⟨oa,b.2⟩
def APY(a b:List O6)(z:a.length<=100000)(A:b.length<=100000):Tot (a_ (a,b)) (λr=>r.1.length<=1000000/\(r.2=0->∀x∈r.1,SI (x.1,x.2.1,x.2.2.1) a≠SI (x.1,x.2.1,x.2.2.1) b)):=by
 unfold a_;dsimp only;refine DL.2 ((E_ (r:=nP) (σ:=Unit) (Q:=λq=>match q with| .inl _=>True| .inr y=>y.1=[]/\y.2≠0) [a,b].length (λ_ i=>([a,b],([a,b].length:Int),i)) (λ_ _=>True) oh (λnext _ i hi _ C=>?_) (λnext _ _=>?_) () trivial).mono λq E=>?_)
 .unfold nP;dsimp only;rw[E0,A6 hi,A7,ER (A1 hi),A0,EU (by simp at hi;omega)];refine DL.2 ((APT _).mono λr _=>DN.2 ⟨λh=>DM.2 ⟨rfl,?_⟩,λ_=>C () trivial⟩);rw[DR]at h;simpa using h
 .unfold nP;dsimp only;rw[E0,A9 (AA _),A8];exact DM.2 trivial
 rcases q with q|q
 .dsimp only;have⟨s,H,s1,M⟩:=A8G a z;have⟨t,I,t1,N⟩:=A8G b A;rw[H,A0,I,A0];refine DN.2 ⟨λ_=>DM.2 ⟨AQ _,λh=>oq⟩,λh=>?_⟩;rw[BK,Bool.not_eq_false',Bool.not_eq_false']at h;have⟨r,G,j⟩:=APW (s.1.map (·.1)++(t.1.filter λe=>DO ((DU L_ e.1 s.1).getD 0) 0).map (·.1));have B:=CT (λe=>DO ((DU L_ e.1 s.1).getD 0) 0) t.1
  have d:r.length<=1000000:=by
   have:=G.length_eq;rw[AG,AY,AY]at this;omega
  have⟨o,D,K,L⟩:=APX s.1 t.1 r d;refine⟨(o,0),cQ ⟨s.1,.refl _⟩ λp l=>?_,K,λ_ x J=>?_⟩
  .have O:=l.length_eq;rw[APU p [] ot,A0];refine cQ ⟨t.1,.refl _⟩ λu m=>?_;have Q:=m.length_eq;rw[APV s.1 u _ ot,A0];dsimp only
   rw [show fM (_,_)=some r from j _ (by
    rw[CN];exact(l.map _).append ((m.filter _).map _)),A0,D]
   rfl
  .have:=L x J;rw[M h.1,N h.2]at this;exact this
 .obtain⟨h1,w⟩:=E;exact DM.2 ⟨by rw[h1];exact AQ _,λh=>absurd h w⟩
theorem APZ:nR ()=some true:=oe
def AP_(k:GM)(f g:ID->O6):∀(b:List ID),(∀h∈b,QO (f h)=QO (g h)/\(k=QO (f h)->(f h).2.2.2.1=(g h).2.2.2.1))->∀z,(b.map f).foldl (λa f=>if k=QO f then f.2.2.2.1 else a) z=(b.map g).foldl (λa f=>if k=QO f then f.2.2.2.1 else a) z:=by
 intro b;induction b with
 |nil=>intro _ z;rfl
 |cons h r l=>
  intro d z;have⟨h1,m⟩:=d h oh;rw[C6,C6,List.foldl_cons,List.foldl_cons,<-h1];by_cases e:k=QO (f h)
  .rw[if_pos e,if_pos e,m e];exact l (λx j=>d x (by simp[j])) _
  .rw[if_neg e,if_neg e];exact l (λx j=>d x (by simp[j])) _
def A8H{l:List FQ}{s:FQ}{k a b:Int}(h:k<l.length):I7 (l++[s]) k a b=I7 l k a b:=by
 unfold I7;by_cases e:k<0
 .rw[A6 e,A7,A7]
 .rw[A9 e,A8,A8,B9 oa]
def APa(l:List FZ)(k:DK)(s:l.length<=1048576)(x:X6)(m:x.1=k):Tot (nT (l,(λy=>(bA (y,(some x))).bind λr=>some r))) (λr=>(r= -1/\∀a∈l,a.1≠k)\/∃i:Nat,r=(i:Int)/\∃a,l[i]?=some a/\a.1=k):=by
 unfold nT;dsimp only;refine DL.2 ((E_ (r:=nS) (σ:=Unit) (Q:=λq=>match q with| .inl _=>∀a∈l,a.1≠k| .inr r=>∃i:Nat,r=(i:Int)/\∃a,l[i]?=some a/\a.1=k) l.length (λ_ i=>(l,(λy=>(bA (y,(some x))).bind λr=>some r),(l.length:Int),i)) (λi _=>∀a∈l.take i,a.1≠k) oa (λnext _ i hi d p=>?_) (λnext _ d=>?_) () oh).mono λq j=>?_)
 .unfold nS;dsimp only;have b:=A1 hi;rw[E0,A6 hi,A7,ER b,A0,EU oa];unfold bA;dsimp only;rw[A0,A0,A0];refine DN.2 ⟨λh=>DM.2 ⟨i,rfl,_,b,?_⟩,λh=>p () λa e=>?_⟩
  .rw[D_]at h;simpa[m]using h
  .rw[GX b,AV,AP]at e;rcases e with e|rfl
   .exact d a e
   .rw[D_]at h;simpa[m]using h
 .unfold nS;dsimp only;rw[E0,A9 (AA _),A8];rw[AX]at d;exact DM.2 d
 .rcases q with q|q
  .exact DM.2 (.inl ⟨rfl,j⟩)
  .exact DM.2 (.inr j)
def APb(l:List X6)(h:l.length<=1000000):nV (l,l)=some true:=by
 have d:∀a:DK,DP a a=true:=λa=>by rw[D_];simp
 have e:∀a:Int,DO a a=true:=λa=>by rw[DR];simp
 unfold nV;dsimp only;rw[e,C9,A8];refine LX (DL.2 ((E_ (r:=nU) (σ:=Unit) (Q:=λq=>q=.inl ()) l.length (λ_ i=>(l,l,(l.length:Int),i)) (λ_ _=>True) oa (λnext _ i hi _ j=>?_) (λnext _ _=>?_) () trivial).mono λq m=>by subst m;exact DM.2 rfl))
 .unfold nU;dsimp only;have b:=ER (A1 hi);rw[E0,A6 hi,A7,b,A0,A0,EU oa,d,d,e,e,e];exact j () trivial
 .unfold nU;dsimp only;rw[E0,A9 (AA _),A8];exact DM.2 rfl
def APc(p:J0)(s:FQ)(hp:PrB p)(h1:s.1.length<=1048576)(h2:s.2.1.length<=1048576):nX (p,s)=some true:=by
 have⟨e,T,x2⟩:=A87 p hp;have⟨c,Q⟩:=A85 s h1 h2;have⟨r,hr,A⟩:=APQ p hp;have hF:N9 p=some (r.2.1,r.2.2):=by unfold N9;rw[hr,A0]
 unfold nX;dsimp only;rw[APZ]
 have b:∀x:List X6×Int,OV (p,s)=some x->x.2≠0->∀F:List X6×Int->Option Bool,((OV (p,s)).bind λr1=>bif (!(DO r1.2 (0:Int)))then(some true).bind λr2=>some r2 else F r1)=some true:=λx hm j F=>by
  rw[hm,A0,show(!(DO x.2 0))=true from by rw[DR];simp[j],A7];rfl
 have l:(!(DO (0:Int) 0))=false:=rfl;by_cases Z:e=0
 rotate_left
 .exact b ([],e) (by unfold OV;dsimp only;rw[T,A0,show(!(DO e 0))=true from by rw[DR];simp[Z],A7]) Z _
 subst Z;by_cases B:c=0
 rotate_left
 .exact b ([],c) (by unfold OV;dsimp only;rw[T,A0,l,A8,Q,A0,show(!(DO c 0))=true from by rw[DR];simp[B],A7]) B _
 subst B;by_cases hn:(2000:Int)<=(p.2.2.2.2.2.2.length:Int)
 .exact b ([],3) (by unfold OV;dsimp only;rw[T,A0,l,A8,Q,A0,l,A8,A6 hn,A7]) oi _
 by_cases E:r.2.2=0
 rotate_left
 .exact b ([],r.2.2) (by unfold OV;dsimp only;rw[T,A0,l,A8,Q,A0,l,A8,A9 hn,A8,hF,A0,show(!(DO r.2.2 0))=true from by rw[DR];simp[E],A7]) E _
 have⟨X,d,D,x5,h4,w⟩:=A.resolve_left (λh=>h E);have⟨K,sc,hK,x3⟩:=w _ X
 have Y:bW (p.2.2.2.2.2.2++[s]):=⟨by rw [AG]; simp; omega,λx j=>by
  rcases AV.1 j with j|j
  .exact X.2 x j
  .cases AP.1 j;exact⟨⟨h1,h2⟩,Q⟩⟩
 have⟨K',y0,h5,U⟩:=w _ Y
 have L:N9 p=some (d.map λh=>J1 h (D h) p.2.2.2.2.2.2 (K h),0):=by
  unfold N9;rw[show OT p=_ from x3,A0]
 have M:N9 (p.1,(p.2.1,(p.2.2.1,(p.2.2.2.1,(p.2.2.2.2.1,(p.2.2.2.2.2.1,p.2.2.2.2.2.2++[s]))))))=some (d.map λh=>J1 h (D h) (p.2.2.2.2.2.2++[s]) (K' h),0):=by
  unfold N9;rw[show OT (p.1,(p.2.1,(p.2.2.1,(p.2.2.2.1,(p.2.2.2.2.1,(p.2.2.2.2.2.1,p.2.2.2.2.2.2++[s]))))))=_ from U,A0]
 have R:aY p.2.2.2.2.2.2=some p.2.2.2.2.2.2:=by
  unfold aY zI;refine LX (DL.2 (F4.2 ⟨oc,DM.2 (CN _)⟩))
 have y:app? 168 p.2.2.2.2.2.2 [s]=some (p.2.2.2.2.2.2++[s]):=LX (F4.2 ⟨oc,rfl⟩);have⟨q,hq,q1,q2⟩:=APY (d.map λh=>J1 h (D h) p.2.2.2.2.2.2 (K h)) (d.map λh=>J1 h (D h) (p.2.2.2.2.2.2++[s]) (K' h)) (by rw[AY];omega) (by rw[AY];omega)
 have hM:OV (p,s)=some (q.1,q.2):=by
  unfold OV;dsimp only;rw[T,A0,l,A8,Q,A0,l,A8,A9 hn,A8,L,A0];dsimp only;rw[l,A8,R,A0,y,A0,M,A0];dsimp only;rw[l,A8,hq,A0]
 by_cases m:q.2=0
 rotate_left
 .exact b _ hM m _
 have h3:∀x∈q.1,(∃a∈p.2.2.1.2.1,a.1=x.1)/\∀a∈p.2.2.1.2.1,a.1=x.1->DP s.1 x.1=true\/cS a.2.1 s.1=true:=λx j=>by
  have x4:=q2 m x j
  obtain⟨h,I,hk,hd⟩:∃h∈d,(x.1,x.2.1,x.2.2.1)=QO (J1 h (D h) p.2.2.2.2.2.2 (K h))/\(J1 h (D h) p.2.2.2.2.2.2 (K h)).2.2.2.1≠(J1 h (D h) (p.2.2.2.2.2.2++[s]) (K' h)).2.2.2.1:=
   BI λC=>x4 (AP_ _ (λh=>J1 h (D h) p.2.2.2.2.2.2 (K h)) (λh=>J1 h (D h) (p.2.2.2.2.2.2++[s]) (K' h)) d (λh I=>⟨rfl,λhk=>BI λhd=>C ⟨h,I,hk,λe=>hd e⟩⟩) 0)
  have h7:(D h).1 s=true:=by
   cases hb:(D h).1 s with
   |true=>rfl
   |false=>
    have hu:=AP7 (h5 h I) (A81 (hK h I) hb);have V:=(A8E (hK h I)).2;refine absurd ?_ hd;show((D h).2.1 _ _).1=((D h).2.1 _ _).1;rw[hu,A8H V,A8H V]
  have e1:x.1=h.1:=congrArg (·.1) hk;have⟨⟨a,H,G⟩,hs⟩:=(h4 h I).2;exact⟨⟨a,H,G.trans e1.symm⟩,λa H G=>by rw[<-G];exact hs a H (G.trans e1) s h7⟩
 rw[hM,A0];dsimp only;rw[m,l,A8,L,A0,R,A0,y,A0,M,A0];dsimp only;rw[hq,A0];have h9:p.2.2.1.2.1.length<=1048576:=AM (x2 rfl).1.bs.2.1 oi;refine LX (DL.2 ((E_ (r:=nW) (σ:=Unit) (Q:=λz=>z=.inl ()) q.1.length (λ_ i=>((p.1,(p.2.1,(p.2.2.1,(p.2.2.2.1,(p.2.2.2.2.1,(p.2.2.2.2.2.1,p.2.2.2.2.2.2++[s])))))),s,q.1,(q.1.length:Int),i)) (λ_ _=>True) oa (λnext _ i hi _ W=>?_) (λnext _ _=>?_) () trivial).mono λz Z=>?_))
 .unfold nW;dsimp only;have O:=A1 hi;have⟨⟨a0,h6,J⟩,hm⟩:=h3 _ (AL hi);rw[E0,A6 hi,A7,ER O,A0,EU oa];generalize q.1[i]=x at O J hm ⊢;have⟨n,j,x1⟩:=APa p.2.2.1.2.1 x.1 h9 x rfl;rw[j,A0];rcases x1 with⟨_,C⟩|⟨k,rfl,a,N,G⟩
  .exact absurd J (C a0 h6)
  have H:=AJ N;rw[A9 (show ¬(k:Int)<0 by omega),CY,BV,ER N];cases hb:DP s.1 x.1 with
  |true=>
   simp only[C9,A8,A0,CX,CA];exact W () trivial
  |false=>
   have x0:cS a.2.1 s.1=true:=(hm a H G).resolve_left (by rw[hb];simp);have h8:a.2.1.length<=1048576:=(hp.bs a H).2.1;simp only[CY,A7,A0,A0S _ _ h8,x0,C9,Bool.and_false,CA,A8];exact W () trivial
 .unfold nW;dsimp only;rw[E0,A9 (AA _),A8];exact DM.2 rfl
 .subst Z;dsimp only;rw[m,show DO (0:Int) 0=true from rfl,Bool.and_self,Bool.and_self,A7,APb _ q1,A0];exact DM.2 rfl
end Go.Ev.Pv
