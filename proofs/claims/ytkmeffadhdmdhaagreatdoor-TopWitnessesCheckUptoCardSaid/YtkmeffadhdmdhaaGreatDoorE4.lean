/-
  The evaluator's functions, second part: loops, branches, whole functions, loops over maps.
-/
import Derived.Test.YtkmeffadhdmdhaaGreatDoorE3
import Derived.Orders
import Derived.LoopN
import Derived.Scope
set_option linter.all false
set_option maxRecDepth 100000
namespace Go.Ev
variable{k n t j N i n0 id:Nat}{o:Oper}{ks bs wrs wrsB:KX Nat}{l:KX (XY×Code)}{E:Env}{a a':Act}{tk:KX (Nat×X5)}{g draw dr:X5}{s:Sh}{v:X2}{sl sl0:Nat->SV}{all ops:Array Oper}{dst:X1 Nat}{D:Nat->Prop}{K:Act->X4->Prop}{Q:Exit->Act->X4->Prop}{Ω α β:Type}{S S' ok:Nat->X5}{st:St}{cl:KX (KX Nat×KX Nat)}{σ σ0:W4}{c:Code}{e:Exit}{al:KX (Nat×Nat)}{fs:Nat->X1 Q2}{QJ:Kp}{outs:KX (Ex×Kp)}{f:FuncId}{rs:KX Sh}{cs:KX X2}{Z6:Array MapEntry}
variable [CB]
section
variable{P:Program}{fr:Fr}{free free':Nat->Prop}{self:Nat}{σ σ':W4}{w w':X4}{G G':Gh}{I:Im}
def Z2.swap(m:Z2 P fr free σ w G){o o':Obj}(hk:σ k=some o)(D:V1 P fr w G k o')(z:∀b,Bk G k o' b->Bk G k o b):
 Z2 P fr free (EK σ [(k,some o')]) w G:=by
 refine⟨λj p h=>?_,λi j A B y hi a d l=>?_,m.after,λj a=>?_⟩
 .rw[FU]at h;by_cases e:j=k
  .grind
  .rw[if_neg e]at h;exact m.objs j p h
 .rw[FU]at hi a;by_cases s:i=k<;>by_cases x:j=k
  .rw[s,x]
  .rw[if_pos s]at hi;rw[if_neg x]at a;cases hi;subst s;exact m.sep i j o B y hk a (z _ d) l
  .rw[if_neg s]at hi;rw[if_pos x]at a;cases a;subst x;exact m.sep i j A o y hi hk d (z _ l)
  .rw[if_neg s]at hi;rw[if_neg x]at a;exact m.sep i j A B y hi a d l
 .have C:=m.fresh j a;refine⟨?_,C.2⟩;rw[FU,if_neg (λe=>?_)]<;>grind
theorem Z2.freeze(m:Z2 P fr free σ w G){o o':Obj}(hk:σ k=some o){C:Nat->Prop}(y:∀b,C b->Bk G k o b)
 (M:PC w G w {G with im:=⟨λb a=>G.im.cell b a\/C b,G.im.obj⟩}->V1 P fr w {G with im:=⟨λb a=>G.im.cell b a\/C b,G.im.obj⟩} k o')(B:∀b,¬Bk {G with im:=⟨λb a=>G.im.cell b a\/C b,G.im.obj⟩} k o' b):
 ∃G',PC w G w G'/\Z2 P fr free (EK σ [(k,some o')]) w G':=by
 have l:PC w G w {G with im:=⟨λb a=>G.im.cell b a\/C b,G.im.obj⟩}:=⟨⟨λ_ _ h=>⟨.inl h,rfl⟩,λ_ h=>⟨h,rfl⟩⟩,λ_ _ _ h=>h,λ_ _ h=>h,λ_ _ h=>h⟩;refine⟨_,l,λj p h=>?_,λi j K L D hi s E H=>?_,?_,λj s=>?_⟩
 .rw[FU]at h;by_cases e:j=k
  .grind
  .rw[if_neg e]at h;exact(m.objs j p h).keep l λb B=>⟨rfl,λa x=>x.resolve_right λI=>e (m.sep j k p o b h hk B (y b I)),id⟩
 .rw[FU]at hi s;by_cases z:i=k<;>by_cases A:j=k
  .rw[z,A]
  .grind
  .grind
  .rw[if_neg z]at hi;rw[if_neg A]at s;exact m.sep i j K L D hi s (by assumption) (by assumption)
 .have d:=m.after;refine⟨d.ext.trans l.ext,d.heap,d.size,λb a h=>?_,d.newO,λb a h=>?_,d.inO,d.os,d.tape,d.output,d.pins.ext l.ext⟩
  .rcases h with h|h
   .exact d.newC b a h
   .exact .inr (TR (m.objs k o hk) (y b h))
  .rcases h with h|h
   .exact d.inC b a h
   .exact LW (m.objs k o hk) (y b h)
 .have J:=m.fresh j s;refine⟨?_,J.2⟩;rw[FU,if_neg (λe=>?_)]<;>grind
theorem AIK(B:Z2 P fr free σ w G){o:Obj}(hk:σ k=some o):∃G',PC w G w G'/\Z2 P fr free (EK σ [(k,some (JG o))]) w G':=by
 have m:∀{C:Obj},σ k=some C->∃G',PC w G w G'/\Z2 P fr free (EK σ [(k,some C)]) w G':=λ{C} h=>⟨G,PC.refl _ _,B.swap h (B.objs k C h) λ_ h=>h⟩;have y:∀j,free j->j≠k/\free j/\G.ety j=none/\G.box j=none/\∀g,G.val j g=none:=by intro j J;have hf:=B.fresh j J;exact⟨λe=>(by subst e;rw[hf.1]at hk;cases hk),J,hf.2⟩
 cases o with
 |box t c wr=>
  cases wr with
  |false=>exact m hk
  |true=>
   have⟨b,cs,el,I,K,L,Q,N,O,q7,R⟩:=B.objs k _ hk;let G':Gh:={G with im:=⟨λA s=>G.im.cell A s\/(A=b/\s<t.sz),G.im.obj⟩}
   have d:PC w G w G':=⟨⟨λ_ _ h=>⟨.inl h,rfl⟩,λ_ h=>⟨h,rfl⟩⟩,λ_ _ _ h=>h,λ_ _ h=>h,λ_ _ h=>h⟩
   refine ⟨G',d,B.change (b:=b) d (λj C J l H=>J (B.sep j k C _ b l hk H (by simp [Bk,I]))) (λ_ _ _=>rfl) (AD _) (O7 K) R.1
    (λA s h=>h.imp id λh=>h.1) (λ_ h=>.inl h) rfl rfl rfl (λC l=>?_) y⟩
   cases l;exact⟨⟨b,cs,el,I,K,L,Q,N.mono d,⟨(λh=>om),λ_ s h=>.inr ⟨rfl,h⟩⟩,q7,R⟩,by intro A z;simp[Bk,JG,G',I]at z;exact .inl z.symm⟩
 |sl el t xs g wr=>
  cases wr with
  |false=>exact m hk
  |true=>
   have⟨h0,v,E,V⟩:=B.objs k _ hk;rcases V with⟨rfl,rfl⟩|⟨b,X,cs,rfl,I,K,L,Q,N,O,q7,R⟩
   .exact⟨G,PC.refl _ _,B.swap hk ⟨h0,_,E,.inl ⟨rfl,rfl⟩⟩ λb H=>by simp[JG,Bk,E]at H⟩
   .let G':Gh:={G with im:=⟨λA s=>G.im.cell A s\/(A=b/\s<xs.length*t.sz),G.im.obj⟩};have d:PC w G w G':=⟨⟨λ_ _ h=>⟨.inl h,rfl⟩,λ_ h=>⟨h,rfl⟩⟩,λ_ _ _ h=>h,λ_ _ h=>h,λ_ _ h=>h⟩
    refine ⟨G',d,B.change (b:=b) d (λj C J l H=>J (B.sep j k C _ b l hk H (by simp [Bk,E]))) (λ_ _ _=>rfl) (AD _) (K.lt) N
     (λA s h=>h.imp id λh=>h.1) (λ_ h=>.inl h) rfl rfl rfl (λC l=>?_) y⟩
    cases l;refine⟨⟨h0,_,E,.inr ⟨b,X,cs,rfl,I,K,L,λi x M=>(Q i x M).ext d.ext,N,(λh=>om),λ_ s=>⟨λh=>.inr ⟨rfl,h⟩,λh=>?_⟩,R⟩⟩,by intro A z;simp[Bk,JG,G',E]at z;exact .inl z.symm⟩;rcases h with h|h
    .exact absurd h (O rfl s)
    .exact h.2
 |mp a c T wr=>
  cases wr with
  |false=>exact m hk
  |true=>
   obtain⟨v,E,p,hp,b,Z6,D,rfl,I,K,L,Q,N,O⟩:=B.objs k _ hk;let G':Gh:={G with im:=⟨G.im.cell,λA=>G.im.obj A∨A=b⟩}
   have d:PC w G w G':=⟨⟨λ_ _ h=>⟨h,rfl⟩,λ_ h=>⟨.inl h,rfl⟩⟩,λ_ _ _ h=>h,λ_ _ h=>h,λ_ _ h=>h⟩
   refine ⟨G',d,B.change (b:=b) d (λj C J l H=>J (B.sep j k C _ b l hk H (by simp [Bk,E]))) (λ_ _ _=>rfl) (AD _) (O7 I) O
    (λA s h=>.inl h) (λA h=>h) rfl rfl rfl (λC l=>?_) y⟩
   cases l;exact⟨⟨_,E,p,hp,b,Z6,D,rfl,I,K,λi x e M W=>⟨(L i x e M W).1.ext d.ext,(L i x e M W).2.ext d.ext⟩,⟨(λh=>om),λ_=>.inr rfl⟩,N,O⟩,by intro A z;simp[Bk,JG,G',E]at z;exact .inl z.symm⟩
 |mg el a t T tk gk=>
  cases tk with
  |some q=>exact m hk
  |none=>
   obtain⟨v,us,E,V,b,Z6,D,rfl,I,K,L,Q,N,O,q7,R,q9⟩:=B.objs k _ hk;let G':Gh:={G with im:=⟨G.im.cell,λA=>G.im.obj A\/A=b⟩}
   have d:PC w G w G':=⟨⟨λ_ _ h=>⟨h,rfl⟩,λ_ h=>⟨.inl h,rfl⟩⟩,λ_ _ _ h=>h,λ_ _ h=>h,λ_ _ h=>h⟩
   refine ⟨G',d,B.change (b:=b) (o':=some (.mp a (.slice t) T false)) d (λj C J l H=>J (B.sep j k C _ b l hk H (.inl E))) (λ_ _ _=>rfl) (AD _) (O7 I) q9
    (λA s h=>.inl h) (λA h=>h) rfl rfl rfl (λC l=>?_) y⟩
   cases l;refine⟨⟨_,E,T,⟨.refl _,O⟩,b,Z6,D,rfl,I,K,λi x e M W=>?_,⟨(λh=>om),λ_=>.inr rfl⟩,R,q9⟩,by intro A z;simp[Bk,G',E]at z;exact .inl z.symm⟩;have Y:i<T.length:=(A3.1 M).1;have⟨k1,U⟩:=Q i x e _ M W (A1 (by rw[L];exact Y));refine⟨k1.ext d.ext,?_⟩;rcases U with⟨U,_⟩|⟨U,_⟩
   .cases U
   .exact⟨_,rfl,Rel.ext d.ext (VW U)⟩
 |dp Z t x gk h wr=>
  cases h with
  |some p=>exact m hk
  |none=>
   cases wr with
   |false=>exact m hk
   |true=>
    cases Z with
    |nil=>exact absurd (B.objs k _ hk) id
    |cons id r=>
     have⟨_,_,v,us,bs,E,V,h3,h4,h5⟩:=RA.inv (B.objs k _ hk)
     exact B.freeze (o':=.dp (id::r) t x gk none false) hk (C:=(·∈bs)) (λb H=>⟨rfl,us,V,(N1 h3).2 H⟩)
      (λd=>⟨v,E,h5.rel d.ext λb H s=>.inr H⟩) (λb H=>by cases H.1)
 |it a b T=>exact m hk
theorem AIL(o:Obj):JG (JG o)=JG o:=by
 cases o with
 |mg id k t e tk a=>cases tk<;>rfl
 |dp b t x a h wr=>cases h<;>rfl
 |_=>rfl
def uK:∀{fz:KX (Nat×X1 Obj)} {G:Gh},Z2 P fr free σ w G->(∀p∈fz,∃o,σ p.1=some o/\p.2=some (JG o))->∃G',PC w G w G'/\Z2 P fr free (EK σ fz) w G':=by
 intro fz;induction fz with
 |nil=>intro G m _;exact⟨G,PC.refl _ _,m⟩
 |cons p r K=>
  intro G m h;have⟨G1,H,I⟩:=K m λq d=>h q (AP _ d);obtain⟨k,x⟩:=p;have⟨o,s,z⟩:=h (k,x) AF;have z:x=some (JG o):=z;have s:σ k=some o:=s;subst z;have hk:∃a,EK σ r k=some a/\JG a=JG o:=by
   have:∀(r:KX (Nat×X1 Obj)),(∀p∈r,∃o,σ p.1=some o/\p.2=some (JG o))->∃a,EK σ r k=some a/\JG a=JG o:=by
    intro r;induction r with
    |nil=>intro _;exact⟨o,s,rfl⟩
    |cons q r B=>
     intro D;obtain⟨j,y⟩:=q;have⟨E,b,A⟩:=D (j,y) AF;have A:y=some (JG E):=A;have b:σ j=some E:=b;subst A;by_cases e:k=j
     .grind[JG,EK,Nat.beq_refl,AIL]
     .obtain⟨a,l,C⟩:=B λq d=>D q (AP _ d);refine⟨a,?_,C⟩;simp only[EK];rw[show Nat.beq k j=false by rw[<-B_];simp_all];exact l
   exact this r λq d=>h q (AP _ d)
  obtain⟨a,l,C⟩:=hk;have⟨G2,J,L⟩:=AIK I l;refine⟨G2,H.trans J,?_⟩;simp_all[EK,JG,GZ]
def uL:∀p∈N_ σ ks,∃o,σ p.1=some o/\p.2=some (JG o):=by
 induction ks with
 |nil=>intro p h;cases h
 |cons k r a=>intro p h;simp only[N_]at h;grind
def A3i(h:Z2 P fr free σ w G)(l:KX Sh)(vs:KX SV):∃G',PC w G w G'/\Z2 P fr free (dU σ l vs) w G':=uK h uL
def AIM{l:KX (Nat×X1 Obj)}(h:∀k o,σ' k=some o->σ k=some o):∀k o,EK σ' l k=some o->EK σ l k=some o:=by
 induction l with
 |nil=>exact h
 |cons p r a=>grind[EK,Nat.beq]
def AIN(T:WT P fr.dr E)(U:Z2 P fr free σ w G)(A:∀k o,σ' k=some o->σ k=some o)(b:∀k,self<=k->k<self+8->free k){ρ C B:Operand->SV}
 (M:(∀c x y,o.op≠.pick c x y)->∀x∈o.op.operands,SR P w G (ρ x) (a.eval x))
 (e:∀c x y,o.op=.pick c x y->SR P w G (ρ c) (a.eval c)/\(a.eval c=.bool true->SR P w G (C x) (a.eval x))/\(a.eval c=.bool false->SR P w G (B y) (a.eval y)))
 {r:Z8}{u:n_}(D:VQ E ρ C B σ' self o=some r)(N:Q4 r u):Q6 P fr.dr o a w (RD P fr free self σ w G u):=by
 unfold VQ at D;split at D
 .rename_i O K;cases D;have⟨G1,s,Q⟩:=uK (fz:=N_ σ' (eL E ρ σ' o)) U λp V=>let ⟨ob,H,I⟩:=uL p V;⟨ob,A _ _ H,I⟩
  have j:∃l,Q4 O l/\u=⟨l.sv,l.wr++N_ σ' (eL E ρ σ' o)⟩:=by
   cases O with
   |pure l=>exact⟨l,.pure l,N.PB⟩
   |may α m d f=>obtain⟨x,L,rfl⟩:=N.Q1;exact⟨f x,.may L,rfl⟩
  obtain⟨l,j,rfl⟩:=j;refine(AIJ T Q (AIM A) b (λh x L=>(M h x L).mono s) (λc x y h=>?_) K j).mono λv w' z=>?_
  .obtain⟨H,I,R⟩:=e c x y h;exact⟨H.mono s,λJ=>(I J).mono s,λJ=>(R J).mono s⟩
  .obtain⟨G',k1,W,X⟩:=z;exact⟨G',s.trans k1,by rw[GZ];exact W,X⟩
 .cases D
theorem AIO{k:IntKind}{n:Int}(h:dH k n=true):F_ k n:=by simp only[dH,A7,B3]at h;exact h
theorem SR.undef(v:X2):SR P w G .undef v:=⟨[v],rfl,trivial⟩
def A3j(v:X2):SR P w G (dI v) v:=by
 unfold dI;split
 .exact SR.W9 _
 .grind[dH,SR.R8,AIO,SR.undef]
 .rename_i s;cases h:Nat.ble s.data.toList.length 281474976710656 with
  |true=>exact SR.rF (CN h)
  |false=>exact SR.undef _
 .exact⟨_,rfl,rfl⟩
 .exact⟨_,rfl,rfl⟩
 .exact⟨_,rfl,rfl⟩
 .exact⟨_,rfl,rfl⟩
 .exact⟨_,rfl,rfl⟩
 .exact SR.undef _
def SR.l0{s:SV}(h:SR P w G (.grd tk g s) v):False:=by obtain⟨_,_,h⟩:=h;exact h
def SR.strip{s:SV}(h:SR P w G s v):SR P w G (s.strip tk) v:=by cases s<;>first|exact h|exact h.l0.elim
def SR.s7{s:SV}(h:SR P w G s v):PJ P w G a s v:=by cases s<;>first|exact h|exact h.l0.elim
def AIP{t:Nat×X5}:∀{tk:KX (Nat×X5)},YS t tk=true->t∈tk:=by
 intro tk;induction tk with
 |nil=>intro h;cases h
 |cons u r a=>intro h;simp only[YS,CD,A7]at h;grind[Nat.eq_of_beq_eq_true,Prod.ext,List.mem_cons_self,List.mem_cons_of_mem]
def PJ.strip{s:SV}(h:PJ P w G a s v)(hk:holds a tk):SR P w G (s.strip tk) v:=by
 cases s with
 |grd b g s=>
  simp only[SV.strip];cases d:b.all (YS · tk)with
  |false=>exact SR.undef _
  |true=>rw[BW]at d;exact(h.1 λt e=>hk t (AIP (d t e))).2
 |_=>exact h
def PJ.mono{s:SV}(h:PJ P w G a s v)(e:PC w G w' G')(b:∀tk g j,s=.grd tk g j->(holds a' tk<->holds a tk)):PJ P w' G' a' s v:=by
 cases s with
 |grd tk g s=>have b:=b tk g s rfl;exact⟨λd=>⟨(h.1 (b.1 d)).1,(h.1 (b.1 d)).2.mono e⟩,λd=>h.2 λhk=>d (b.2 hk)⟩
 |_=>exact SR.mono h e
def A3k{x:Operand}(h:∀t,x=.tmp t->PJ P w G a (sl t) (a.tmps.getD t undef))(hk:holds a tk):
 SR P w G ((GS sl x).strip tk) (a.eval x):=by
 cases x with
 |tmp t=>exact(h t rfl).strip hk
 |const v=>exact(A3j v).strip
 |func f=>exact⟨_,rfl,#[],rfl,rfl⟩
 |global g=>exact SR.undef _
def KY(all:Array Oper)(o:Oper):KX Nat:=match o.guard with
 |some (j,_)=>match all[j]? with
  |some p=>p.dst.toList
  |none=>[]
 |none=>[]
def fT(o:Oper):KX Nat:=o.op.operands.toList.filterMap λ| .tmp t=>some t|_=>none
def AIQ(h:Operand.tmp t∈o.op.operands):t∈fT o:=by unfold fT;rw[List.mem_filterMap];exact⟨.tmp t,by simpa using h,rfl⟩
theorem TT{b:X5}:holds a ((t,b)::tk)<->a.tmps.getD t undef=.bool b/\holds a tk:=by
 constructor
 .intro h;exact⟨h _ AF,λp d=>h p (AP _ d)⟩
 .intro h p d;rcases B1.1 d with rfl|d
  .exact h.1
  .exact h.2 p d
theorem TU(a:Act):holds a []:=λ_ h=>om
def AIR(b:X5):undef≠.bool b:=qu
def AIS{p:Oper}{b:X5}(d:o.guard=some (j,b))(e:all[j]?=some p)(l:p.dst=some t):
 Region.wanted o (yielded all a.tmps)=true<->a.tmps.getD t undef=.bool b:=by
 unfold Region.wanted yielded;simp only[d,e,A0,l];cases h:a.tmps[t]? with
 |none=>simp[h,undef]
 |some v=>
  have:a.tmps.getD t undef=v:=by simp[h]
  grind
def AIT(h:S0 all sl o=some (tk,g))
 (J:∀t∈KY all o,PJ P w G a (sl t) (a.tmps.getD t undef)):
 (Region.wanted o (yielded all a.tmps)=true<->holds a tk)/\(holds a tk->g=true)/\(o.guard=none->tk=[])/\
  ∀p∈tk,p.1∈KY all o\/∃t∈KY all o,∃e D K,sl t=.grd e D K/\p∈e:=by
 unfold S0 at h;split at h
 .rename_i m;simp only[AJ,D9]at h;obtain⟨rfl,rfl⟩:=h;exact⟨by simp[Region.wanted,m,TU],λ_=>rfl,λ_=>rfl,λp s=>by cases s⟩
 .rename_i j b m;split at h
  .rename_i p s;split at h
   .rename_i t E;have A:KY all o=[t]:=by simp[KY,m,s,E]
    have d:=J t (by rw[A];simp);have C:=AIS (a:=a) m s E;split at h
    .rename_i c y;simp only[AJ,D9]at h;obtain⟨rfl,rfl⟩:=h;rw[y]at d;have B:=SR.bool d;refine⟨by rw[C,TT];simp[TU],λz=>?_,λh=>(oc),λq I=>.inl ?_⟩
     .have:=(TT.1 z).1;rw[B]at this;cases this;cases b<;>rfl
     grind
    .rename_i e D c y;simp only[AJ,D9]at h;obtain⟨rfl,rfl⟩:=h;rw[y]at d;have key:a.tmps.getD t undef=.bool b->holds a e:=by intro l;apply BX;intro x;rw[d.2 x]at l;exact AIR _ l
     refine⟨?_,λz=>?_,λh=>(oc),λq I=>?_⟩
     .grind[TT]
     .obtain⟨l,x⟩:=TT.1 z;have⟨L,H⟩:=d.1 x;have B:=SR.bool H;rw[B]at l;cases l;grind
     grind
    .cases h
   .cases h
  .cases h
structure n9(P:Program)(N:Nat)(fr:Fr)(free D:Nat->Prop)(sl:Nat->SV)(σ:W4)(a:Act)(w:X4)(G:Gh):Prop where
 slots:∀t,PJ P w G a (sl t) (a.tmps.getD t undef)
 defs:a.defers=[]
 size:a.tmps.size=N
 fix:∀t v,fr.fx t=some v->a.tmps.getD t undef=v
 toks:∀t tk g s,sl t=.grd tk g s->tk≠[]/\∀p∈tk,D p.1
 mem:Z2 P fr free σ w G
 drawn:fr.dr=true->fr.w0.drawn<=w.drawn
def QB(b:a.tmps.size=N)(hd:∀d,dst=some d->d<N)(v:X2)(t:Nat):
 (a.put dst v).tmps.getD t undef=if dst=some t then v else a.tmps.getD t undef:=by
 cases dst with
 |none=>simp[Act.put]
 |some d=>have hd:=hd d rfl;by_cases h:d=t<;>simp_all[Act.put,Array.getElem?_setIfInBounds_ne]
theorem uM(a:Act)(dst:X1 Nat)(v:X2):(a.put dst v).defers=a.defers:=by cases dst<;>rfl
theorem fU(a:Act)(dst:X1 Nat)(v:X2):(a.put dst v).tmps.size=a.tmps.size:=by cases dst<;>simp[Act.put]
theorem S7(sl:Nat->SV)(dst:X1 Nat)(s:SV)(t:Nat):O3 sl dst s t=if dst=some t then s else sl t:=by
 cases dst with
 |none=>simp[O3]
 |some d=>
  simp only[O3];by_cases h:t=d
  .simp_all
  .have:Nat.beq t d=false:=by rw[<-B_];exact λa=>h (A5 a)
   grind
def AIU{p:Nat×X5}(h:S0 all sl o=some ([p],g))
 (D:∀t∈KY all o,PJ P w G a (sl t) (a.tmps.getD t undef))(B:∀t∈KY all o,∀tk g s,sl t=.grd tk g s->tk≠[])(A:g=true):holds a [p]:=by
 unfold S0 at h;split at h
 .cases h
 .rename_i j b x;split at h
  .rename_i q C;split at h
   .rename_i t E;have y:KY all o=[t]:=by simp[KY,x,C,E]
    have d:=D t (by rw[y];simp);split at h
    .rename_i c z;simp only[AJ,D9]at h;obtain⟨e,l⟩:=h;rw[z]at d;have H:=SR.bool d;have e:p=(t,b):=(AB.1 e).symm;subst e;refine TT.2 ⟨?_,TU a⟩;rw[H];rw[A]at l;cases b<;>cases m:c<;>rw[m]at l<;>first|rfl|cases l
    .grind
    .cases h
   .cases h
  .cases h
def AIV{u:n_}(h:calm tk u=true)(a:tk≠[]):u.wr=[]:=by
 cases tk with
 |nil=>grind
 |cons p r=>grind[calm]
def A3l(j:a.tmps.size=N)(hd:∀d,dst=some d->d<N)(h:∀p∈tk,dst≠some p.1):
 holds (a.put dst v) tk<->holds a tk:=by
 unfold holds;constructor
 .intro e p b;have:=e p b;rw[QB j hd,if_neg (h p b)]at this;exact this
 .intro e p b;rw[QB j hd,if_neg (h p b)];exact e p b
def A3m(hE:WT P fr.dr E)(ho:all[i]?=some o)
 (l:n9 P N fr free D sl σ a w G)(A:∀t,t∈fT o\/t∈KY all o->sl0 t=sl t)
 (h6:∀t∈KY all o,D t)(H:∀d,o.dst=some d->(d<N/\fr.fx d=none)/\¬D d)
 (hg:S0 all sl0 o=some (tk,g))
 (x2:∀k ob,σ' k=some ob->σ k=some ob)(L:∀k,self<=k->k<self+8->free k)
 {r:Z8} (hr:VQ E (λx=>(GS sl0 x).strip tk)
  (match o.op with| .pick c _ _=>λx=>(GS sl0 x).strip (S1 c true tk)|_=>λx=>(GS sl0 x).strip tk)
  (match o.op with| .pick c _ _=>λx=>(GS sl0 x).strip (S1 c false tk)|_=>λx=>(GS sl0 x).strip tk) σ' self o=some r)
 {u:n_}(hu:g=true->Q4 r u)(x3:tk=[]->Q4 r u)(j:calm tk u=true\/((∃p,tk=[p])/\(g=false->u.wr=[])))
 (hK:∀a' w' G',PC w G w' G'->n9 P N fr (JH free self) D (O3 sl o.dst (S4 tk g u.sv)) (EK σ u.wr) a' w' G'->K a' w'):
 wpOp P all Q i K a w:=by
 have R:∀t∈KY all o,PJ P w G a (sl0 t) (a.tmps.getD t undef):=λt M=>by rw[A t (.inr M)];exact l.slots t
 have⟨g1,g2,g3,g4⟩:=AIT hg R;have x0:∀p∈tk,D p.1:=by
  intro p W;rcases g4 p W with h|⟨t,M,b,z,C,h1,h2⟩
  .exact h6 _ h
  .rw[A t (.inr M)]at h1;exact(l.toks t b z C h1).2 p h2
 have B:∀d,o.dst=some d->d<N:=λd hd=>(H d hd).1.1;have U:∀{b:KX (Nat×X5)},(∀p∈b,D p.1)->∀p∈b,o.dst≠some p.1:=λh p W e=>(H _ e).2 (h p W)
 have h4:∀(v:X2) (w':X4) (G':Gh),PC w G w' G'->Z2 P fr (JH free self) (EK σ u.wr) w' G'->(fr.dr=true->w.drawn<=w'.drawn)->
  ((holds a tk->g=true/\SR P w' G' u.sv v)/\(¬holds a tk->v=Go.undef))->K (a.put o.dst v) w':=by
  intro v w' G' T hm O Y;refine hK _ w' G' T ⟨λt=>?_,?_,?_,?_,?_,hm,λh=>AM (l.drawn h) (O h)⟩
  .rw[S7,QB l.size B];by_cases h:o.dst=some t
   .rw[if_pos h,if_pos h];cases tk with
    |nil=>exact(Y.1 (TU a)).2.s7
    |cons p r=>have:=A3l (v:=v) l.size B (U x0);exact⟨λm=>Y.1 (this.1 m),λm=>Y.2 λhk=>m (this.2 hk)⟩
   .rw[if_neg h,if_neg h];refine(l.slots t).mono T λb z C h'=>?_;exact A3l l.size B (U (l.toks t b z C h').2)
  .rw[uM];exact l.defs
  .rw[fU];exact l.size
  .intro t v' h;rw[QB l.size B,if_neg (λe=>oc)];exact l.fix t v' h
  .intro t b z C h;rw[S7]at h;by_cases hd:o.dst=some t
   .rw[if_pos hd]at h;cases I:tk with
    |nil=>rw[I]at h Y;have h:u.sv=.grd b z C:=h;have:=(Y.1 (TU a)).2;rw[h]at this;exact this.l0.elim
    |cons q r=>rw[I]at h;have h:SV.grd (q::r) g u.sv=.grd b z C:=h;grind
   .rw[if_neg hd]at h;exact l.toks t b z C h
 unfold wpOp;simp only[ho];by_cases Z:Region.wanted o (yielded all a.tmps)=true
 .rw[if_pos Z];have m:=g1.1 Z;have h7:=g2 m;left;have hop:∀{b:KX (Nat×X5)},holds a b->∀x∈o.op.operands,SR P w G ((GS sl0 x).strip b) (a.eval x):=by intro b h8 x hx;refine A3k (λt M=>?_) h8;subst M;rw[A t (.inl (AIQ hx))];exact l.slots t
  have J:Q6 P fr.dr o a w (RD P fr free self σ w G u):=by
   refine AIN hE l.mem x2 L (λ_ x hx=>hop m x hx) ?_ hr (hu h7);intro c x y s;refine⟨hop m c (by simp[s,Op.operands]),λhc=>?_,λhc=>?_⟩
   .simp only[s];refine hop ?_ x (by simp[s,Op.operands]);cases c with
    |tmp t=>exact TT.2 ⟨hc,m⟩
    |_=>exact m
   .simp only[s];refine hop ?_ y (by simp[s,Op.operands]);cases c with
    |tmp t=>exact TT.2 ⟨hc,m⟩
    |_=>exact m
  refine J Q K λv w' X O=>?_;obtain⟨G',h1,h2,h3⟩:=X;grind
 .rw[if_neg Z];have V:¬holds a tk:=λh=>Z (g1.2 h);have h9:tk≠[]:=λe=>by grind[TU]
  have x1:u.wr=[]:=by
   rcases j with j|⟨⟨p,W⟩,j⟩
   .exact AIV j h9
   .refine j ?_;cases h5:g with
    |false=>rfl
    |true=>subst W;exact absurd (AIU hg R (λt M b z C h=>(l.toks t b z C ((A t (.inr M))▸h)).1) h5) V
  refine h4 Go.undef w G (PC.refl _ _) ?_ (λ_=>AD _) ⟨λh=>absurd h V,λ_=>rfl⟩;rw[x1];exact l.mem.shrink λ_ h=>h.1
def n9.draws(h:n9 P N fr free D sl σ a w G)(n:Nat)(j:w.drawn<=n):n9 P N fr free D sl σ a {w with drawn:=n} G:=by
 have d:PC w G {w with drawn:=n} G:=⟨⟨λ_ _ h=>⟨h,rfl⟩,λ_ h=>⟨h,rfl⟩⟩,λ_ _ _ h=>h,λ_ _ h=>h,λ_ _ h=>h⟩;refine⟨λt=>(h.slots t).mono d λ_ _ _ _=>Iff.rfl,h.defs,h.size,h.fix,h.toks,⟨λk o l=>?_,h.mem.sep,?_,h.mem.fresh⟩,λhd=>AM (h.drawn hd) j⟩
 .exact(h.mem.objs k o l).keep d λb _=>⟨rfl,λ_ h=>h,λh=>h⟩
 .exact ⟨⟨λb o e=>h.mem.after.ext.cell b o e,λb e=>h.mem.after.ext.obj b e⟩,h.mem.after.heap,h.mem.after.size,h.mem.after.newC,h.mem.after.newO,h.mem.after.inC,h.mem.after.inO,
   h.mem.after.os,h.mem.after.tape,h.mem.after.output,h.mem.after.pins.ext d.ext⟩
def uN(tk:KX (Nat×X5))(g:X5)(u:n_):Prop:=calm tk u=true\/((∃p,tk=[p])/\(g=false->u.wr=[]))
def A3n(h:VS tk=true):∃p,tk=[p]:=by unfold VS at h;grind
theorem AIW{r:Z8}{K:n_->X1 Ω}{ω:Ω}(h:tD tk g r K=some ω):
 ∃u,(g=true->Q4 r u)/\(tk=[]->Q4 r u)/\uN tk g u/\K u=some ω:=by
 unfold tD at h;split at h
 .rename_i u;cases hc:calm tk u with
  |false=>
   rw[hc]at h;simp only[A8]at h;cases ho:VS tk with
   |false=>grind
   |true=>
    rw[ho]at h;have hone:=A3n ho;simp only[A4]at h;cases g with
    |true=>exact⟨u,λ_=>.pure u,λ_=>.pure u,.inr ⟨hone,λh=>om⟩,h⟩
    |false=>exact⟨⟨eP u,[]⟩,λh=>(om),λh=>(oc),.inr ⟨hone,λ_=>rfl⟩,h⟩
  |true=>rw[hc]at h;exact⟨u,λ_=>.pure u,λ_=>.pure u,.inl hc,h⟩
 .rename_i α m d f;have⟨x,h1,h2⟩:=B8.1 h;cases hc:calm tk (f x)with
  |false=>
   rw[hc]at h2;simp only[A8]at h2;cases ho:VS tk with
   |false=>grind
   |true=>
    rw[ho]at h2;have hone:=A3n ho;simp only[A4]at h2;cases g with
    |true=>refine⟨f x,λ_=>.may ?_,λht=>(oc),.inr ⟨hone,λh=>om⟩,h2⟩;obtain⟨p,rfl⟩:=hone;exact h1
    |false=>exact⟨⟨eP (f x),[]⟩,λh=>(om),λh=>(oc),.inr ⟨hone,λ_=>rfl⟩,h2⟩
  |true=>
   rw[hc]at h2;refine⟨f x,λhg=>.may ?_,λht=>.may ?_,.inl hc,h2⟩
   .subst hg;cases tk with
    |nil=>exact h1
    |cons p r=>exact h1
   .subst ht;exact h1
structure n5(all:Array Oper):Prop where
 uniq:LA all=true->∀(i j:Nat) (o p:Oper) (d:Nat),i<j->all[i]?=some o->all[j]?=some p->o.dst=some d->p.dst≠some d
 back:LA all=true->∀(i:Nat) (o:Oper) (j:Nat) (b:X5),all[i]?=some o->o.guard=some (j,b)->j<i
theorem uO{b:X5}(a:all[i]?=some o)(h:o.guard=some (j,b)):LA all=true:=by grind[LA,List.any_eq_true,Array.mem_of_getElem?]
def DS(all:Array Oper)(S:Nat->X5):Nat->Prop:=λt=>LA all=true/\∃j o,S j=true/\all[j]?=some o/\o.dst=some t
def DS.mono(h:DS all S t)(a:∀j,S j=true->S' j=true):DS all S' t:=
 ⟨h.1,let ⟨j,o,h1,h2,h3⟩:=h.2;⟨j,o,a j h1,h2,h3⟩⟩
def A3o(h:t∈KY all o):∃j b p,o.guard=some (j,b)/\all[j]?=some p/\p.dst=some t:=by grind[KY]
def n9.weaken{D':Nat->Prop}(h:n9 P N fr free D sl σ a w G)(e:∀k,free' k->free k)(d:∀t,D t->D' t):n9 P N fr free' D' sl σ a w G:=
 ⟨h.slots,h.defs,h.size,h.fix,λt tk g s b=>⟨(h.toks t tk g s b).1,λp j=>d _ ((h.toks t tk g s b).2 p j)⟩,h.mem.shrink e,h.drawn⟩
def A3p{a:KX Oper}{K:St->KX (KX Nat×KX Nat)->X1 Ω}{ω:Ω}
 (h:PY E all draw n0 (o::a) i st cl K=some ω):
 ∃tk g r u,S0 all st.slots o=some (tk,g)/\
  VQ E (λx=>(GS st.slots x).strip tk)
   (match o.op with| .pick c _ _=>λx=>(GS st.slots x).strip (S1 c true tk)|_=>λx=>(GS st.slots x).strip tk)
   (match o.op with| .pick c _ _=>λx=>(GS st.slots x).strip (S1 c false tk)|_=>λx=>(GS st.slots x).strip tk)
   (seen all draw n0 i (VR (λx=>(GS st.slots x).strip tk) st.sto o.op) st.sto) (n0+8*i) o=some r/\
  (g=true->Q4 r u)/\(tk=[]->Q4 r u)/\uN tk g u/\
  TJ (seen all draw n0 i (VR (λx=>(GS st.slots x).strip tk) st.sto o.op) st.sto) (n0+8*i) u=true/\
  PY E all draw n0 a (i+1) {slots:=O3 st.slots o.dst (S4 tk g u.sv),sto:=EK st.sto u.wr,n:=st.n}
   ((u.far (n0+8*i),VR (λx=>(GS st.slots x).strip tk) st.sto o.op)::cl) K=some ω:=by
 grind[PY,AIW,TJ,seen,VR,GS]
def A3q(Z:WT P fr.dr E)(y:n5 all)(x:∀(j:Nat) o d,all[j]?=some o->o.dst=some d->d<N/\fr.fx d=none)
 {K:St->KX (KX Nat×KX Nat)->X1 Ω}{ω:Ω}:
 ∀(ops:KX Oper) (i:Nat) (st:St) (cl:KX (KX Nat×KX Nat)) (a:Act) (w:X4) (G:Gh),PY E all false n0 ops i st cl K=some ω->all.toList.drop i=ops->i+ops.length=all.size->
  n9 P N fr (λk=>n0+8*i<=k) (DS all (λj=>decide (j<i))) st.slots st.sto a w G->
  (∀s e a' w' G',n9 P N fr (λk=>n0+8*all.size<=k) (DS all (λj=>decide (j<all.size))) s.slots s.sto a' w' G'->s.n=st.n->K s e=some ω->Q .normal a' w')->
  wpOps P all Q (List.range' i ops.length) a w:=by
 intro ops;induction ops with
 |nil=>intro i st cl a w G h l C I B;simp only[C8,CG]at C;subst C;exact B st cl a w G I rfl h
 |cons o O ih=>
  intro i st cl a w G h l C I B;have⟨tk,g,r,u,R,T,U,V,W,h6,X⟩:=A3p h;have z:all[i]?=some o:=by have:=congrArg List.head? l;rw[List.head?_drop]at this;simpa using this
  simp only[BO,List.range'_succ];rw[wpOps_cons];refine A3m Z z (self:=n0+8*i) I (λt _=>rfl) ?_ ?_ R ?_ (λk hk _=>hk) T U V W ?_
  .intro t J;have⟨j,b,p,L,D,hd⟩:=A3o J;have A:=uO z L;exact⟨A,j,p,by simpa using y.back A i o j b z L,D,hd⟩
  .intro d hd;refine⟨x i o d z hd,λY=>?_⟩;obtain⟨A,j,p,M,D,H⟩:=Y;exact y.uniq A j i p o d (by simpa using M) D z H hd
  .intro k ob hk;exact hk
  .intro a' w' G' _ m;refine ih (i+1) _ _ a' w' G' X ?_ oc ?_ (λs e a' w' G' m hn hK=>B s e a' w' G' m hn hK)
   .have:=congrArg List.tail l;simpa[List.tail_drop]using this
   .refine m.weaken (λk hk=>⟨oa,?_⟩) λt J=>J.mono λj M=>oc;simp only[K0,DC];right;rw[<-B_,C2];omega
structure Info where
 tk:KX (Nat×X5)
 g:X5
 u:n_
 c:KX Nat×KX Nat
def GD(all:Array Oper)(L:Nat->Info)(S:Nat->X5)(sl0:Nat->SV):Nat->Nat->SV
 |0=>sl0
 |i+1=>bif S i then O3 (GD all L S sl0 i) (all.getD i default).dst (S4 (L i).tk (L i).g (L i).u.sv)else GD all L S sl0 i
def h_(L:Nat->Info)(S:Nat->X5)(σ0:W4):Nat->W4
 |0=>σ0
 |i+1=>bif S i then EK (h_ L S σ0 i) (L i).u.wr else h_ L S σ0 i
def N3(l:KX (Nat×X1 Obj)):KX Nat:=l.map (·.1)
theorem uP:∀{l:KX (Nat×X1 Obj)} {k:Nat},k ∉ N3 l->EK σ l k=σ k:=by
 intro l;induction l with
 |nil=>intro k _;rfl
 |cons p r a=>intro k h;obtain⟨j,o⟩:=p;simp only[N3,CT,B1,not_or]at h;simp only[EK];rw[show Nat.beq k j=false by rw[<-B_];simp_all];exact a h.2
theorem A3r{σ':W4}:∀{l:KX (Nat×X1 Obj)} {k:Nat},k∈N3 l->EK σ l k=EK σ' l k:=by
 intro l;induction l with
 |nil=>intro k h;cases h
 |cons p r a=>
  intro k h;obtain⟨j,o⟩:=p;simp only[EK];cases b:Nat.beq k j with
  |true=>rfl
  |false=>
   simp only[A8];refine a ?_;simp only[N3,CT,B1]at h;rcases h with rfl|h
   .simp_all
   .exact h
theorem fV{L:Nat->Info}:∀{n:Nat},(∀j,j<n->(all.getD j default).dst=some t->S j=S' j)->GD all L S sl0 n t=GD all L S' sl0 n t:=by
 intro n;induction n with
 |zero=>intro _;rfl
 |succ n a=>
  intro h;have a:=a λj d=>h j oa;have key:∀S,GD all L S sl0 (n+1) t=if S n=true/\(all.getD n default).dst=some t then S4 (L n).tk (L n).g (L n).u.sv else GD all L S sl0 n t:=by
   intro S;simp only[GD];cases b:S n with
   |false=>simp
   |true=>simp only[A4,S7,true_and]
  grind
theorem fW{L:Nat->Info}:∀{n:Nat},(∀j,j<n->k∈N3 (L j).u.wr->S j=S' j)->h_ L S σ0 n k=h_ L S' σ0 n k:=by
 intro n;induction n with
 |zero=>intro _;rfl
 |succ n a=>intro h;have a:=a λj b=>h j oa;simp only[h_];grind[hk,N3,A3r,EK,h_,uP]
def A3s{L:Nat->Info}:∀{n:Nat},i<=n->(∀j,j<i->S j=true)->(∀j,i<=j->j<n->S j=false)->GD all L S sl0 n=GD all L (λ_=>true) sl0 i:=by
 intro n;induction n with
 | zero => intro h _ _; have : i = 0 := by omega
           subst this;rfl
 |succ n ih=>
  intro hi h1 h2;by_cases h:i=n+1
  .grind[GD,fV]
  .simp only[GD,h2 n oa oa,A8];grind
def A3t{L:Nat->Info}:∀{n:Nat},i<=n->(∀j,j<i->S j=true)->(∀j,i<=j->j<n->S j=false)->h_ L S σ0 n=h_ L (λ_=>true) σ0 i:=by
 intro n;induction n with
 | zero => intro h _ _; have : i = 0 := by omega
           subst this;rfl
 |succ n ih=>
  intro hi h1 h2;by_cases h:i=n+1
  .grind[h_,fW]
  .simp only[h_,h2 n oa oa,A8];grind
def AIX{L:Nat->Info}(hi:S i=true)(hd:(all.getD i default).dst=some t):
 ∀{n:Nat},i<n->(∀j,i<j->j<n->(all.getD j default).dst=some t->S j=false)->GD all L S sl0 n t=S4 (L i).tk (L i).g (L i).u.sv:=by
 intro n;induction n with
 |zero=>intro h;omega
 |succ n a=>
  intro m h;simp only[GD];by_cases e:i=n
  .simp_all[A4,S7,if_true]
  .have a:=a oa λj b l=>h j b oa;by_cases d:(all.getD n default).dst=some t
   .grind
   .cases S n<;>simp_all[A4,S7,CE]
def AIY{L:Nat->Info}(hi:S i=true)(hd:k∈N3 (L i).u.wr):
 ∀{n:Nat},i<n->(∀j,i<j->j<n->k∈N3 (L j).u.wr->S j=false)->h_ L S σ0 n k=EK σ (L i).u.wr k:=by
 intro n;induction n with
 |zero=>intro h;omega
 |succ n b=>intro a h;simp only[h_];grind[A3r,N3,uP,trans]
def A3u{L L':Nat->Info}:∀{n:Nat},(∀j,j<n->L j=L' j)->GD all L S sl0 n=GD all L' S sl0 n:=by intro n;induction n<;>grind[GD]
def A3v{L L':Nat->Info}:∀{n:Nat},(∀j,j<n->L j=L' j)->h_ L S σ0 n=h_ L' S σ0 n:=by intro n;induction n<;>grind[h_]
structure Fact(E:Env)(all:Array Oper)(n0:Nat)(L:Nat->Info)(sl0:Nat->SV)(σ0:W4)(i:Nat)(o:Oper)(r:Z8):Prop where
 op:all[i]?=some o
 grd:S0 all (GD all L (λ_=>true) sl0 i) o=some ((L i).tk,(L i).g)
 val:VQ E (λx=>(GS (GD all L (λ_=>true) sl0 i) x).strip (L i).tk)
  (match o.op with| .pick c _ _=>λx=>(GS (GD all L (λ_=>true) sl0 i) x).strip (S1 c true (L i).tk)|_=>λx=>(GS (GD all L (λ_=>true) sl0 i) x).strip (L i).tk)
  (match o.op with| .pick c _ _=>λx=>(GS (GD all L (λ_=>true) sl0 i) x).strip (S1 c false (L i).tk)|_=>λx=>(GS (GD all L (λ_=>true) sl0 i) x).strip (L i).tk)
  (seen all true n0 i (L i).c.2 (h_ L (λ_=>true) σ0 i)) (n0+8*i) o=some r
 gives:(L i).g=true->Q4 r (L i).u
 gives':(L i).tk=[]->Q4 r (L i).u
 calm:uN (L i).tk (L i).g (L i).u
 wr:TJ (seen all true n0 i (L i).c.2 (h_ L (λ_=>true) σ0 i)) (n0+8*i) (L i).u=true
 cls:(L i).c.1=(L i).u.far (n0+8*i)
def Fact.congr{L L':Nat→Info}{sl0:Nat→SV}{σ0:Nat→X1 Obj}{r:Z8}
 (h:Fact E all n0 L sl0 σ0 i o r)(a:∀j,j<=i->L j=L' j):Fact E all n0 L' sl0 σ0 i o r:=by
 have b:=A3u (all:=all) (S:=λ_=>true) (sl0:=sl0) (n:=i) λj l=>a j oa;have d:=A3v (S:=λ_=>true) (σ0:=σ0) (n:=i) λj l=>a j oa;have e:=a i (AD _)
 exact ⟨h.op,by rw [<- b,<- e]; exact h.grd,by rw [<- b,<- d,<- e]; exact h.val,by rw [<- e]; exact h.gives,by rw [<- e]; exact h.gives',by rw [<- e]; exact h.calm,
  by rw[<-d,<-e];exact h.wr,by rw[<-e];exact h.cls⟩
def AIZ{K:St->KX (KX Nat×KX Nat)->X1 Ω}{ω:Ω}:
 ∀(ops:KX Oper) (i:Nat) (st:St) (L:Nat->Info),PY E all true n0 ops i st (((List.range i).map λj=>(L j).c).reverse) K=some ω->all.toList.drop i=ops->i+ops.length=all.size->
  st.slots=GD all L (λ_=>true) sl0 i->st.sto=h_ L (λ_=>true) σ0 i->(∀j,j<i->∃o r,Fact E all n0 L sl0 σ0 j o r)->
  ∃L':Nat->Info,(∀j,j<all.size->∃o r,Fact E all n0 L' sl0 σ0 j o r)/\
   K {slots:=GD all L' (λ_=>true) sl0 all.size,sto:=h_ L' (λ_=>true) σ0 all.size,n:=st.n} (((List.range all.size).map λj=>(L' j).c).reverse)=some ω:=by
 intro ops;induction ops with
 |nil=>intro i st L h a w d l m;simp only[C8,CG]at w;subst w;refine⟨L,m,?_⟩;rw[<-d,<-l];exact h
 |cons o A H=>
  intro i st L h a w d l m;have⟨tk,g,r,u,k1,N,O,Q,R,T,U⟩:=A3p h;have z:all[i]?=some o:=by have:=congrArg List.head? a;rw[List.head?_drop]at this;simpa using this
  let c:KX Nat×KX Nat:=(u.far (n0+8*i),VR (λx=>(GS st.slots x).strip tk) st.sto o.op)
  let L':Nat->Info:=λj=>if j=i then⟨tk,g,u,c⟩else L j
  have b:∀j,j<i->L j=L' j:=λj s=>oc;have p:L' i=⟨tk,g,u,c⟩:=by simp[L']
  have B:=A3u (all:=all) (S:=λ_=>true) (sl0:=sl0) (n:=i) b;have C:=A3v (S:=λ_=>true) (σ0:=σ0) (n:=i) b;have s1:st.slots=GD all L' (λ_=>true) sl0 i:=d.trans B;have V:st.sto=h_ L' (λ_=>true) σ0 i:=l.trans C;have y:all.getD i default=o:=by rw[CK,z];rfl
  have:=H (i+1) {slots:=O3 st.slots o.dst (S4 tk g u.sv),sto:=EK st.sto u.wr,n:=st.n} L' ?_ ?_ ?_ ?_ ?_ ?_
  .exact this
  .have:((List.range (i+1)).map λj=>(L' j).c).reverse=c::((List.range i).map λj=>(L j).c).reverse:=by rw[List.range_succ,D2,List.reverse_append];simp only[CT,List.map_nil,List.reverse_cons,List.reverse_nil,D3,List.singleton_append,p,List.cons.injEq,true_and];congr 1;exact List.map_congr_left λj s=>by rw[b j (CC.1 s)]
   grind
  .have:=congrArg List.tail a;simpa[List.tail_drop]using this
  .grind
  .simp_all[GD,A4]
  .simp_all[h_,A4]
  .intro j s;by_cases e:j=i
   .subst e;refine⟨o,r,z,?_,?_,?_,?_,?_,?_,?_⟩<;>grind
   .obtain⟨J,M,D⟩:=m j oa;exact⟨J,M,D.congr λI G=>b I oa⟩
end
section
variable{all:Array Oper}
def ZD(acc:Array Nat)(l:KX Edge)(s:Nat):Nat:=l.foldl (λs e=>if Region.binds .any e then s|||2 ^ e.on|||acc.getD e.on 0 else s) s
def AI_{a:Array Nat}:∀{l:KX Edge} {s:Nat},(ZD a l s).testBit i=true->
 s.testBit i=true\/∃e∈l,Region.binds .any e=true/\(e.on=i\/(a.getD e.on 0).testBit i=true):=by
 intro l;induction l with
 |nil=>intro s h;exact .inl h
 |cons e r b=>intro s h;simp only[ZD,List.foldl_cons]at h;rcases b h with h|⟨d,j,m⟩<;>grind
def N4(acc:Array Nat)(o:Oper):Array Nat:=acc.push (ZD acc o.after.toList 0)
theorem A3w(all:Array Oper):Region.before all=all.toList.foldl N4 #[]:=by unfold Region.before;rw[<-Array.foldl_toList];congr 1;funext acc o;simp only[N4,ZD,Array.foldl_toList]
def AIa:∀(l:KX Oper) (a:Array Nat),(l.foldl N4 a).size=a.size+l.length/\(∀k,k<a.size->(l.foldl N4 a).getD k 0=a.getD k 0)/\
 ∀(j:Nat) (o:Oper),l[j]?=some o->∃b:Array Nat,(∀k,k<a.size+j->b.getD k 0=(l.foldl N4 a).getD k 0)/\(l.foldl N4 a).getD (a.size+j) 0=ZD b o.after.toList 0:=by
 intro l;induction l with
 |nil=>simp
 |cons o l s=>
  intro a;have⟨w,d,x⟩:=s (N4 a o);have m:(N4 a o).size=a.size+1:=by simp[N4]
  have h:∀k,k<a.size->(N4 a o).getD k 0=a.getD k 0:=by intro k hk;simp[N4,CK,Array.getElem?_push,Nat.ne_of_lt hk]
  simp only[List.foldl_cons];refine⟨oc,λk hk=>by rw[d k oa,h k hk],λj p e=>?_⟩;cases j with
  |zero=>
   have:o=p:=by simpa using e
   subst this;refine⟨a,λk hk=>by rw[d k oa,h k oa],?_⟩;simp_all[N4,CK]
  |succ j=>grind
def uQ(all:Array Oper):Prop:=∀(i:Nat) o,all[i]?=some o->∀e∈o.after,Region.binds .any e=true->e.on<i
def bits(all:Array Oper)(i:Nat):Nat:=(Region.before all).getD i 0
theorem AIb(x:uQ all)(l:all[j]?=some o)(h:(bits all j).testBit i=true):
 ∃e∈o.after,Region.binds .any e=true/\(e.on=i\/(bits all e.on).testBit i=true):=by
 have⟨_,_,s⟩:=AIa all.toList #[];have⟨b,k1,m⟩:=s j o (by simpa using l);unfold bits at h;rw[A3w]at h;simp only[B9,C8,BH]at k1 m;rw[m]at h;rcases AI_ h with h|⟨e,p,d,w⟩
 .simp at h
 .have a:e∈o.after:=by simpa using p
  refine⟨e,a,d,w.imp id λh=>?_⟩;have y:=x j o l e a d;grind[bits,A3w]
def A3x(all:Array Oper)(S:Nat->X5):Prop:=∀(j:Nat) o,S j=true->all[j]?=some o->∀e∈o.after,Region.binds .any e=true->S e.on=true
def A3y(s:uQ all)(hd:A3x all S):∀(n j:Nat) (o:Oper),j<n->all[j]?=some o->(∀e∈o.after,Region.binds .any e=true->S e.on=true)->
 ∀i,(bits all j).testBit i=true->S i=true/\i<j:=by
 intro n;induction n with
 |zero=>omega
 |succ n C=>
  intro j o D p a i h;have⟨e,w,b,d⟩:=AIb s p h;have A:=s j o p e w b;have z:=a e w b;rcases d with d|d
  .grind
  .have B:j<all.size:=(B6.1 p).1;have x:all[e.on]?=some all[e.on]:=AU oa;have⟨k1,E⟩:=C e.on _ oa x (λy m l=>hd e.on _ z x y m l) i d;grind
structure OrdOK(all:Array Oper)(c:Nat->KX Nat×KX Nat):Prop where
 back:uQ all
 slot:∀(i j:Nat) (o p:Oper) (t:Nat),all[i]?=some o->all[j]?=some p->i≠j->o.dst=some t->t∈YT all p->(i<j/\(bits all j).testBit i=true)\/(j<i/\(bits all i).testBit j=true)
 mem:∀(i j:Nat) (o p:Oper),all[i]?=some o->all[j]?=some p->i≠j->∀k,k∈(c i).1->k∈(c j).2->(i<j/\(bits all j).testBit i=true)\/(j<i/\(bits all i).testBit j=true)
def A3z(b:i≠j)(h:eM (Region.before all) i j=true):(i<j/\(bits all j).testBit i=true)\/(j<i/\(bits all i).testBit j=true):=by
 unfold eM at h;cases a:Nat.blt i j with
 |true=>rw[a]at h;exact .inl ⟨by rwa[C2]at a,h⟩
 |false=>rw[a]at h;refine .inr ⟨?_,h⟩;rw[<-B_,C2]at a;omega
def AIc:∀{l m:KX Nat},eN l m=true->∀k,k∈l->k ∉ m:=by
 intro l;induction l with
 |nil=>simp
 |cons x l a=>
  intro m h k hk;simp only[eN,A7,BM]at h;rcases B1.1 hk with rfl|hk
  .grind[OU]
  grind
def AId{c:Nat->KX Nat×KX Nat}(E:cl=(List.range all.size).map c)(h:YU all cl=true):OrdOK all c:=by
 unfold YU at h;simp only[A7,BW,CC]at h;obtain⟨B,A⟩:=h;have a:∀{i:Nat} {o:Oper},all[i]?=some o->i<all.size/\all.getD i default=o:=λ{i o} l=>⟨(B6.1 l).1,by simp_all⟩;have m:∀i,i<all.size->cl.getD i ([],[])=c i:=by intro i hi;rw[E,AH,AS,List.getElem?_range hi];rfl
 refine⟨λi o l e H G=>?_,λi j o p t l z b hd I=>?_,λi j o p l z b k C D=>?_⟩
 .obtain⟨hi,x⟩:=a l;have:=B i hi;grind[Nat.blt_eq]
 .obtain⟨hi,x⟩:=a l;have⟨w,s⟩:=a z;have:=A i hi j w;rw[x,s,hd]at this;have d:Nat.beq i j=false:=by rw[<-B_];exact λy=>b (A5 y)
  simp_all[C1,A7,CD,BM,absurd,A3z]
 .obtain⟨hi,x⟩:=a l;have⟨w,s⟩:=a z;have:=A i hi j w;have d:Nat.beq i j=false:=by rw[<-B_];exact λy=>b (A5 y)
  rw[d,m i hi,m j w]at this;simp only[C1,A7,CD,BM]at this;rcases this.2 with h|h
  .exact absurd D (AIc h k C)
  .exact A3z b h
end
section
variable{P:Program}{fr:Fr}{self:Nat}{σ σ':W4}{w w':X4}{G G':Gh}
theorem uR(h:t∈fT o\/t∈KY all o\/o.dst=some t):t∈YT all o:=by
 unfold YT;simp only[AX];rcases h with h|h|h
 .exact .inl (.inl h)
 .grind[KY]
 grind
def A40{self:Nat}{u:n_}(hk:k∈N3 u.wr):(self<=k/\k<self+8)\/k∈u.far self:=by
 obtain⟨p,a,rfl⟩:=BP.1 hk;cases h:K0 self p.1 with
 |true=>simp_all[K0,A7,Nat.ble_eq,C2]
 |false=>exact .inr (BP.2 ⟨p,D4.2 ⟨a,by rw[h];rfl⟩,rfl⟩)
def A41{self:Nat}{u:n_}(h:TJ σ self u=true)(hk:k∈N3 u.wr):(self<=k/\k<self+8)\/(σ k).isSome=true:=by unfold TJ at h;rw[BW]at h;obtain⟨p,a,rfl⟩:=BP.1 hk;have:=h p a;simp_all[K0,CD,A7,Nat.ble_eq,C2]
def uS{F:KX Nat}(h:(seen all true n0 i F σ k).isSome=true):
 k∈F/\seen all true n0 i F σ k=σ k/\(k<n0\/(bits all i).testBit ((k-n0) / 8)=true):=by
 unfold seen at h ⊢;simp only[A4]at h ⊢;cases a:(F4 k F&&(Nat.blt k n0||((Region.before all).getD i 0).testBit ((k-n0) / 8)))with
 |false=>grind
 |true=>rw[A7,CD,C2]at a;exact⟨OU.1 a.1,rfl,a.2⟩
def A42(n0:Nat)(S:Nat->X5)(n:Nat):Nat->Prop:=λk=>n0<=k/\∀j,j<n->S j=true->¬(n0+8*j<=k/\k<n0+8*j+8)
def AIe{l:Array X5}(hi:i<l.size):(l.setIfInBounds i true).getD j false=(decide (j=i)||l.getD j false):=by
 by_cases h:j=i
 .subst h;simp[hi]
 .rw[getD_set_ne false (λe=>h e.symm)];simp[h]
def AIf(hE:WT P fr.dr E)(hgo:n5 all)(hdst:∀(j:Nat) o d,all[j]?=some o->o.dst=some d->d<N/\fr.fx d=none)
 {L:Nat->Info}(hF:∀j,j<all.size->∃o r,Fact E all n0 L sl0 σ0 j o r)(hO:OrdOK all λi=>(L i).c)
 (hQ:∀a' w' G',n9 P N fr (λk=>n0+8*all.size<=k) (DS all (λ_=>true)) (GD all L (λ_=>true) sl0 all.size) (h_ L (λ_=>true) σ0 all.size) a' w' G'->Q .normal a' w'):
 ∀(fuel:Nat) (listed:Array X5) (a:Act) (w:X4) (G:Gh),listed.size=all.size->((List.range all.size).filter λj=>!listed.getD j false).length<=fuel->
  A3x all (λj=>listed.getD j false)->
  n9 P N fr (A42 n0 (λj=>listed.getD j false) all.size) (DS all (λj=>listed.getD j false)) (GD all L (λj=>listed.getD j false) sl0 all.size) (h_ L (λj=>listed.getD j false) σ0 all.size) a w G->
  wpAny P .any all Q fuel listed a w:=by
 have hgetD:∀{i:Nat} {o:Oper},all[i]?=some o->i<all.size/\all.getD i default=o:=λ{i o} ho=>⟨(B6.1 ho).1,by simp_all⟩;have hdone:∀(listed:Array X5),listed.size=all.size->Region.ready .any all listed=[]->∀j,j<all.size->listed.getD j false=true:=by
  intro listed hsz hr;have:∀n j,j<n->j<all.size->listed.getD j false=true:=by
   intro n;induction n with
   |zero=>intro j h;omega
   |succ n ih=>
    intro j hj hja;apply BX;intro hn;have hm:j∈Region.ready .any all listed:=by
     rw[mem_ready];refine⟨?_,all[j],AU hja,λe he hb=>?_⟩
     .grind
     .have hlt:=hO.back j _ (AU hja) e he hb;grind
    grind
  intro j hj;exact this (j+1) j oa hj
 have hfin:∀(listed:Array X5) (a:Act) (w:X4) (G:Gh),(∀j,j<all.size->listed.getD j false=true)->
  n9 P N fr (A42 n0 (λj=>listed.getD j false) all.size) (DS all (λj=>listed.getD j false)) (GD all L (λj=>listed.getD j false) sl0 all.size) (h_ L (λj=>listed.getD j false) σ0 all.size) a w G->Q .normal a w:=by
  intro listed a w G hall hs;have e1:GD all L (λj=>listed.getD j false) sl0 all.size=GD all L (λ_=>true) sl0 all.size:=by funext t;exact fV λj hj _=>hall j hj
  have e2:h_ L (λj=>listed.getD j false) σ0 all.size=h_ L (λ_=>true) σ0 all.size:=by funext t;exact fW λj hj _=>hall j hj
  rw[e1,e2]at hs;exact hQ a w G (hs.weaken (λk hk=>⟨oa,λj hj _=>oa⟩) λt ht=>ht.mono λ_ _=>rfl)
 intro fuel;induction fuel with
 |zero=>
  intro listed a w G hsz hfu hdn hs;have hall:∀j,j<all.size->listed.getD j false=true:=by intro j hj;apply BX;intro hn;have:j∈(List.range all.size).filter λj=>!listed.getD j false:=D4.2 ⟨CC.2 hj,by simpa using hn⟩;rw[AK (Nat.le_zero.1 hfu)]at this;cases this
  refine⟨?_,hfin listed a w G hall hs⟩;rw[List.eq_nil_iff_forall_not_mem];intro j hj;have⟨h1,o,ho,_⟩:=mem_ready.1 hj;grind
 |succ fuel ih=>
  intro listed a w G hsz hfu hdn hs;refine⟨λhr=>hfin listed a w G (hdone listed hsz hr) hs,λi hi=>?_⟩;have⟨hun,o,ho,hall⟩:=mem_ready.1 hi;have⟨hin,hget⟩:=hgetD ho;have hun':listed.getD i false=false:=by have hj2:i<listed.size:=oa;simp only[CK,AU hj2,C5]at hun ⊢;exact hun
  have⟨o',r,hf⟩:=hF i hin;have eo:o'=o:=by have:=hf.op;rw[ho]at this;cases this;rfl
  subst eo;have hpre:∀j,(bits all i).testBit j=true->listed.getD j false=true/\j<i:=A3y hO.back hdn (i+1) i o' oa ho hall;have hpost:∀j,(bits all j).testBit i=true→j<all.size→listed.getD j false=false:=by intro j hb hj;rw[<-B_];intro hS;have hp:all[j]?=some all[j]:=AU hj;have:=(A3y hO.back hdn (j+1) j _ oa hp (λe he hb=>hdn j _ hS hp e he hb) i hb).1;rw[hun']at this;cases this
  have hord:∀j,j<all.size->((i<j/\(bits all j).testBit i=true)\/(j<i/\(bits all i).testBit j=true))->listed.getD j false=decide (j<i):=by
   intro j hj h;rcases h with⟨h1,h2⟩|⟨h1,h2⟩
   .grind
   .grind
  have hcls:∀j oj,all[j]?=some oj->(L j).c.1=(L j).u.far (n0+8*j)/\TJ (seen all true n0 j (L j).c.2 (h_ L (λ_=>true) σ0 j)) (n0+8*j) (L j).u=true:=by intro j oj hj;have⟨o'',r'',hf''⟩:=hF j (hgetD hj).1;exact⟨hf''.cls,hf''.wr⟩
  have hslot:∀t,t∈YT all o'->GD all L (λ_=>true) sl0 i t=GD all L (λj=>listed.getD j false) sl0 all.size t:=by
   intro t ht;rw[<-A3s (S:=λj=>decide (j<i)) (n:=all.size) oa (λj hj=>by simpa using hj) (λj hj _=>by simpa using hj)];refine fV λj hj hd=>?_;by_cases e:j=i
   .grind
   .have hp:all[j]?=some all[j]:=AU hj;rw[(hgetD hp).2]at hd;exact(hord j hj ((hO.slot j i _ o' t hp ho e hd ht).symm)).symm
  have hsto:∀k,(seen all true n0 i (L i).c.2 (h_ L (λ_=>true) σ0 i) k).isSome=true->
   seen all true n0 i (L i).c.2 (h_ L (λ_=>true) σ0 i) k=h_ L (λj=>listed.getD j false) σ0 all.size k:=by
   intro k hk;have⟨h1,h2,h3⟩:=uS hk;rw[h2];rw[<-A3t (S:=λj=>decide (j<i)) (n:=all.size) oa (λj hj=>by simpa using hj) (λj hj _=>by simpa using hj)];refine fW λj hj hd=>?_;by_cases e:j=i
   .grind
   .have hp:all[j]?=some all[j]:=AU hj;have⟨hc,hw⟩:=hcls j _ hp;rcases A40 (self:=n0+8*j) hd with⟨k1,k2⟩|hl
    .have hdiv:(k-n0) / 8=j:=oa;grind
    .exact(hord j hj ((hO.mem j i _ o' hp ho e k (hc▸hl) h1).symm)).symm
  refine A3m hE ho (self:=n0+8*i) (sl0:=GD all L (λ_=>true) sl0 i) hs ?_ ?_ ?_ hf.grd ?_ ?_ hf.val hf.gives hf.gives' hf.calm ?_
  .grind[uR]
  .intro t ht;have⟨j,b,p,hg,hp,hd⟩:=A3o ht;have hh:=uO ho hg;refine⟨hh,j,p,?_,hp,hd⟩;have hji:=hgo.back hh i o' j b ho hg;have:=hO.slot j i p o' t hp ho oa hd (uR (.inr (.inl ht)));grind
  .intro d hd;refine⟨hdst i o' d ho hd,λhD=>?_⟩;obtain⟨hh,j,p,hj,hp,hpd⟩:=hD;have hj:listed.getD j false=true:=hj;have hne:j≠i:=λe=>oc;rcases Nat.lt_or_ge j i with h|h
   .exact hgo.uniq hh j i p o' d h hp ho hpd hd
   .exact hgo.uniq hh i j o' p d oa ho hp hd hpd
  .grind
  .intro k h1 h2;refine⟨oa,λj hj hS h3=>?_⟩;have hS:listed.getD j false=true:=hS;have:j=i:=oa;grind
  .intro a' w' G' _ hs';have hset:∀j,(listed.setIfInBounds i true).getD j false=(decide (j=i)||listed.getD j false):=λj=>AIe oa;have hS':(λj=>(listed.setIfInBounds i true).getD j false)=λj=>(decide (j=i)||listed.getD j false):=funext hset;refine ih (listed.setIfInBounds i true) a' w' G' (by simpa using hsz) ?_ ?_ ?_
   .have hlt:((List.range all.size).filter λj=>!(listed.setIfInBounds i true).getD j false).length<((List.range all.size).filter λj=>!listed.getD j false).length:=by
     have hsub:((List.range all.size).filter λj=>!(listed.setIfInBounds i true).getD j false)=((List.range all.size).filter λj=>!listed.getD j false).filter λj=>!decide (j=i):=by rw[List.filter_filter];refine List.filter_congr λj _=>?_;rw[hset,Bool.not_or]
     rw[hsub];refine List.length_filter_lt_length_iff_exists.2 ⟨i,D4.2 ⟨CC.2 hin,by rw[hun'];rfl⟩,oh⟩
    omega
   .intro j p hj hp e he hb;have hj:(listed.setIfInBounds i true).getD j false=true:=hj;show(listed.setIfInBounds i true).getD e.on false=true;rw[hset]at hj ⊢;rw[CD,B3]at hj ⊢;rcases hj with rfl|hj
    .grind
    .exact .inr (hdn j p hj hp e he hb)
   .rw[hS'];have e1:O3 (GD all L (λj=>listed.getD j false) sl0 all.size) o'.dst (S4 (L i).tk (L i).g (L i).u.sv)=GD all L (λj=>(decide (j=i)||listed.getD j false)) sl0 all.size:=by
     funext t;rw[S7];by_cases hd:o'.dst=some t
     .rw[if_pos hd];refine(AIX (S:=λj=>(decide (j=i)||listed.getD j false)) oh oc hin λj h1 h2 h3=>?_).symm;have hp:all[j]?=some all[j]:=AU h2;rw[(hgetD hp).2]at h3;have:=hO.slot i j o' _ t ho hp oa hd (uR (.inr (.inr h3)));grind
     .rw[if_neg hd];grind[fV]
    have e2:EK (h_ L (λj=>listed.getD j false) σ0 all.size) (L i).u.wr=h_ L (λj=>(decide (j=i)||listed.getD j false)) σ0 all.size:=by
     funext k;by_cases hk:k∈N3 (L i).u.wr
     .refine(AIY (S:=λj=>(decide (j=i)||listed.getD j false)) oh hk hin λj h1 h2 h3=>?_).symm;have hp:all[j]?=some all[j]:=AU h2;have hne:¬j=i:=oa;simp only[hne,decide_false,C1];rw[<-B_];intro hS;have hno:¬((i<j/\(bits all j).testBit i=true)\/(j<i/\(bits all i).testBit j=true)):=by intro h;have:=hord j h2 h;rw[hS]at this;simp at this;omega
      have⟨hci,hwi⟩:=hcls i o' ho;have⟨hcj,hwj⟩:=hcls j _ hp;rcases A41 hwj h3 with hkj|hkj
      .rcases A41 hwi hk with hki|hki
       .omega
       .obtain⟨q1,q2,q3⟩:=uS hki;grind
      .obtain⟨q1,q2,q3⟩:=uS hkj;rcases A40 (self:=n0+8*i) hk with hki|hki
       .have hdiv:(k-n0) / 8=i:=oa;grind
       .exact hno (hO.mem i j o' _ ho hp oa k (hci▸hki) q1)
     .grind[uP,fW]
    rw[<-e1,<-e2];refine hs'.weaken (λk hk=>⟨⟨hk.1,λj hj hS h3=>hk.2 j hj oc h3⟩,?_⟩) λt ht=>ht.mono λj hj=>oc;have:=hk.2 i hin oh;rw[<-B_];simp only[K0,A7,Nat.ble_eq,C2];exact this
end
structure PG(P:Program)(N:Nat)(fr:Fr)(st:St)(a:Act)(w:X4)(G:Gh):Prop where
 slots:∀t,PJ P w G a (st.slots t) (a.tmps.getD t undef)
 defs:a.defers=[]
 size:a.tmps.size=N
 fix:∀t v,fr.fx t=some v->a.tmps.getD t undef=v
 nogrd:∀t tk g s,st.slots t≠.grd tk g s
 mem:Z2 P fr (λk=>st.n<=k) st.sto w G
 drawn:fr.dr=true->fr.w0.drawn<=w.drawn
section
variable{dr:X5}
variable{P:Program}{fr:Fr}{w w':X4}{G G':Gh}{I:Im}
def AIg:∀{l:KX Oper},(l.filterMap (·.dst)).Nodup->∀(i j:Nat) (o p:Oper) (d:Nat),i<j->l[i]?=some o->l[j]?=some p->o.dst=some d->p.dst≠some d:=by intro l;induction l<;>grind
def A43(h:LA all=true->LT (eO all)=true/\YW all=true):n5 all:=by
 refine⟨λe i j o p d l hi m s=>?_,λe i o j b hi w=>?_⟩
 .exact AIg (A3S (h e).1) i j o p d l (by simpa using hi) (by simpa using m) s
 .have a:=(h e).2;unfold YW at a;rw[BW]at a;have:=a i (CC.2 (B6.1 hi).1);simp_all
theorem AIh(hE:WT P fr.dr E)(hmix:P.follows .mixedOrders=true){K:St->X1 Ω}{ω:Ω}
 (hdst:∀(j:Nat) o d,ops[j]?=some o->o.dst=some d->d<N/\fr.fx d=none)(h:tE E ops draw st K=some ω)(hs:PG P N fr st a w G)
 (hQ:∀st' a' w' G',PG P N fr st' a' w' G'->K st'=some ω->Q .normal a' w'):(Code.region id ops draw).wp P Q a w:=by
 unfold tE at h;have hgo:n5 ops:=by refine A43 λhh=>?_;rw[hh]at h;cases h1:LT (eO ops)<;>cases h2:YW ops<;>rw[h1,h2]at h<;>first|exact⟨rfl,rfl⟩|cases h
 have h:PY E ops draw st.n ops.toList 0 st [] (λst' cl=>bif !draw||YU ops cl.reverse then
  K {slots:=bif LA ops then YV st'.slots else st'.slots,sto:=st'.sto,n:=st.n+8*ops.size}else none)=some ω:=by
  cases hc:(LA ops && !(LT (eO ops)&&YW ops))with
  |true=>grind
  |false=>grind
 have fin:∀(st':St) (S:Nat->X5) (a':Act) (w':X4) (G':Gh),n9 P N fr (λk=>st.n+8*ops.size<=k) (DS ops S) st'.slots st'.sto a' w' G'->
  K {slots:=bif LA ops then YV st'.slots else st'.slots,sto:=st'.sto,n:=st.n+8*ops.size}=some ω->Q .normal a' w':=by
  intro st' S a' w' G' hs' hK;refine hQ _ a' w' G' ⟨λt=>?_,hs'.defs,hs'.size,hs'.fix,λt tk g s=>?_,hs'.mem,hs'.drawn⟩ hK
  .have:=hs'.slots t;cases hh:LA ops with
   |false=>exact this
   |true=>
    simp only[A4,YV];split
    .exact(SR.undef _).s7
    .exact this
  .cases hh:LA ops with
   |false=>
    intro h;have⟨h1,h2⟩:=hs'.toks t tk g s h;cases tk with
    |nil=>exact h1 rfl
    |cons p r=>have:=(h2 p AF).1;grind
   |true=>simp only[A4,YV];grind
 cases draw with
 |false=>
  refine wp_region ?_
  have:=A3q hE hgo hdst (Q:=Q) ops.toList 0 st [] a w G h oh oh ⟨hs.slots,hs.defs,hs.size,hs.fix,λt tk g s hh=>absurd hh (hs.nogrd t tk g s),hs.mem.shrink λk hk=>by simpa using hk,hs.drawn⟩
   (λst' cl' a' w' G' hs' _ hK=>fin st' _ a' w' G' hs' hK)
  grind[List.range_eq_range']
 |true=>
  have⟨L,hF,hK⟩:=AIZ (sl0:=st.slots) (σ0:=st.sto) ops.toList 0 st (λ_=>⟨[],true,⟨.undef,[]⟩,([],[])⟩) h oh oh rfl rfl (λj hj=>oa);refine wp_region_any hmix ?_;cases ho:YU ops ((List.range ops.size).map λj=>(L j).c)with
  |false=>grind
  |true=>
   simp only[List.reverse_reverse,ho,B7,C1,A4]at hK;have hrep:∀j,(Array.replicate ops.size false).getD j false=false:=by intro j;simp only[CK,Array.getElem?_replicate];split<;>rfl
   have e1:GD ops L (λj=>(Array.replicate ops.size false).getD j false) st.slots ops.size=st.slots:=by rw[A3s (i:=0) (AT _) (λj hj=>oa) (λj _ _=>hrep j)];rfl
   have e2:h_ L (λj=>(Array.replicate ops.size false).getD j false) st.sto ops.size=st.sto:=by rw[A3t (i:=0) (AT _) (λj hj=>oa) (λj _ _=>hrep j)];rfl
   refine AIf (n0:=st.n) (sl0:=st.slots) (σ0:=st.sto) hE hgo hdst hF (AId rfl ho) (λa' w' G' hs'=>fin ⟨GD ops L (λ_=>true) st.slots ops.size,h_ L (λ_=>true) st.sto ops.size,0⟩ _ a' w' G' hs' hK) ops.size _ a _ G oh
    (AM (CP _ _) oh) (λj o hj=>?_) ?_
   .grind
   .rw[e1,e2];refine n9.draws ⟨hs.slots,hs.defs,hs.size,hs.fix,λt tk g s hh=>absurd hh (hs.nogrd t tk g s),hs.mem.shrink λk hk=>hk.1,hs.drawn⟩ _ (Nat.le_succ _)
def AIi:∀{l:KX Oper} {st:St} {G:Gh},PG P N fr st a w G->∃G',PG P N fr (VT E l st) a w G':=by
 intro l;induction l with
 |nil=>intro st G h;exact⟨G,h⟩
 |cons o l d=>
  intro st G h;simp only[VT];split
  .split
   .rename_i u x;obtain⟨y,b⟩:∃p c,eC st.sto st.n p c=some u:=by grind
    obtain⟨c,b⟩:=b;have⟨G1,e,m⟩:=AIF h.mem (AD _) b;exact d (st:=⟨st.slots,EK st.sto u,st.n+1⟩) ⟨λt=>(h.slots t).mono e λ_ _ _ _=>Iff.rfl,h.defs,h.size,h.fix,h.nogrd,m.shrink λj s=>by grind,h.drawn⟩
   .exact d h
  .exact d h
theorem AIj(m:WT P fr.dr E)(e:P.follows .mixedOrders=true){K:St->X1 Ω}{ω:Ω}
 (b:∀(j:Nat) o d,ops[j]?=some o->o.dst=some d->d<N/\fr.fx d=none)(h:A2T E ops draw st K=some ω)(p:PG P N fr st a w G)
 (y:∀s a' w' G',PG P N fr s a' w' G'->K s=some ω->Q .normal a' w'):(Code.region id ops draw).wp P Q a w:=
 AIh m e b h p λs a' w' G' l x=>by have⟨G'',h⟩:=AIi (E:=E) (l:=ops.toList.reverse) l;grind
def LY:Ex->Exit
 | .normal=>.normal
 | .exit i=>.exit i
 | .ret=>.ret
def A44{e:Ex}{w:X4}(h:match e with| .normal=>K a w|e=>Q (LY e) a w):Exit.then K Q (LY e) a w:=by cases e<;>exact h
def OutS(P:Program)(w:X4)(I:Im)(a:Act)(e:Exit)(hs:Nat)(bs:KX Nat):(l:KX (Ex×Kp))->H6 l->Prop
 |[],x=>Empty.elim x
 |[o],x=>e=LY o.1/\∃bs',R2 P w I o.2.sh x (o.2.tm.map λt=>a.tmps.getD t undef) bs'/\bs'.Nodup/\∀b∈bs',b∈bs\/hs<=b
 |o::p::r,x=>Sum.casesOn (motive:=λ_=>Prop) x (λy=>e=LY o.1/\∃bs',R2 P w I o.2.sh y (o.2.tm.map λt=>a.tmps.getD t undef) bs'/\bs'.Nodup/\∀b∈bs',b∈bs\/hs<=b)
  (λy=>OutS P w I a e hs bs (p::r) y)
def N5(P:Program)(dr:X5)(N:Nat)(s:XY)(x:H6 s.outs)(a0:Act)(w:X4)(I:Im)(bs:KX Nat):Exit->Act->X4->Prop:=λe a' w'=>a'.defers=[]/\a'.tmps.size=N/\(∀t,F4 t s.wrs=false->a'.tmps.getD t undef=a0.tmps.getD t undef)/\(dr=true->w.drawn<=w'.drawn)/\∃I',Q5 (·∈bs) w I w' I'/\OutS P w' I' a' e w.heap.size bs s.outs x
def TV(a:Act)(c:Nat):X2:=bif Nat.blt c 1048576 then a.tmps.getD c undef else bif Nat.blt c 1099511627776 then .func (.func (c / 1048576-1)) #[] #[a.tmps.getD (c % 1048576) undef]else .func (.func (c / 1048576 % 1048576-1)) #[] #[a.tmps.getD (c % 1048576) undef,a.tmps.getD (c / 1099511627776-1) undef]
def fX(al:KX (Nat×Nat))(a:Act):Prop:=∀t j,IC al t=some j->a.tmps.getD t undef=TV a j
def M3(P:Program)(dr:X5)(N:Nat)(s:XY)(c:Code):Prop:=∀(w:X4) (I:Im) (a:Act) (v:Z5 s.QJ.sh) (bs:KX Nat),I4 w I->a.defers=[]->a.tmps.size=N->fX s.al a->R2 P w I s.QJ.sh v (s.QJ.tm.map λt=>a.tmps.getD t undef) bs->bs.Nodup->
 match s.nd with
 |none=>∀x,s.F v=some x->c.wp P (N5 P dr N s x a w I bs) a w
 |some d=>(∀o,d.S v o->∃x,d.F v o=some x)->c.wp P (λe a' w'=>∃o x,d.S v o/\d.F v o=some x/\N5 P dr N s x a w I bs e a' w') a w
def A45:∀{tm:KX Nat} {l:KX SV},(∀(j:Nat) (s:SV) (t:Nat),l[j]?=some s->tm[j]?=some t->SR P w G s (a.tmps.getD t undef))->∀t,SR P w G (TG tm l t) (a.tmps.getD t undef):=by
 intro tm;induction tm with
 |nil=>grind[TG,SR.undef]
 |cons d tm x=>
  intro l h t;cases l with
  |nil=>grind[TG,SR.undef]
  |cons s l=>
   simp only[TG];cases p:Nat.beq t d with
   |true=>have e:=A5 p;subst e;exact h 0 s t rfl rfl
   |false=>exact x (λj y z b m=>h (j+1) y z (by simpa using b) (by simpa using m)) t
def AIk:∀(l:KX (Nat×X1 Obj)) (i:Nat),(IC l i).getD none=EK (λ_=>none) l i:=by intro l;induction l<;>grind[IC,EK,Nat.beq]
theorem AIl:∀{l:KX Sh} {x:Z5 l} {n:Nat},Y6 (FH l x n) n=n+GH l:=by
 intro l;induction l with
 |nil=>intro x n;rfl
 |cons a l d=>
  intro x n;cases l with
  |nil=>exact(TQ a x n).trans (by simp[GH])
  |cons b l=>have:Y6 (FH (a::b::l) x n) n=Y6 (FH (b::l) x.2 (F6 a x.1 n).nx) (F6 a x.1 n).nx:=rfl;grind[TQ,GH]
def uT{k:Kp}{v:Z5 k.sh}(hd:a.defers=[])(H:a.tmps.size=N)(z:∀t v,fr.fx t=some v->a.tmps.getD t undef=v)(p:Q5 fr.gv fr.w0 fr.i0 w I)(y:fr.dr=true->fr.w0.drawn<=w.drawn)
 (h:R2 P w I k.sh v (k.tm.map λt=>a.tmps.getD t undef) bs)(B:bs.Nodup)(x:∀b∈bs,fr.owned b):∃G',PG P N fr (ID k v) a w G':=by
 let G0:Gh:=⟨I,λ_ _=>none,λ_=>none,λ_=>none⟩
 have A:Z2 P fr (λ_=>True) (λ_=>none) w G0:=⟨λk o h=>(om),λj k o Q b h=>(om),p,λk _=>⟨rfl,rfl,rfl,λ_=>rfl⟩⟩;have⟨G',D,K,L,E⟩:=uA (n:=0) (G:=G0) A h B (λb J=>⟨x b J,λj o h=>(om)⟩) (λ_ _ _=>trivial);have d:∀t,SR P w G' ((ID k v).slots t) (a.tmps.getD t undef):=by
  refine A45 λj s t l O=>?_;rw[AS]at l;cases C:(FH k.sh v 0)[j]? with
  |none=>grind
  |some m=>rw[C]at l;cases l;exact E j m _ C oc
 refine⟨G',λt=>(d t).s7,hd,H,z,λt tk g s h=>?_,?_,y⟩
 .have:=d t;rw[h]at this;exact this.l0
 .have e:(ID k v).sto=EK (λ_=>none) ((FH k.sh v 0).flatMap (·.obs)):=funext λi=>AIk _ i;rw[e];refine D.mem.shrink λj l=>⟨trivial,λM=>?_⟩;grind[ID,GH,AIl]
def A46(d:PG P N fr st a w G)(j:Nat):SR P w G (TH st.slots j) (TV a j):=by
 have h:∀j,SR P w G (st.slots j) (a.tmps.getD j undef):=by intro j;have b:PJ P w G a (st.slots j) (a.tmps.getD j undef):=d.slots _;have e:∀tk g s,st.slots j≠.grd tk g s:=d.nogrd _;generalize st.slots j=s at b e;cases s<;>first|exact b|grind
 unfold TH TV;cases m:Nat.blt j 1048576 with
 |true=>exact h j
 |false=>
  cases l:Nat.blt j 1099511627776 with
  |true=>exact⟨_,rfl,#[_],rfl,_,[],rfl,h _,rfl⟩
  |false=>exact⟨_,rfl,#[_,_],rfl,_,[_],rfl,h _,_,[],rfl,h _,rfl⟩
def AIm(b:PG P N fr st a' w G)(j:fX al a)(l:∀t,F4 t wrs=false->a'.tmps.getD t undef=a.tmps.getD t undef):PG P N fr (YA al wrs st) a' w G:=by
 unfold YA;split
 .exact b
 .have key:∀t,VG al wrs st.slots t=st.slots t\/∃c,VG al wrs st.slots t=TH st.slots c/\a'.tmps.getD t undef=TV a' c:=by
   intro t;unfold VG;split
   .rename_i c y;cases d:(F4 t wrs||(F4 (dV c) wrs||F4 (rZ c) wrs))with
    |true=>exact .inl rfl
    |false=>simp only[BQ]at d;refine .inr ⟨c,rfl,?_⟩;rw[l t d.1,j t c y];have p:=d.2.1;have x:=d.2.2;unfold rZ at x;unfold dV at p;unfold TV;grind
   .exact .inl rfl
  refine⟨λt=>?_,b.defs,b.size,b.fix,λt tk g s=>?_,b.mem,b.drawn⟩
  .show PJ P w G a' (VG al wrs st.slots t) _;rcases key t with e|⟨c,e,m⟩
   .rw[e];exact b.slots t
   .rw[e,m];exact(A46 b c).s7
  .show VG al wrs st.slots t≠_;rcases key t with e|⟨c,e,m⟩
   .rw[e];exact b.nogrd t tk g s
   .rw[e];intro h;have:=A46 b c;rw[h]at this;exact this.l0
def uU{k:Kp}{v:Z5 k.sh}(h:PG P N fr (ID k v) a w G)(d:fX al a):PG P N fr (VE al k v) a w G:=by
 refine⟨λt=>?_,h.defs,h.size,h.fix,λt tk g s=>?_,h.mem,h.drawn⟩
 .show PJ P w G a (Y8 al (ID k v).slots t) _;unfold Y8;split
  .rename_i j l;rw[d t j l];unfold TH TV;cases p:Nat.blt j 1048576 with
   |true=>exact h.slots j
   |false=>
    have b:∀j,SR P w G ((ID k v).slots j) (a.tmps.getD j undef):=by intro j;have e:PJ P w G a ((ID k v).slots j) (a.tmps.getD j undef):=h.slots _;have m:∀tk g s,(ID k v).slots j≠.grd tk g s:=h.nogrd _;generalize (ID k v).slots j=s at e m;cases s<;>first|exact e|grind
    cases x:Nat.blt j 1099511627776 with
    |true=>exact⟨_,rfl,#[_],rfl,_,[],rfl,b _,rfl⟩
    |false=>exact⟨_,rfl,#[_,_],rfl,_,[_],rfl,b _,_,[],rfl,b _,rfl⟩
  .exact h.slots t
 .show Y8 al (ID k v).slots t≠_;unfold Y8;split
  .rename_i j l;unfold TH;cases p:Nat.blt j 1048576 with
   |true=>exact h.nogrd _ tk g s
   |false=>grind
  .exact h.nogrd _ tk g s
def A47(K:PG P N fr st a w G):∀{al:KX (Nat×Nat)},RY al st.slots=true->fX al a:=by
 have W:∀t k g,st.slots t=.obj k g->G.val k g=some (a.tmps.getD t undef):=by intro t k g h;have:=K.slots t;rw[h]at this;exact P_ this
 intro al;induction al with
 |nil=>intro _ t j h;cases h
 |cons p r X=>
  intro h t j E;simp only[RY,A7]at h;obtain⟨x,y⟩:=p;simp only[IC]at E;cases A:Nat.beq t x with
  |false=>rw[A]at E;exact X h.2 t j E
  |true=>
   rw[A]at E;have B:=A5 A;have C:y=j:=A2 E;subst B C;have d:=h.1;unfold A2G at d;unfold TV;cases A:Nat.blt y 1048576 with
   |true=>
   rw[A]at d;simp only[A4]at d ⊢;unfold A2F at d;split at d
   .rename_i k g Y g' V h2;simp only[A7]at d;grind[Nat.eq_of_beq_eq_true,Option.some.inj]
   .cases d
   |false=>
   rw[A]at d;simp only[A8]at d ⊢;have same:∀{s:SV} {m:Nat} {v:X2},Y7 s (st.slots m)=true->SR P w G s v->v=a.tmps.getD m undef:=by
    intro s m v J L;unfold Y7 at J;split at J
    .rename_i k u Y u' V;have Z:=A5 J;subst Z;have H:=K.slots m;rw[V]at H;have⟨b,t1,o,b1,b2,b3,b4⟩:=O5 (show SR P w G (.ptr k [] u') _ from H);grind[O5,SR]
    .cases J
   cases D:Nat.blt y 1099511627776 with
   |true=>
    rw[D]at d;simp only[A4]at d ⊢;split at d
    .rename_i f s z;simp only[A7]at d;have U:=A5 d.1;have e:=K.slots t;rw[z]at e;have⟨c,R,I,B,v,r,C,L,l⟩:=(show SR P w G (.fn f (.scons s .snil)) _ from e);have l:r=[]:=l;subst l;have O:a.tmps.getD t undef=.func (.func f) #[] I:=AB.1 ((show c=[_]from R).symm.trans B);have Q:I= #[v]:=by apply C9;exact C
     rw[O,Q,U,same d.2 L]
    .cases d
   |false=>
    rw[D]at d;simp only[A8]at d ⊢;split at d
    .rename_i f s s' z;simp only[A7]at d;have U:=A5 d.1;have e:=K.slots t;rw[z]at e;have⟨c,R,I,B,v,r,C,L,v',r',M,T,l⟩:=(show SR P w G (.fn f (.scons s (.scons s' .snil))) _ from e);have l:r'=[]:=l;subst l;have O:a.tmps.getD t undef=.func (.func f) #[] I:=AB.1 ((show c=[_]from R).symm.trans B);have Q:I= #[v,v']:=by apply C9;rw[C,M]
     rw[O,Q,U,same d.2.1 L,same d.2.2 T]
    .cases d
def PG.frz(h:PG P N fr st a w G)(k:Kp):∃G',PC w G w G'/\PG P N fr (KS k st) a w G':=by have⟨G',b,d⟩:=A3i h.mem k.sh (k.tm.map st.slots);exact⟨G',b,λt=>(h.slots t).mono b λ_ _ _ _=>Iff.rfl,h.defs,h.size,h.fix,h.nogrd,d,h.drawn⟩
def AIn(B:∀f z,fs f=some z->FJ P f/\Z9 P f z){k:Kp}{v:Z5 k.sh}(d:PG P N fr st a w G)(h:OP fs k (KS k st)=some v):
 ∃G',PG P N fr (ID k v) a w G':=by
 have⟨G0,_,d⟩:=d.frz k;have x:∀t,SR P w G0 (st.slots t) (a.tmps.getD t undef):=by intro t;have e:PJ P w G0 a (st.slots t) (a.tmps.getD t undef):=d.slots t;have l:∀tk g s,st.slots t≠.grd tk g s:=d.nogrd t;generalize st.slots t=s at e l;cases s<;>first|exact e|grind
 obtain ⟨bs,e,l,A⟩:=fM d.mem B (vs:=k.tm.map λt=>a.tmps.getD t undef) h oh (λj s v p y=>by
  rw[AS]at p y;cases E:k.tm[j]? with
  |none=>grind
  |some t=>rw[E]at p y;cases p;cases y;exact x t)
 refine uT d.defs d.size d.fix d.mem.after d.drawn e l λb C=>?_;have⟨H,_,o,D,m⟩:=A b C;exact TR (d.mem.objs H o D) m
def PG.sr(b:PG P N fr st a w G)(x:Operand):SR P w G (GS st.slots x) (a.eval x):=by
 have:=A3k (x:=x) (tk:=[]) (λt _=>b.slots t) (TU a);have e:(GS st.slots x).strip []=GS st.slots x:=by
  have d:∀tk g s,GS st.slots x≠.grd tk g s:=by
   intro tk g s h;cases x with
   |tmp t=>exact b.nogrd t tk g s h
   |const v=>have:=A3j (P:=P) (w:=w) (G:=G) v;rw[show dI v=_ from h]at this;exact this.l0
   |func f=>cases h
   |global g=>cases h
  generalize GS st.slots x=s at d;cases s<;>first|rfl|grind
 grind
def LZ(P:Program)(dr:X5)(N:Nat)(ok:Nat->X5)(E:Env):Code->Nat->Prop
 | .seq a b,n=>match tF E a with
  |some s=>s.wrs.all ok=true/\M3 P dr N s (.seq a b)
  |none=>LZ P dr N ok E a n/\LZ P dr N ok E b (n+KC a)
 | .cond c a b,n=>match E.cut n with
  |some s=>s.wrs.all ok=true/\M3 P dr N s (.cond c a b)
  |none=>LZ P dr N ok E a (n+1)/\LZ P dr N ok E b (n+1+KC a)
 | .block _ b,n=>LZ P dr N ok E b n
 | .scope b,n=>LZ P dr N ok E b n
 | .loop b,n=>match E.cut n with
  |some s=>s.wrs.all ok=true/\M3 P dr N s (.loop b)
  |none=>True
 |_,_=>True
def IJ(E:Env):Code->Nat->KX (XY×Code)
 | .seq a b,n=>match tF E a with
  |some s=>[(s,.seq a b)]
  |none=>IJ E a n++IJ E b (n+KC a)
 | .cond c a b,n=>match E.cut n with
  |some s=>[(s,.cond c a b)]
  |none=>IJ E a (n+1)++IJ E b (n+1+KC a)
 | .block _ b,n=>IJ E b n
 | .scope b,n=>IJ E b n
 | .loop b,n=>match E.cut n with
  |some s=>[(s,.loop b)]
  |none=>[]
 |_,_=>[]
def W8(P:Program)(dr:X5)(N:Nat)(ok:Nat->X5):KX (XY×Code)->Prop
 |[]=>True
 |p::r=>(p.1.wrs.all ok=true/\M3 P dr N p.1 p.2)/\W8 P dr N ok r
def W8.append:∀{l a:KX (XY×Code)},W8 P dr N ok (l++a)->W8 P dr N ok l/\W8 P dr N ok a:=by
 intro l;induction l with
 |nil=>intro a h;exact⟨trivial,h⟩
 |cons p r b=>intro a h;exact⟨⟨h.1,(b h.2).1⟩,(b h.2).2⟩
def ZE:∀{c:Code} {n:Nat},W8 P dr N ok (IJ E c n)->LZ P dr N ok E c n:=by
 intro c;induction c with
 |seq a b e j=>
  intro n h;simp only[LZ];simp only[IJ]at h;split
  .rename_i s d;rw[d]at h;exact h.1
  .rename_i d;rw[d]at h;exact⟨e h.append.1,j h.append.2⟩
 |cond c a b e j=>
  intro n h;simp only[LZ];simp only[IJ]at h;split at h
  .rename_i s d;exact h.1
  .rename_i d;exact⟨e h.append.1,j h.append.2⟩
 |block i b l=>intro n h;exact l (n:=n) h
 |scope b l=>intro n h;exact l (n:=n) h
 |loop b l=>
  intro n h;simp only[LZ];simp only[IJ]at h;split at h
  .rename_i s d;exact h.1
  .rename_i d;trivial
 |_=>intro n h;trivial
def IK(ok:Nat->X5):Code->X5
 | .seq a b=>IK ok a&&IK ok b
 | .cond _ a b=>IK ok a&&IK ok b
 | .block _ b=>IK ok b
 | .scope b=>IK ok b
 | .loop b=>IK ok b
 | .region _ ops _=>ops.toList.all λo=>match o.dst with
  |some d=>ok d
  |none=>true
 |_=>true
def A48{bs':KX Nat}{I':Im}{k:Kp}{y:Z5 k.sh}(l:PG P N fr st a w G)(e:W7 st.sto G ks bs)
 (h6:∀d,F4 d wrs=true->fr.fx d=none)(hd:a'.defers=[])(Z:a'.tmps.size=N)(C:∀t,F4 t wrs=false->a'.tmps.getD t undef=a.tmps.getD t undef)
 (B:Q5 (·∈bs) w G.im w' I')(L:fr.dr=true->w.drawn<=w'.drawn)(R:R2 P w' I' k.sh y (k.tm.map λt=>a'.tmps.getD t undef) bs')(M:bs'.Nodup)(x:∀b∈bs',b∈bs\/w.heap.size<=b):
 ∃G',PG P N fr (VF st wrs ks k y) a' w' G':=by
 have⟨U,X⟩:=l.mem.called e B;obtain ⟨G',H,h2,h3,Y⟩:=uA (n:=st.n) X R M (λb V=>by
  refine⟨?_,λj o O K=>?_⟩
  .rcases x b V with h|h
   .obtain⟨J,_,o,O,z⟩:=e b h;exact TR (l.mem.objs J o O) z
   .exact .inl (AM l.mem.after.size h)
  .have A:j ∉ ks/\st.sto j=some o:=by
    rw[QA]at O;by_cases D:j∈ks
    .grind
    .grind
   have p:Bk G j o b:=by rw[<-H8 (l.mem.objs j o A.2) U];exact K
   rcases x b V with h|h
   .obtain⟨J,hk,o2,Q,z⟩:=e b h;have:=l.mem.sep j J o o2 b A.2 Q p z;grind
   .have:=LW (l.mem.objs j o A.2) p;omega) (λJ H _=>H)
 have E:∀t,SR P w' G' ((VF st wrs ks k y).slots t) (a'.tmps.getD t undef):=by
  intro t;simp only[VF];cases ht:F4 t k.tm with
  |true=>
   refine A45 (λj s t' D h5=>?_) t;rw[AS]at D;cases W:(FH k.sh y st.n)[j]? with
   |none=>grind
   |some m=>rw[W]at D;cases D;exact Y j m _ W oc
  |false=>
   simp only[A8];cases T:F4 t wrs with
   |true=>exact SR.undef _
   |false=>simp only[A8];rw[C t T];exact((l.sr (.tmp t)).mono U).mono H.le
 refine⟨G',λt=>(E t).s7,hd,Z,λt v hv=>?_,λt tk g s h=>?_,?_,λh=>AM (l.drawn h) (L h)⟩
 .cases T:F4 t wrs with
  |true=>grind
  |false=>rw[C t T];exact l.fix t v hv
 .have:=E t;rw[h]at this;exact this.l0
 .simp only[VF];rw[GZ];refine H.mem.shrink λj D=>⟨?_,λhh=>?_⟩<;>grind
def AIo{K:Ex->St->X1 Ω}{ω:Ω}{I':Im}(Q:PG P N fr st a w G)(j:W7 st.sto G ks bs)
 (z:∀d,F4 d wrs=true->fr.fx d=none)(hd:a'.defers=[])(O:a'.tmps.size=N)(s:∀t,F4 t wrs=false->a'.tmps.getD t undef=a.tmps.getD t undef)(b:Q5 (·∈bs) w G.im w' I')(m:fr.dr=true->w.drawn<=w'.drawn):
 ∀{l:KX (Ex×Kp)} {x:H6 l},YB st wrs ks l x K=some ω->OutS P w' I' a' e w.heap.size bs l x->
 ∃M A G',e=LY M/\PG P N fr A a' w' G'/\K M A=some ω:=by
 intro l;induction l with
 |nil=>intro x;exact Empty.elim x
 |cons o r R=>
  intro x h L;cases r with
  |nil=>obtain⟨C,B,D,E,H⟩:=L;have⟨G',J⟩:=A48 Q j z hd O s b m D E H;exact⟨o.1,_,G',C,J,h⟩
  |cons p r=>
   cases x with
   |inl y=>obtain⟨C,B,D,E,H⟩:=L;have⟨G',J⟩:=A48 Q j z hd O s b m D E H;exact⟨o.1,_,G',C,J,h⟩
   |inr y=>exact R (x:=y) h L
def A49(m:∀f l,fs f=some l->FJ P f/\Z9 P f l){k:Kp}{v:Z5 k.sh}(e:PG P N fr st a w G)(h:OP fs k st=some v):
 ∃bs,R2 P w G.im k.sh v (k.tm.map λt=>a.tmps.getD t undef) bs/\bs.Nodup/\W7 st.sto G (GL st.sto k.sh (k.tm.map st.slots)) bs:=
 fM e.mem m (vs:=k.tm.map λt=>a.tmps.getD t undef) h oh (λj s v b d=>by
  rw[AS]at b d;cases p:k.tm[j]? with
  |none=>grind
  |some t=>rw[p]at b d;cases b;cases d;exact e.sr (.tmp t))
variable{P:Program}{fr:Fr}{w w':X4}{G G':Gh}{I:Im}
def uV(V:WT P fr.dr E){s:XY}(H:∀d,F4 d s.wrs=true->fr.fx d=none)(y:M3 P fr.dr N s c){K:Ex->St->X1 Ω}{ω:Ω}
 (h:YX E s st K=some ω)(p:PG P N fr st a w G)(W:∀e b a' w' G',PG P N fr b a' w' G'->K e b=some ω->Q (LY e) a' w'):c.wp P Q a w:=by
 unfold YX at h;unfold M3 at y;split at h
 .rename_i v l;obtain⟨j,Z⟩:RY s.al st.slots=true/\OP E.fs s.QJ (KS s.QJ st)=some v:=by
   cases L:RY s.al st.slots with
   |false=>rw[L]at l;cases l
   |true=>rw[L]at l;exact⟨rfl,l⟩
  have j:=A47 p j;have⟨G,_,p⟩:=p.frz s.QJ;have⟨bs,p1,p2,p3⟩:=A49 V.fs p Z;have y:=y w G.im a v bs p.mem.after.mem p.defs p.size j p1 p2;have z:∀x,(YB (KS s.QJ st) s.wrs (GL (KS s.QJ st).sto s.QJ.sh (s.QJ.tm.map st.slots)) s.outs x λe b=>K e (YA s.al s.wrs b))=some ω->∀e a' w',N5 P fr.dr N s x a w G.im bs e a' w'->Q e a' w':=by intro x A e a' w' C;obtain⟨q1,q2,M,qd,I',q4,q5⟩:=C;obtain⟨O,b,G',rfl,T,U⟩:=AIo p p3 H q1 q2 M q4 qd A q5;exact W O _ a' w' G' (AIm T j M) U
  cases B:s.nd with
  |none=>rw[B]at h y;have⟨x,R,A⟩:=B8.1 h;exact wp_mono (y x R) λe a' w' C=>z x A e a' w' C
  |some d=>
   rw[B]at h y;have m:=AFo h;refine wp_mono (y λo Y=>?_) λe a' w' ⟨o,x,X,J,C⟩=>?_
   .obtain⟨x,J,_⟩:=B8.1 (m o Y);exact⟨x,J⟩
   .obtain⟨x',D,A⟩:=B8.1 (m o X);rw[J]at D;cases D;exact z x A e a' w' C
 .cases h
theorem ZF(R:WT P fr.dr E)(L:P.follows .mixedOrders=true)(M:∀d,ok d=true->d<N/\fr.fx d=none):
 ∀(c:Code) (n:Nat) (st:St) (a:Act) (w:X4) (G:Gh) (K:Ex->St->X1 Ω) (ω:Ω) (Q:Exit->Act->X4->Prop),
 IK ok c=true->LZ P fr.dr N ok E c n->LB E c n st K=some ω->PG P N fr st a w G->(∀e m a' w' G',PG P N fr m a' w' G'->K e m=some ω->Q (LY e) a' w')->c.wp P Q a w:=by
 have H:∀{l:KX Nat},l.all ok=true->∀d,F4 d l=true->fr.fx d=none:=by intro l h d hd;rw[BW]at h;exact(M d (h d (OU.1 hd))).2
 intro c;induction c with
 |skip=>intro n st a w G K ω Q _ _ h C z;exact wp_skip (z .normal st a w G C h)
 |region id ops draw=>intro n st a w G K ω Q hd _ h C z;refine AIj R L (λj o d V W=>?_) h C λm a' w' G' A D=>z .normal m a' w' G' A D;simp only[IK,BW]at hd;have:=hd o (AE (by simpa using V));rw[W]at this;exact M d this
 |seq x y I J=>
  intro n st a w G K ω Q hd B h C z;simp only[IK,A7]at hd;simp only[LB]at h;simp only[LZ]at B;split at h
  .rename_i s p;rw[p]at B;exact uV R (H B.1) B.2 h C z
  .rename_i p;rw[p]at B;refine wp_seq (I n st a w G _ ω _ hd.1 B.1 h C λe m a' w' G' A D=>A44 ?_);cases e with
   |normal=>exact J _ m a' w' G' K ω Q hd.2 B.2 D A z
   |exit i=>exact z (.exit i) m a' w' G' A D
   |ret=>exact z .ret m a' w' G' A D
 |cond c x y I J=>
  intro n st a w G K ω Q hd B h C z;simp only[IK,A7]at hd;simp only[LB]at h;simp only[LZ]at B;split at h
  .rename_i s p;rw[p]at B;exact uV R (H B.1) B.2 h C z
  .rename_i p;rw[p]at B;split at h
   .rename_i t X;have O:=C.sr c;rw[X]at O;have O:=O.bool;cases t with
    |true=>exact wp_cond_true O (I _ st a w G K ω Q hd.1 B.1 h C z)
    |false=>exact wp_cond_false O (J _ st a w G K ω Q hd.2 B.2 h C z)
   .cases h
 |block id b T=>
  intro n st a w G K ω Q hd B h C z;refine wp_block (T n st a w G _ ω _ hd B h C λe m a' w' G' A D=>?_);cases e with
  |normal=>exact z .normal m a' w' G' A D
  |ret=>exact z .ret m a' w' G' A D
  |exit i=>
   simp only[LY,Exit.inBlock];simp only at D;by_cases e:i=id
   .subst e;rw[if_pos rfl];rw[CS]at D;exact z .normal m a' w' G' A D
   .rw[if_neg e];rw[show Nat.beq i id=false by rw[<-B_];exact λU=>e (A5 U)]at D;exact z (.exit i) m a' w' G' A D
 |loop b T=>
  intro n st a w G K ω Q hd B h C z;simp only[LB]at h;simp only[LZ]at B;split at h
  .rename_i s p;rw[p]at B;exact uV R (H B.1) B.2 h C z
  .cases h
 |exit i=>intro n st a w G K ω Q _ _ h C z;exact wp_exit (z (.exit i) st a w G C h)
 |ret=>intro n st a w G K ω Q _ _ h C z;exact wp_ret (z .ret st a w G C h)
 |scope b T=>intro n st a w G K ω Q hd B h C z;refine wp_scope_straight (T n st a w G K ω _ hd B h C λe m a' w' G' A D=>?_);have:=z e m a' w' G' A D;cases e<;>exact this
 |label l=>intro n st a w G K ω Q _ _ h C z;exact wp_label (z .normal st a w G C h)
 |_=>intro n st a w G K ω Q _ _ h;cases h
def AIp(J:WT P fr.dr E){e:Ex}(z:PG P N fr st a w G)(K:∀b,fr.gv b->b∈bs):∀{l:KX (Ex×Kp)} {x:H6 l},R7 E.fs l e st=some x->
 ∃I,Q5 fr.gv fr.w0 fr.i0 w I/\OutS P w I a (LY e) fr.w0.heap.size bs l x:=by
 have m:∀{e B:Ex},R7.sameEx e B=true->B=e:=by
  intro e B h;cases e<;>cases B<;>first|rfl|cases h|skip
  have h:Nat.beq _ _=true:=h;rw[A5 h]
 have A:∀{o:Ex×Kp} {y:Z5 o.2.sh},R7.sameEx o.1 e=true->OP E.fs o.2 (KS o.2 st)=some y->
  ∃I,Q5 fr.gv fr.w0 fr.i0 w I/\LY e=LY o.1/\∃d,R2 P w I o.2.sh y (o.2.tm.map λt=>a.tmps.getD t undef) d/\d.Nodup/\∀b∈d,b∈bs\/fr.w0.heap.size<=b:=by
  intro o y D H;have⟨G0,_,z⟩:=z.frz o.2;have⟨d,k1,O,Q⟩:=A49 J.fs z H;refine⟨G0.im,z.mem.after,by rw[m D],d,k1,O,λb j=>?_⟩;have⟨k,_,R,L,C⟩:=Q b j;rcases TR (z.mem.objs k R L) C with h|h
  .exact .inr h
  .grind
 intro l;induction l with
 |nil=>intro x h;cases h
 |cons o r M=>
  intro x h;cases r with
  |nil=>
   simp only[R7]at h;cases j:R7.sameEx o.1 e with
   |false=>rw[j]at h;cases h
   |true=>rw[j]at h;exact A j h
  |cons p r=>
   simp only[R7]at h;cases j:R7.sameEx o.1 e with
   |false=>
    rw[j]at h;simp only[A8]at h;cases s:R7 E.fs (p::r) e st with
    |none=>grind
    |some y=>rw[s]at h;cases h;exact M s
   |true=>
    rw[j]at h;simp only[A4]at h;cases s:OP E.fs o.2 (KS o.2 st)with
    |none=>grind
    |some y=>rw[s]at h;cases h;exact A j s
def J7(N:Nat)(wrs:KX Nat)(d:Nat):X5:=Nat.blt d N&&F4 d wrs
def S8(dr:X5)(wrs bs:KX Nat)(a:Act)(w:X4)(I:Im):Fr:=⟨(·∈bs),w,I,λt=>if F4 t wrs then none else some (a.tmps.getD t undef),dr⟩
def ZG:∀d,J7 N wrs d=true->d<N/\(S8 dr wrs bs a w I).fx d=none:=by simp_all[J7,A7,C2,S8]
def uW{v:Z5 QJ.sh}(m:I4 w I)(hd:a.defers=[])(j:a.tmps.size=N)(e:R2 P w I QJ.sh v (QJ.tm.map λt=>a.tmps.getD t undef) bs)(d:bs.Nodup):
 ∃G,PG P N (S8 dr wrs bs a w I) (ID QJ v) a w G:=
 uT hd j (λt v h=>by have h:(if F4 t wrs=true then none else some (a.tmps.getD t undef))=some v:=h;grind) (Q5.refl m) (λ_=>AD _) e d λb l=>.inr l
def ZH(j:WT P dr E){s:XY}{x:H6 s.outs}{d:Act}{w0:X4}{e:Ex}(b:PG P N (S8 dr s.wrs bs d w0 I) st a w G)(h:R7 E.fs s.outs e st=some x):
 N5 P dr N s x d w0 I bs (LY e) a w:=
 ⟨b.defs,b.size,λt l=>b.fix t _ (by simp[S8,l]),b.drawn,AIp j b (λ_ h=>h) h⟩
theorem AIq(m:WT P dr E)(b:P.follows .mixedOrders=true){c:Operand}{x y:Code}{s:XY}
 (hd:IK (J7 N s.wrs) (.cond c x y)=true)(Q:W8 P dr N (J7 N s.wrs) (IJ E x (n+1)))(R:W8 P dr N (J7 N s.wrs) (IJ E y (n+1+KC x)))
 (M:s.nd=none)(K:s.kx=none)(H:∀v r,s.F v=some r->eQ E c x y n s.al s.QJ s.outs v=some r):M3 P dr N s (.cond c x y):=by
 unfold M3;intro w I a v bs L A J z C B;rw[M];intro r h;have h:=H v r h;obtain⟨G,j⟩:=uW (wrs:=s.wrs) L A J C B;have j:=uU j z;simp only[IK,A7]at hd;unfold eQ at h;split at h
 .rename_i t O;have l:=j.sr c;rw[O]at l;have l:=l.bool;cases t with
  |true=>exact wp_cond_true l (ZF m b ZG _ _ _ a w G _ r _ hd.1 (ZE Q) h j λe D a' w' G' d p=>ZH m d p)
  |false=>exact wp_cond_false l (ZF m b ZG _ _ _ a w G _ r _ hd.2 (ZE R) h j λe D a' w' G' d p=>ZH m d p)
 .cases h
theorem AIr(z:WT P dr E)(s:P.follows .mixedOrders=true){b:Code}{F:Nat->Z5 QJ.sh->X1 (H6 outs)}
 (hd:IK (J7 N wrs) b=true)(O:W8 P dr N (J7 N wrs) (IJ E b n))(h0:∀v,F 0 v=none)(L:∀k v r,F (k+1) v=some r->tG E b n al QJ outs (F k) v=some r)(m:Nat):
 M3 P dr N ⟨QJ,outs,wrs,F m,al,none,none⟩ (.loop b):=by
 intro w0 I A V bs Q C M B H D r h;obtain⟨G0,j⟩:=uW (wrs:=wrs) Q C M H D;have j:=uU j B;refine wp_loop_rounds m ?_;have key:∀k v a w G,F k v=some r->PG P N (S8 dr wrs bs A w0 I) (VE al QJ v) a w G->Code.rounds P b (N5 P dr N ⟨QJ,outs,wrs,F m,al,none,none⟩ r A w0 I bs) k a w:=by
  intro k;induction k with
  |zero=>grind
  |succ k U=>
   intro v a w G h R;rw[rounds_succ];refine ZF z s ZG _ _ _ a w G _ r _ hd (ZE O) (L k v r h) R λe y a' w' G' d l=>A44 ?_;cases e with
   |normal=>
    simp only at l;split at l
    .rename_i K T;obtain⟨p,J⟩:RY al y.slots=true/\OP E.fs QJ (KS QJ y)=some K:=by grind
     obtain⟨G'',x⟩:=AIn z.fs d J;exact U K a' w' G'' l (uU x (A47 d p))
    .cases l
   |exit i=>exact ZH (s:=⟨QJ,outs,wrs,F m,al,none,none⟩) z d l
   |ret=>exact ZH (s:=⟨QJ,outs,wrs,F m,al,none,none⟩) z d l
 exact key m V A w0 G0 h j
end
section
variable{P:Program}{fr:Fr}{w w':X4}{G G':Gh}{I:Im}
def KG:KX Sh->Nat->KX Nat
 |[],_=>[]
 | .box _::ps,i=>i::KG ps (i+1)
 | .io _ _::ps,i=>i::KG ps (i+1)
 | .R9 _ false::ps,i=>i::KG ps (i+1)
 |_::ps,i=>KG ps (i+1)
def R2.length:∀{l:KX Sh} {x:Z5 l} {vs:KX X2} {bs:KX Nat},R2 P w I l x vs bs->vs.length=l.length:=by
 intro l;induction l with
 |nil=>intro x vs bs h;rw[h.1];rfl
 |cons a l e=>
  intro x vs bs h;cases l with
  |nil=>obtain⟨v,rfl,_⟩:=h;rfl
  |cons b l=>obtain⟨v,j,m,p,rfl,_,_,d⟩:=h;simp[e d]
def PG.slot(h:PG P N fr st a w G)(t:Nat):SR P w G (st.slots t) (a.tmps.getD t undef):=h.sr (.tmp t)
theorem AIs{z:X2}(h:(Instr.loadAt id v).run P w=.ok z w):(asAddr v >>=loadVar id).run P w=.ok z w:=by
 cases v with
 |pointer a=>
  cases a with
  |none=>simp[Instr.loadAt,Instr.sureAddr,stuck]at h
  |some a=>exact h
 |_=>simp[Instr.loadAt,Instr.sureAddr,stuck]at h
def ZI(tmps:Array X2):ResultVar→Sem X2
 | .tmp t=>pure (tmps.getD t undef)
 | .cell a t=>do loadVar t (<-asAddr (tmps.getD a undef))
def AIt(B:WT P fr.dr E)(e:PG P N fr st a w G):∀{l:KX ResultVar} {ss:KX SV},S5 E.ty E.wr st l=some ss->
 ∃d:KX X2,(l.mapM (ZI a.tmps)).run P w=.ok d w/\
  d.length=l.length/\ss.length=l.length/\∀(j:Nat) (s:SV) (v:X2),ss[j]?=some s->d[j]?=some v->SR P w G s v:=by
 intro l;induction l with
 |nil=>intro ss h;cases h;simp
 |cons r l J=>
  intro ss h;cases r with
  |tmp t=>
   simp only[S5]at h;split at h
   .rename_i A b;cases h;have⟨d,K,x,y,L⟩:=J b;refine⟨a.tmps.getD t undef::d,?_,by simp[x],by simp[y],λj s v C H=>?_⟩
    .simp_all[List.mapM_cons,ZI,Sem.run_bind,Sem.run_pure,Result.andThen_ok]
    .cases j with
     |zero=>cases C;cases H;exact e.slot t
     |succ j=>grind
   .cases h
  |cell m t=>
   simp only[S5]at h;split at h
   .rename_i u D;split at h
    .rename_i s0 p;split at h
     .rename_i A b;cases h;have⟨d,K,x,y,L⟩:=J b;obtain⟨z,k1,M⟩:∃z,(Instr.loadAt t (a.tmps.getD m undef)).run P w=.ok z w/\SR P w G s0 z:=by
       cases I:E.wr m with
       |true=>rw[I]at p;exact A2o (B.ty _ _ D) e.mem.objs p (e.slot m)
       |false=>rw[I]at p;exact A2l (B.ty _ _ D) e.mem.objs p (e.slot m)
      have k1:=AIs k1;refine⟨z::d,?_,by simp[x],by simp[y],λj s v C H=>?_⟩
      .rw[List.mapM_cons];grind[ZI,Sem.run_bind,Sem.run_pure,Result.andThen_ok]
      grind
     .cases h
    .cases h
   .cases h
def AIu(A:WT P fr.dr E)(B:PG P N fr st a w G){fn:Func}{ss:KX SV}(h:S5 E.ty E.wr st fn.results.toList=some ss):
 ∃(vs:KX X2) (l:X2),(results fn a.tmps).run P w=.ok l w/\MK vs l/\vs.length=fn.results.toList.length/\ss.length=fn.results.toList.length/\
  ∀(j:Nat) (s:SV) (v:X2),ss[j]?=some s->vs[j]?=some v->SR P w G s v:=by
 have⟨vs,p,x,y,z⟩:=AIt A B h;have b:(results fn a.tmps).run P w=.ok (if h:vs.toArray.size=1 then vs.toArray[0]else .tuple vs.toArray) w:=by
  have d:(fn.results.mapM (ZI a.tmps)).run P w=.ok vs.toArray w:=by rw[Array.mapM_eq_mapM_toList];simp only[Sem.run_map,p,Result.andThen_ok]
  unfold results;have e:(fn.results.mapM λ| .tmp t=>(pure (a.tmps.getD t undef):Sem X2)| .cell m t=>do loadVar t (<-asAddr (a.tmps.getD m undef)))=fn.results.mapM (ZI a.tmps):=by congr 1
  simp only[Sem.run_bind]
  erw[e,d]
  rfl
 refine⟨vs,_,b,?_,x,y,z⟩;rcases vs with _|⟨v,_|⟨C,vs⟩⟩<;>grind[MK]
def AIv{slots:Nat->SV}{tmps:Array X2}(I:∀t,SR P w G (slots t) (tmps.getD t undef)):∀{ps:KX Sh} {i:Nat} {vals:KX X2},vals.length=ps.length->
 (∀j v,vals[j]?=some v->F4 (i+j) (KG ps i)=true->tmps.getD (i+j) undef=v)->
 (KU ps ((List.range' i ps.length).map slots)).length=(IF ps vals).length/\
 ∀(j:Nat) (s:SV) (v:X2),(KU ps ((List.range' i ps.length).map slots))[j]?=some s->(IF ps vals)[j]?=some v->SR P w G s v:=by
 intro ps;have D:∀(ps:KX Sh) (i j:Nat),F4 j (KG ps i)=true->i<=j:=by
  intro ps;induction ps with
  |nil=>intro i j h;cases h
  |cons p ps z=>
   intro i j h;have key:F4 j (KG ps (i+1))=true->i<=j:=λh=>oc;have b:F4 j (i::KG ps (i+1))=true->i<=j:=λh=>by simp only[F4,CD]at h;grind[Nat.eq_of_beq_eq_true]
   cases p with
   |box c=>exact b h
   |io el t=>exact b h
   |R9 el c=>cases c with
    |true=>exact key h
    |false=>exact b h
   |_=>exact key h
 induction ps with
 |nil=>intro i vals y h;exact⟨rfl,λj s v h=>by simp[KU]at h⟩
 |cons p ps z=>
  intro i vals y h;cases vals with
  |nil=>cases y
  |cons l vals=>
   have e:vals.length=ps.length:=by simpa using y
   simp only[BO,List.range'_succ,CT];cases a:EX p with
   |true=>
    have m:KU (p::ps) (slots i::(List.range' (i+1) ps.length).map slots)=slots i::KU ps ((List.range' (i+1) ps.length).map slots):=by cases p<;>first|rfl|(cases a;done)|(rename_i c0;cases c0<;>first|rfl|(cases a;done))
    have x:IF (p::ps) (l::vals)=l::IF ps vals:=by cases p<;>first|rfl|(cases a;done)|(rename_i c0;cases c0<;>first|rfl|(cases a;done))
    have A:KG (p::ps) i=i::KG ps (i+1):=by cases p<;>first|rfl|(cases a;done)|(rename_i c0;cases c0<;>first|rfl|(cases a;done))
    rw[m,x];rw[A]at h;obtain ⟨B,H⟩:=z (i:=i+1) e (λj v d C=>by
     have:=h (j+1) v (by simpa using d) (by simp only[F4,CD];grind);grind)
    refine⟨by simp[B],λj s v d E=>?_⟩;cases j with
    |zero=>cases d;cases E;have:=h 0 l rfl (by simp[F4,CS]);grind
    |succ j=>grind
   |false=>
    have m:KU (p::ps) (slots i::(List.range' (i+1) ps.length).map slots)=KU ps ((List.range' (i+1) ps.length).map slots):=by cases p<;>first|rfl|(cases a;done)|(rename_i c0;cases c0<;>first|rfl|(cases a;done))
    have x:IF (p::ps) (l::vals)=IF ps vals:=by cases p<;>first|rfl|(cases a;done)|(rename_i c0;cases c0<;>first|rfl|(cases a;done))
    have A:KG (p::ps) i=KG ps (i+1):=by cases p<;>first|rfl|(cases a;done)|(rename_i c0;cases c0<;>first|rfl|(cases a;done))
    rw[m,x];exact z (i:=i+1) e (λj v d C=>by have:=h (j+1) v (by simpa using d) oc;grind)
def PG.frzE{wr:Nat->X5}(h:PG P N fr st a w G)(l:KX ResultVar):∃G',PC w G w G'/\PG P N fr (TK wr st l) a w G':=by have⟨G',b,d⟩:=uK (fz:=N_ st.sto (eR wr st l)) h.mem uL;exact⟨G',b,λt=>(h.slots t).mono b λ_ _ _ _=>Iff.rfl,h.defs,h.size,h.fix,h.nogrd,d,h.drawn⟩
def S9(N:Nat)(ps:KX Sh)(d:Nat):X5:=Nat.blt d N && !(F4 d (KG ps 0))
theorem AIw(W:WT P dr E)(Q:P.follows .mixedOrders=true){fn:Func}{ps:KX Sh}{F:Z5 ps->X1 (Z5 (rs++ps.filter EX))}
 (hf:P.funcs[f]?=some fn)(J:fn.body=some c)(hd:IK (S9 fn.ntmps ps) c=true)(hn:Nat.ble ps.length fn.ntmps=true)(hl:Nat.beq fn.results.toList.length rs.length=true)
 (hc:W8 P dr fn.ntmps (S9 fn.ntmps ps) (IJ E c 0))(hF:∀v r,F v=some r->eS E fn ps rs v=some r):Z9 P f ⟨ps,rs,F,dr⟩:=by
 intro w I v m bs hm h9 h7 r R;have R:=hF v r R;have hn:=CN hn;have hl:=A5 hl;have N:m.length=ps.length:=h9.length;let fr:Fr:=⟨(·∈bs),w,I,λt=>if F4 t (KG ps 0)then some (m.getD t undef)else none,dr⟩
 let tm:Array X2:=m.toArray++Array.replicate (fn.ntmps-m.toArray.size) undef
 let a0:Act:=⟨tm,[]⟩
 have x1:∀t,t<m.length->tm.getD t undef=m.getD t undef:=by intro t ht;simp[tm,CK,Array.getElem?_append_left,ht]
 have x2:∀(ps:KX Sh) (i j:Nat),F4 j (KG ps i)=true->j<i+ps.length:=by
  intro ps;induction ps with
  |nil=>intro i j h;cases h
  |cons p ps ih=>
   intro i j h;have key:F4 j (KG ps (i+1))=true->j<i+(ps.length+1):=λh=>oc;have A:F4 j (i::KG ps (i+1))=true->j<i+(ps.length+1):=λh=>by simp only[F4,CD]at h;grind[Nat.eq_of_beq_eq_true]
   cases p with
   |box c=>exact A h
   |io el t=>exact A h
   |R9 el c=>cases c with
    |true=>exact key h
    |false=>exact A h
   |_=>exact key h
 have Y:(List.range ps.length).map (λt=>tm.getD t undef)=m:=by
  apply BN;intro j;rw[AS];by_cases h:j<ps.length
  .grind
  .grind
 have C:∀d,S9 fn.ntmps ps d=true->d<fn.ntmps/\fr.fx d=none:=λd hd=>by simp only[S9,A7,C2,BM]at hd;grind
 obtain ⟨G0,h8⟩:=uT (P:=P) (fr:=fr) (N:=fn.ntmps) (k:=⟨List.range ps.length,ps⟩) (v:=v) (a:=a0) (I:=I) rfl oc (λt v' h=>by grind) (Q5.refl hm) (λ_=>AD _) oc h7 (λb J=>.inr J);refine calls_of_wp hf J ?_;unfold eS at R;rw[J]at R
 have K:∀(x:St) (a':Act) (w':X4) (G':Gh),PG P fn.ntmps fr x a' w' G'->
  (match S5 E.ty E.wr (TK E.wr x fn.results.toList) fn.results.toList with
   |some l=>RX E.fs (dU (TK E.wr x fn.results.toList).sto (rs++ps.filter EX) (l++KU ps ((List.range ps.length).map (TK E.wr x fn.results.toList).slots))) (rs++ps.filter EX) (l++KU ps ((List.range ps.length).map (TK E.wr x fn.results.toList).slots))
   |none=>none)=some r->
  a'.defers=[]/\∃v,(results fn a'.tmps).run P w'=.ok v w'/\∃T H I' z,Ending.returned v=.returned T/\H.length=rs.length/\MK H T/\Q5 (·∈bs) w I w' I'/\
   R2 P w' I' (rs++ps.filter EX) r (H++IF ps m) z/\z.Nodup/\(∀b∈z,b∈bs\/w.heap.size<=b)/\(fr.dr=true->w.drawn<=w'.drawn):=by
  intro x a' w' G' y h;refine⟨y.defs,?_⟩;obtain⟨G1,_,y⟩:=y.frzE fn.results.toList;generalize TK E.wr x fn.results.toList=x at h y;split at h
  .rename_i V x0;obtain⟨H,T,h1,h2,h3,h4,h5⟩:=AIu W y x0;obtain ⟨b1,b2⟩:=AIv (slots:=x.slots) (tmps:=a'.tmps) y.slot (ps:=ps) (i:=0) (vals:=m) N (λj v M hh=>by
    rw[BH]at hh ⊢;exact y.fix j v (by grind))
   rw[<-List.range_eq_range']at b1 b2;have B:V.length=H.length:=by rw[h4,h3]
   obtain⟨G2,L,D⟩:=A3i y.mem (rs++ps.filter EX) (V++KU ps ((List.range ps.length).map x.slots));obtain ⟨z,k1,k2,k3⟩:=fM D W.fs (vs:=H++IF ps m) h (by rw [AL,AL,b1,B]) (λj s v M U=>by
    by_cases O:j<V.length
    .rw[BC O]at M;rw[BC oa]at U;exact(h5 j s v M U).mono L
    .have h6:V.length<=j:=D6 O;rw[BI h6]at M;rw[BI oa,<-B]at U;exact(b2 _ s v M U).mono L)
   refine⟨T,h1,T,H,G2.im,z,rfl,by rw[h3,hl],h2,D.after,k1,k2,λb J=>?_,y.drawn⟩;obtain⟨k,_,o,ho,Z⟩:=k3 b J;rcases TR (D.objs k o ho) Z with h|h<;>grind
  .cases h
 refine ZF W Q C c 0 _ a0 w G0 _ r _ hd (ZE hc) R h8 λe x a' w' G' y X=>?_;cases e with
 |normal=>exact K x a' w' G' y X
 |ret=>exact K x a' w' G' y X
 |exit i=>cases X
end
def E0{α β:Type}(r:(α->X1 β)->α->X1 β):Nat->α->X1 β
 |0=>λ_=>none
 |k+1=>r (E0 r k)
def sub:Code->KX Nat->Code
 |c,[]=>c
 | .seq a b,i::r=>bif Nat.beq i 0 then sub a r else sub b r
 | .cond _ a b,i::r=>bif Nat.beq i 0 then sub a r else sub b r
 | .block _ b,_::r=>sub b r
 | .scope b,_::r=>sub b r
 | .loop b,_::r=>sub b r
 |_,_=>.skip
def uX:Code->Operand
 | .cond c _ _=>c
 |_=>.tmp 0
def EF(f:Func):Code:=match f.body with
 |some c=>c
 |none=>.skip
def uY(P:Program)(l:KX (Nat×Ty)):X5:=l.all λp=>(W5 P p.2).1 p.1
def uZ(P:Program)(l:KX (Nat×Nat)):X5:=l.all λp=>match P.underlying p.1 with
 |some (.slice x)=>Nat.beq p.2 x
 |some (.map _ _)=>true
 |_=>false
def fY(P:Program)(l:KX (Nat×Nat))(i:Nat):Nat:=match IC l i with
 |some x=>x
 |none=>match P.underlying i with
  |some (.slice x)=>x
  |_=>0
def u_(P:Program)(l:KX (Nat×Nat)):X5:=l.all λp=>match P.underlying p.1 with
 |some (.map x _)=>Nat.beq p.2 x
 |_=>false
def fZ(P:Program)(l:KX (Nat×Nat))(i:Nat):Nat:=match IC l i with
 |some x=>x
 |none=>match P.underlying i with
  |some (.map x _)=>x
  |_=>0
def ZJ:∀{l:KX (Nat×α)} {i:Nat} {x:α},IC l i=some x->(i,x)∈l:=by intro l;induction l<;>grind[IC,Nat.beq,Nat.eq_of_beq_eq_true,List.mem_cons_self,List.mem_cons_of_mem]
section
variable{P:Program}
def FsOK(P:Program):KX (Nat×Q2)->Prop
 |[]=>True
 |p::r=>(FJ P p.1/\Z9 P p.1 p.2)/\FsOK P r
def AIx(_:Program)(_:KX (Nat×Unit)):Prop:=True
theorem FsOK.mem:∀{l:KX (Nat×Q2)},FsOK P l->∀f s,(f,s)∈l->FJ P f/\Z9 P f s:=by
 intro l;induction l with
 |nil=>simp
 |cons p r b=>
  intro h f s a;rcases B1.1 a with rfl|a
  .exact h.1
  .exact b h.2 f s a
def ZK:KX (String×Nat×Nat)->String->Nat->X1 Nat
 |[],_,_=>none
 |x::r,m,id=>bif x.1==m&&Nat.beq x.2.1 id then some x.2.2 else ZK r m id
def MsOK(P:Program):KX (String×Nat×Nat)->Prop
 |[]=>True
 |x::r=>(∀(v:X2) (w:X4),(method (P.types.size+Made.depth) x.2.1 v x.1).run P w=.ok (x.2.2,v) w)/\MsOK P r
theorem MsOK.look:∀{l:KX (String×Nat×Nat)},MsOK P l->∀m id f,ZK l m id=some f->∀(v:X2) (w:X4),(method (P.types.size+Made.depth) id v m).run P w=.ok (f,v) w:=by
 intro l;induction l with
 |nil=>intro _ m id f h;cases h
 |cons x r d=>
  intro h m id f b;unfold ZK at b;cases a:(x.1==m&&Nat.beq x.2.1 id)with
  |false=>rw[a]at b;exact d h.2 m id f b
  |true=>rw[a]at b;simp only[A7,CM]at a;have e:=A5 a.2;cases b;rw[<-a.1,<-e];exact h.1
def vA(P:Program)(tys:KX (Nat×Ty))(eqs:KX Nat):X5:=eqs.all λi=>match IC tys i with
 |some t=>O6 P t i
 |none=>true
theorem AIy{tys:KX (Nat×Ty)}{els:KX (Nat×Nat)}{fs:KX (Nat×Q2)}{ms:KX (String×Nat×Nat)}{eqs:KX Nat}{kys:KX (Nat×Nat)}{b:KX (Nat×Unit)}{dp:Nat->Nat}{cut:Nat->X1 XY}{wr:Nat->X5}(C:CB.P=P)(d:uY P tys=true)(e:uZ P els=true)(z:FsOK P fs)(A:MsOK P ms)(j:vA P tys eqs=true)(l:u_ P kys=true)(a:(!dr||(fs.all λp=>p.2.dr)&&true)=true)(D:AIx P b):
 WT P dr ⟨IC tys,IC fs,cut,wr,fY P els,ZK ms,(λt=>F4 t eqs),dr,dp,fZ P kys,IC b⟩:=by
 refine⟨C,λh=>h,λhd f w h=>?_,λid t h=>?_,λid x h=>?_,λf w h=>z.mem f w (ZJ h),A.look,λid t B s=>?_,λid x y h=>?_⟩
 .subst hd;simp only[B7,C1,A7]at a;exact BW.1 a.1 _ (ZJ h)
 .unfold uY at d;rw[BW]at d;exact d _ (ZJ h)
 .unfold uZ at e;rw[BW]at e;show fY P els id=x;unfold fY;cases m:IC els id with
  |none=>simp only[h]
  |some y=>have:=e _ (ZJ m);simp only[h]at this;exact A5 this
 .unfold vA at j;rw[BW]at j;have a:=j id (OU.1 B);have s:IC tys id=some t:=s;rw[s]at a;exact a
 .unfold u_ at l;rw[BW]at l;show fZ P kys id=x;unfold fZ;cases m:IC kys id with
  |none=>simp only[h]
  |some y=>have:=l _ (ZJ m);simp only[h]at this;exact A5 this
def AIz(m:WT P dr E)(a:P.follows .mixedOrders=true){fn:Func}{ps:KX Sh}{F:Z5 ps->X1 (Z5 (rs++ps.filter EX))}
 (j:P.funcs[f]?=some fn)(d:(fn.name== "runtime.NumGoroutine")=false)(e:fn.body=some c)(hd:IK (S9 fn.ntmps ps) c=true)(x:Nat.ble ps.length fn.ntmps=true)(w:Nat.beq fn.results.toList.length rs.length=true)
 (b:IJ E c 0=l)(s:W8 P dr fn.ntmps (S9 fn.ntmps ps) l)(p:∀v,eS E fn ps rs v=F v):FJ P f/\Z9 P f ⟨ps,rs,F,dr⟩:=by
 subst b;exact⟨⟨fn,c,j,d,e⟩,AIw m a j e hd x w s λv r h=>(p v).trans h⟩
def AJ0(e:WT P dr E)(a:P.follows .mixedOrders=true){b:Code}{r:(Z5 QJ.sh->X1 (H6 outs))->Z5 QJ.sh->X1 (H6 outs)}
 (hd:IK (J7 N wrs) b=true)(d:IJ E b n=l)(p:W8 P dr N (J7 N wrs) l)(j:∀next v,tG E b n al QJ outs next v=r next v)(m:Nat):
 M3 P dr N ⟨QJ,outs,wrs,E0 r m,al,none,none⟩ (.loop b):=by
 subst d;exact AIr e a hd p (λ_=>rfl) (λk v x h=>(j _ v).trans h) m
def AJ1(j:WT P dr E)(a:P.follows .mixedOrders=true){c:Operand}{x y:Code}{F:Z5 QJ.sh->X1 (H6 outs)}{l e:KX (XY×Code)}
 (hd:IK (J7 N wrs) (.cond c x y)=true)(b:IJ E x (n+1)=l)(d:IJ E y (n+1+KC x)=e)(p:W8 P dr N (J7 N wrs) l)(s:W8 P dr N (J7 N wrs) e)
 (m:∀v,eQ E c x y n al QJ outs v=F v):M3 P dr N ⟨QJ,outs,wrs,F,al,none,none⟩ (.cond c x y):=by
 subst b d;exact AIq (s:=⟨QJ,outs,wrs,F,al,none,none⟩) j a hd p s rfl rfl λv r h=>(m v).trans h
def A4A{e:Ty}{F1:Z5 [Sh.nilS]->X1 (Z5 (rs++[Sh.nilS].filter EX))}{F2:Z5 [Sh.nns e]->X1 (Z5 (rs++[Sh.nns e].filter EX))}
 {F:Z5 [Sh.val (.slice e)]->X1 (Z5 (rs++[Sh.val (.slice e)].filter EX))}
 (B:FJ P f/\Z9 P f ⟨[.nilS],rs,F1,dr⟩)(H:FJ P f/\Z9 P f ⟨[.nns e],rs,F2,dr⟩)(E:F1 ()=F ([]:KX e.T))(G:∀x,F2 x=F x):FJ P f/\Z9 P f ⟨[.val (.slice e)],rs,F,dr⟩:=by
 refine⟨B.1,λw I v A bs C s K r D=>?_⟩;obtain⟨j,rfl,L,rfl⟩:=s;obtain⟨c,J,a,b,p,l,h,m⟩:=L;have d:j=.slice a (show KX e.T from v).length b:=AB.1 ((show c=[j]from J).symm.trans p);cases a with
 |none=>obtain⟨y,rfl⟩:=h rfl;have y:v=([]:KX e.T):=y;subst y;exact B.2 w I () [j] [] C ⟨j,rfl,rfl,by rw[d];rfl⟩ AW r (E.trans D)
 |some z=>exact H.2 w I v [j] [] C ⟨j,rfl,rfl,⟨some z,b,by rw[d],l,h,m⟩,z,_,b,by rw[d]⟩ AW r ((G v).trans D)
end
open Go.MapKept Go.ChangeMaps
section
variable{dr:X5}
variable{P:Program}{w w':X4}{G G':Gh}{I:Im}
def vB(b:all[i]?=some o)(h:o.guard=none)
 (d:(execOp a.eval o).run P w=.ok (.value v) w')(hk:K (a.put o.dst v) w'):wpOp P all Q i K a w:=by
 unfold wpOp;simp only[b];rw[if_pos (by unfold Region.wanted;rw[h])];left;unfold Oper.wp;rw[d];exact hk
def TW:Sh->X5
 | .val _=>true
 | .own _ _ _=>true
 |_=>false
def RF.aside(D:TW s=true){x:s.T}(h:RF P w I s x cs bs)(e:Ext w I w' I)(C:∀b∈bs,w'.heap[b]?=w.heap[b]?):RF P w' I s x cs bs:=by
 cases s<;>first|(cases D;done)|skip
 .exact⟨h.1.ext e,h.2⟩
 .rcases h with h|⟨b,a,cells,j,d,l,m,p,y,z,A,B⟩
  .exact .inl h
  .exact .inr ⟨b,a,cells,j,d,l,m.keep (C b (by rw[d];simp)),p,λi x E=>(y i x E).ext e,z,A,B⟩
def ShV.aside(e:TW s=true){x:s.T}(h:ShV P w I s x v bs)(a:Ext w I w' I)(d:∀b∈bs,w'.heap[b]?=w.heap[b]?):ShV P w' I s x v bs:=by
 cases s<;>first|(cases e;done)|skip
 .exact⟨h.1.ext a,h.2⟩
 .exact RF.aside (P:=P) (s:=.own _ _ _) rfl h a d
def R2.aside:∀{l:KX Sh},l.all TW=true->∀{x:Z5 l} {vs:KX X2} {bs:KX Nat},R2 P w I l x vs bs->Ext w I w' I->(∀b∈bs,w'.heap[b]?=w.heap[b]?)->R2 P w' I l x vs bs:=by
 intro l;induction l with
 |nil=>intro _ x vs bs h _ _;exact h
 |cons a l D=>
  intro d x vs bs h p m;simp only[List.all_cons,A7]at d;cases l with
  |nil=>obtain⟨v,e,j⟩:=h;exact⟨v,e,ShV.aside d.1 j p m⟩
  |cons b r=>obtain⟨v,s,y,z,e,j,A,B⟩:=h;refine⟨v,s,y,z,e,j,ShV.aside d.1 A p λc C=>m c oc,D d.2 B p λc C=>m c oc⟩
def RF.lt(e:TW s=true){x:s.T}(h:RF P w I s x cs bs):∀b∈bs,b<w.heap.size:=by
 cases s<;>first|(cases e;done)|skip
 .intro b a;rw[h.2]at a;cases a
 .rcases h with h|⟨b,d,cells,j,l,m,⟨fz,p,_⟩,_⟩<;>grind
def ShV.lt(d:TW s=true){x:s.T}(h:ShV P w I s x v bs):∀b∈bs,b<w.heap.size:=by
 cases s<;>first|(cases d;done)|skip
 .intro b a;rw[h.2]at a;cases a
 .exact RF.lt (P:=P) (s:=.own _ _ _) rfl h
def R2.lt:∀{l:KX Sh},l.all TW=true->∀{x:Z5 l} {vs:KX X2} {bs:KX Nat},R2 P w I l x vs bs->∀b∈bs,b<w.heap.size:=by
 intro l;induction l with
 |nil=>intro _ x vs bs h b m;rw[h.2]at m;cases m
 |cons a l C=>
  intro j x vs bs h;simp only[List.all_cons,A7]at j;cases l with
  |nil=>obtain⟨v,p,e⟩:=h;exact ShV.lt j.1 e
  |cons b r=>
   obtain⟨v,y,z,A,p,e,s,B⟩:=h;intro c d;rw[e]at d;rcases AX.1 d with d|d
   .exact ShV.lt j.1 s c d
   grind
def N6{α:Type}(es:KX α)(Z6:KX MapEntry)(seen:Array Nat):KX α:=((es.zip Z6).filter λp=>!seen.contains p.2.born).map (·.1)
def AJ2{e:KX α}{Z6:KX MapEntry}(h:e.length=Z6.length):N6 e Z6 #[]=e:=by grind[N6,List.filter_eq_self,List.map_fst_zip]
theorem AJ3{a:KX α}{seen:Array Nat}(h:(leftOf Z6 seen).size=0):N6 a Z6.toList seen=[]:=by unfold N6;rw[List.filter_eq_nil_iff.2,List.map_nil];rintro⟨x,e⟩ b d;have j:e∈Z6.toList:=(List.of_mem_zip b).2;simp_all[leftOf,Array.mem_filter,Array.mem_toList_iff,Array.eq_empty_of_size_eq_zero]
def AJ4{f:α×MapEntry->X5}:∀{Z:KX (α×MapEntry)},(Z.map (·.2.born)).Nodup->∀{p:α×MapEntry},p∈Z->f p=true->(Z.filter f).Perm (p::Z.filter λq=>f q && !(q.2.born==p.2.born)):=by
 intro Z;induction Z with
 |nil=>simp
 |cons q Z l=>
  intro d p a b;have⟨m,s⟩:=AY.1 d;rcases B1.1 a with rfl|a
  .rw[List.filter_cons_of_pos b,List.filter_cons_of_neg oh];refine List.Perm.cons _ (List.Perm.of_eq ?_);apply List.filter_congr;grind
  .have j:q.2.born≠p.2.born:=λe=>m (BP.2 ⟨p,a,e.symm⟩);cases h:f q with
   |true=>rw[List.filter_cons_of_pos h,List.filter_cons_of_pos (by simp[h,j])];exact((l s a b).cons q).trans (.swap p q _)
   |false=>grind
def A4B{a:KX α}{seen:Array Nat}(m:a.length=Z6.size)(y:(Z6.toList.map (·.born)).Nodup){e:MapEntry}(d:e∈(leftOf Z6 seen).toList):
 ∃(i:Nat) (x:α),a[i]?=some x/\Z6[i]?=some e/\e∈Z6.toList/\(N6 a Z6.toList seen).Perm (x::N6 a Z6.toList (seen.push e.born)):=by
 have d:=Array.mem_toList_iff.1 d;unfold leftOf at d;rw[Array.mem_filter]at d;obtain⟨s,w⟩:=d;have b:=Array.mem_toList_iff.2 s;have⟨i,hi⟩:=BR b;have j:i<Z6.toList.length:=(A3.1 hi).1;have h:i<a.length:=by simpa[m]using j
 refine⟨i,a[i],A1 h,oc,b,?_⟩;have z:(a[i],e)∈a.zip Z6.toList:=by apply AE (i:=i);rw[List.getElem?_zip_eq_some];exact⟨A1 h,hi⟩
 have l:((a.zip Z6.toList).map (·.2.born)).Nodup:=by rw[show((a.zip Z6.toList).map (·.2.born))=((a.zip Z6.toList).map (·.2)).map (·.born) by simp,List.map_snd_zip (by simp[m])];exact y
 unfold N6;have:=(AJ4 (f:=λp:α×MapEntry=>!seen.contains p.2.born) l z w).map (·.1);grind
structure LoopI(P:Program)(dr:X5)(N:Nat)(QJ:Kp)(wrs:KX Nat)(a0:Act)(w0:X4)(I0:Im)(bs:KX Nat)(d2 r:Nat)(a:Act)(w:X4)(I:Im)(u:Z5 QJ.sh)(bs':KX Nat):Prop where
 mem:I4 w I
 aft:Q5 (·∈bs) w0 I0 w I
 defs:a.defers=[]
 size:a.tmps.size=N
 fix:∀t,F4 t wrs=false->a.tmps.getD t undef=a0.tmps.getD t undef
 drawn:dr=true->w0.drawn<=w.drawn
 sh:R2 P w I QJ.sh u (QJ.tm.map λt=>a.tmps.getD t undef) bs'
 nod:bs'.Nodup
 bsub:∀c∈bs',c∈bs\/w0.heap.size<=c
 ptr:a.tmps.getD d2 undef=.pointer (some ⟨r,0,none⟩)
 rge:w0.heap.size<=r
 rlt:r<w.heap.size
 rbs:r ∉ bs'
 rC:∀o,¬I.cell r o
 rO:¬I.obj r
section
variable{N d2 r:Nat}{QJ:Kp}{wrs bs bs':KX Nat}{a0 a:Act}{w0:X4}{I0:Im}{u:Z5 QJ.sh}
def LoopI.put(h:LoopI P dr N QJ wrs a0 w0 I0 bs d2 r a w I u bs'){d:Nat}(hd:d<N)(l:F4 d wrs=true)(hi:F4 d QJ.tm=false)(j:d≠d2)(v:X2):
 LoopI P dr N QJ wrs a0 w0 I0 bs d2 r (a.put (some d) v) w I u bs':=by
 have g:∀t,(a.put (some d) v).tmps.getD t undef=if d=t then v else a.tmps.getD t undef:=λt=>by rw[QB h.size (λ_ e=>oc)];simp
 refine⟨h.mem,h.aft,by rw[uM];exact h.defs,by rw[fU];exact h.size,λt b=>?_,h.drawn,?_,h.nod,h.bsub,?_,h.rge,h.rlt,h.rbs,h.rC,h.rO⟩
 .rw[g,if_neg (λe=>oc)];exact h.fix t b
 .have e:(QJ.tm.map λt=>(a.put (some d) v).tmps.getD t undef)=QJ.tm.map λt=>a.tmps.getD t undef:=by apply List.map_congr_left;intro t b;rw[g,if_neg (λe=>by grind[OU])]
  rw[e];exact h.sh
 .rw[g,if_neg j];exact h.ptr
def LoopI.iter(h:LoopI P dr N QJ wrs a0 w0 I0 bs d2 r a w I u bs')(hp:QJ.sh.all TW=true){w1:X4}(hw1:w1=w\/w1=w.drew)(o:Go.Obj):
 LoopI P dr N QJ wrs a0 w0 I0 bs d2 r a (setBlock w1 r o) I u bs':=by
 have hh:∀j,j≠r->(setBlock w1 r o).heap[j]?=w.heap[j]?:=by
  intro j hj;have e:(setBlock w1 r o).heap=w.heap.setIfInBounds r o:=by rcases hw1 with rfl|rfl<;>rfl
  rw[e,Array.getElem?_setIfInBounds,if_neg (λe=>hj e.symm)]
 have hsz:(setBlock w1 r o).heap.size=w.heap.size:=by
  have e:(setBlock w1 r o).heap=w.heap.setIfInBounds r o:=by rcases hw1 with rfl|rfl<;>rfl
  rw[e,Array.size_setIfInBounds]
 have hos:(setBlock w1 r o).os=w.os/\(setBlock w1 r o).tape=w.tape/\(setBlock w1 r o).output=w.output/\w.drawn<=(setBlock w1 r o).drawn:=by
  rcases hw1 with rfl|rfl
  .exact⟨rfl,rfl,rfl,AD _⟩
  .exact⟨rfl,rfl,rfl,Nat.le_succ _⟩
 have he:Ext w I (setBlock w1 r o) I:=Ext.of_heap hh h.rC h.rO;have hm:I4 (setBlock w1 r o) I:=⟨λb o h'=>by rw[hsz];exact h.mem.1 b o h',λb h'=>by rw[hsz];exact h.mem.2.1 b h',h.mem.2.2.ext he⟩;have ha:Q5 (·∈[r]) w I (setBlock w1 r o) I:=⟨he,λb _ hb=>hh b (by simpa using hb),oa,λ_ _ h=>.inl h,λ_ h=>.inl h,hm.1,hm.2.1,hos.1,hos.2.1,hos.2.2.1,hm.2.2⟩
 refine ⟨hm, h.aft.trans ha (fun b hb => .inr (by have : b = r := by simpa using hb
                                                  rw[this];exact h.rge)),h.defs,h.size,h.fix,λhd=>AM (h.drawn hd) hos.2.2.2,h.sh.aside hp he (λb hb=>hh b (λe=>h.rbs (e▸hb))),h.nod,h.bsub,h.ptr,h.rge,by rw[hsz];exact h.rlt,h.rbs,h.rC,h.rO⟩
def LoopI.body(h:LoopI P dr N QJ wrs a0 w0 I0 bs d2 r a w I u bs')(z:∀t,F4 t wrs=false->F4 t wrsB=false)(y:F4 d2 wrsB=false){x:Z5 QJ.sh}
 (C:N5 P dr N ⟨QJ,[(.normal,QJ)],wrsB,λ_=>none,[],none,none⟩ x a w I bs' e a' w'):
 e=.normal/\w'.heap[r]?=w.heap[r]? /\∃I' d,Ext w I w' I'/\LoopI P dr N QJ wrs a0 w0 I0 bs d2 r a' w' I' x d:=by
 obtain⟨D,E,p,H,I',j,G⟩:=C;obtain⟨B,d,s1,J,s⟩:=G;refine⟨B,j.heap r h.rlt h.rbs,I',d,j.ext,⟨j.mem,h.aft.trans j h.bsub,D,E,λt m=>(p t (z t m)).trans (h.fix t m),λhd=>AM (h.drawn hd) (H hd),s1,J,λc A=>?_,?_,h.rge,AQ h.rlt j.size,λl=>?_,λo l=>?_,λl=>?_⟩⟩
 .rcases s c A with b|b
  .exact h.bsub c b
  .exact .inr (AM h.aft.size b)
 .exact(p d2 y).trans h.ptr
 .rcases s r l with b|b
  .exact h.rbs b
  .exact AA _ (AQ h.rlt b)
 .rcases j.newC r o l with b|b|b
  .exact h.rC o b
  .exact AA _ (AQ h.rlt b)
  .exact h.rbs b
 .rcases j.newO r l with b|b|b
  .exact h.rO b
  .exact AA _ (AQ h.rlt b)
  .exact h.rbs b
end
def M3.of_eq{s:XY}{c':Code}(h:M3 P dr N s c)(e:c=c'):M3 P dr N s c':=e▸h
def JI:Code->Array Oper
 | .region _ o _=>o
 |_=>#[]
end
section
variable{dr:X5}
variable{P:Program}{w w':X4}{G G':Gh}{I:Im}{Ω:Type}
noncomputable def A4C(E:Env)(ops:Array Oper)(C:Code)(n d5:Nat)(k v:Ty)(x:k.T×v.T)(st:St)(K:Ex->St->X1 Ω):X1 Ω:=
 bif LA ops then none else
 PY E ops false st.n (ops.toList.drop 1) 1 {slots:=O3 st.slots (some d5) (.tup (.scons (.val k x.1) (.scons (.val v x.2) .snil))),sto:=st.sto,n:=st.n} [] λst' _=>LB E C n {slots:=st'.slots,sto:=st'.sto,n:=st.n+8*ops.size} K
noncomputable def vC(E:Env)(y:Nat)(ops:Array Oper)(C:Code)(n d5:Nat)(k v:Ty)(QJ rk:Kp)(x:k.T×v.T)(u:Z5 QJ.sh):X1 (Sum (Z5 QJ.sh) (Z5 rk.sh)):=
 A4C E ops C n d5 k v x (ID QJ u) λe st=>R7 E.fs [(.normal,QJ),(.ret,rk)] (match e with| .exit i=>bif Nat.beq i y then .normal else .exit i|e=>e) st
theorem AJ5(Q:WT P dr E)(J:P.follows .mixedOrders=true){y L d5:Nat}{C:Code}{rk:Kp}{k vt:Ty}{x:k.T×vt.T}{o0:Oper}
 (h0:ops[0]?=some o0)(p0:o0.op=.entry (.tmp L)/\o0.dst=some d5)
 (hd:IK (J7 N wrs) (.seq (.region id ops false) C)=true)(hc:W8 P dr N (J7 N wrs) (IJ E C n)){v:Z5 QJ.sh}{A:Sum (Z5 QJ.sh) (Z5 rk.sh)}{key val:X2}
 (hm:I4 w I)(U:a.defers=[])(R:a.tmps.size=N)(Z:R2 P w I QJ.sh v (QJ.tm.map λt=>a.tmps.getD t undef) bs)(W:bs.Nodup)
 (h6:(Instr.entry (a.tmps.getD L undef)).run P w=.ok (.tuple #[key,val]) w)(hx:Z4 w I k x.1 key)(h4:Z4 w I vt x.2 val)(O:vC E y ops C n d5 k vt QJ rk x v=some A):
 (Code.block y (.seq (.region id ops false) C)).wp P (N5 P dr N ⟨QJ,[(.normal,QJ),(.ret,rk)],wrs,λ_=>none,[],none,none⟩ A a w I bs) a w:=by
 have⟨G,z⟩:=uW (dr:=dr) (wrs:=wrs) hm U R Z W;unfold vC A4C at O;cases hg:LA ops with
 |true=>grind
 |false=>
 rw[hg]at O;simp only[A8]at O;simp only[IK,A7]at hd;have m:∀(j:Nat) o d,ops[j]?=some o->o.dst=some d->d<N/\(S8 dr wrs bs a w I).fx d=none:=by intro j o d hj ho;have D:=hd.1;simp only[BW]at D;have:=D o (AE (by simpa using hj));rw[ho]at this;exact ZG d this
 have V:n5 ops:=A43 λhh=>oc;have X:∀(j:Nat) o,ops[j]?=some o->o.guard=none:=by
  intro j o hj;cases h9:o.guard with
  |none=>rfl
  |some p=>grind[uO]
 have h2:1<=ops.size:=by have:=(B6.1 h0).1;omega
 have h8:=m 0 o0 d5 h0 p0.2;refine wp_block (wp_seq (wp_region ?_));rw[List.range_eq_range',show ops.size=(ops.size-1)+1 by omega,List.range'_succ,wpOps_cons];refine vB h0 (X 0 o0 h0) (v:=.tuple #[key,val]) (w':=w) ?_ ?_
 .simp only[execOp,p0.1];rw[show a.eval (.tmp L)=a.tmps.getD L undef from rfl];simp_all
 rw[p0.2];have g5:∀t,(a.put (some d5) (.tuple #[key,val])).tmps.getD t undef=if d5=t then .tuple #[key,val]else a.tmps.getD t undef:=λt=>by rw[QB R (λd h=>oc)];simp
 have H:(ops.toList.drop 1).length=ops.size-1:=oh;have h3:∀t,SR P w G ((ID QJ v).slots t) (a.tmps.getD t undef):=by intro t;have h1:PJ P w G a ((ID QJ v).slots t) (a.tmps.getD t undef):=z.slots t;have h2:∀tk g s,(ID QJ v).slots t≠.grd tk g s:=z.nogrd t;generalize (ID QJ v).slots t=s at h1 h2;cases s<;>first|exact h1|grind
 have K:n9 P N (S8 dr wrs bs a w I) (λk=>(ID QJ v).n+8*1<=k) (DS ops (λj=>decide (j<1))) (O3 (ID QJ v).slots (some d5) (.tup (.scons (.val k x.1) (.scons (.val vt x.2) .snil)))) (ID QJ v).sto
  (a.put (some d5) (.tuple #[key,val])) w G:=by
  refine⟨λt=>?_,by assumption,by rw[fU];exact R,λt u h=>?_,λt tk g s h=>?_,z.mem.shrink λk hk=>oa,z.drawn⟩
  .rw[S7,g5];by_cases M:d5=t
   .rw[if_pos (by rw[M]),if_pos M];have⟨c1,q1,q2⟩:=hx.ext z.mem.after.ext;have⟨c2,q3,q4⟩:=h4.ext z.mem.after.ext;exact SR.s7 ⟨[.tuple #[key,val]],rfl,#[key,val],rfl,key,[val],rfl,⟨c1,q1,q2⟩,val,[],rfl,⟨c2,q3,q4⟩,rfl⟩
   .rw[if_neg (λh=>M (A2 h)),if_neg M];exact(h3 t).s7
  .rw[g5,if_neg (λe=>oc)];exact z.fix t u h
  .rw[S7]at h;split at h
   .cases h
   .exact absurd h (z.nogrd t tk g s)
 have:=A3q Q V m (Q:=Exit.then (C.wp P (Exit.inBlock y (N5 P dr N ⟨QJ,[(.normal,QJ),(.ret,rk)],wrs,λ_=>none,[],none,none⟩ A a w I bs))) (Exit.inBlock y (N5 P dr N ⟨QJ,[(.normal,QJ),(.ret,rk)],wrs,λ_=>none,[],none,none⟩ A a w I bs)))
  (ops.toList.drop 1) 1 _ [] _ w G O rfl (by rw[H];omega) K (λx0 h7 a' w' G' l hn hK=>?_)
 .grind
 .refine ZF Q J ZG C n _ a' w' G' _ A _ hd.2 (ZE hc) hK ⟨l.slots,l.defs,l.size,l.fix,λt tk g s h=>?_,l.mem,l.drawn⟩ λe h5 a2 w2 G2 Y b=>?_
  .obtain⟨q1,q2⟩:=l.toks t tk g s h;cases tk with
   |nil=>exact q1 rfl
   |cons p r=>have:=(q2 p AF).1;grind
  .have B:∀{e:Ex},R7 E.fs [(.normal,QJ),(.ret,rk)] e h5=some A->N5 P dr N ⟨QJ,[(.normal,QJ),(.ret,rk)],wrs,λ_=>none,[],none,none⟩ A a w I bs (LY e) a2 w2:=λh=>ZH (s:=⟨QJ,[(.normal,QJ),(.ret,rk)],wrs,λ_=>none,[],none,none⟩) (x:=A) Q Y h;cases e with
   |normal=>exact B (e:=.normal) b
   |ret=>exact B (e:=.ret) b
   |exit i=>
    simp only at b;cases T:Nat.beq i y with
    |false=>rw[T]at b;cases b
    |true=>rw[T]at b;have:=A5 T;subst this;simp only[LY,Exit.inBlock,if_true];exact B (e:=.normal) b
def FI{α β γ:Type}(f:α->β->X1 (Sum β γ)):KX α->β->X1 (Sum β γ)
 |[],u=>some (.inl u)
 |a::r,u=>(f a u).bind λz=>match z with
  | .inl v=>FI f r v
  | .inr c=>some (.inr c)
def vD{b:Type}{f:α->β->X1 (Sum β b)}:∀{l r:KX α} {u v:β},FI f l u=some (.inl v)->FI f (l++r) u=FI f r v:=by
 intro l;induction l with
 |nil=>intro r u v h;cases h;rfl
 |cons a l e=>intro r u v h;simp only[List.cons_append,FI]at h ⊢;cases d:f a u<;>grind
def AJ6{b:Type}{f:α->β->X1 (Sum β b)}{l r:KX α}{z:α}{u v a:β}(h:FI f l u=some (.inl v))(d:f z v=some (.inl a)):FI f (l++z::r) u=FI f r a:=by simp_all[vD,FI]
def AJ7{a:Type}{f:α->β->X1 (Sum β a)}{l r:KX α}{z:α}{u v:β}{c:a}(h:FI f l u=some (.inl v))(b:f z v=some (.inr c)):FI f (l++z::r) u=some (.inr c):=by simp_all[vD,FI]
def TX:Sh->X5
 | .val _=>true
 | .own _ _ _=>true
 | .omap _ _=>true
 | .pr a b=>TX a&&TX b
 |_=>false
def f_:Sh->X5
 | .val _=>true
 | .own _ _ _=>true
 | .omap _ _=>true
 | .fz _=>true
 | .box c=>TX c
 |_=>false
def RF.rK:∀{s:Sh},TX s=true->∀{x:s.T} {cs:KX X2} {bs:KX Nat},RF P w I s x cs bs->Ext w I w' I->(∀b∈bs,w'.heap[b]?=w.heap[b]?)->RF P w' I s x cs bs:=by
 intro s;induction s with
 |val t=>intro j x cs bs h l m;exact RF.aside (P:=P) (s:=.val _) rfl h l m
 |own a b c=>intro j x cs bs h l m;exact RF.aside (P:=P) (s:=.own _ _ _) rfl h l m
 |omap a c=>intro j x cs bs h l m;obtain⟨p,N,b,Z6,y,A,z,B,C,G,L⟩:=h;exact⟨p,N,b,Z6,y,A,z,(m b (by rw[z];simp)).trans B,C,λi x e H hi=>⟨(G i x e H hi).1.ext l,(G i x e H hi).2.ext l⟩,L⟩
 |pr a b D E=>intro j x cs bs h l m;have j:(TX a&&TX b)=true:=j;rw[A7]at j;obtain⟨c,d,J,K,A,z,B,C⟩:=h;exact⟨c,d,J,K,A,z,D j.1 B l λc M=>m c oc,E j.2 C l λc M=>m c oc⟩
 |_=>intro j;cases j
def ShV.rK(l:f_ s=true){x:s.T}(h:ShV P w I s x v bs)(a:Ext w I w' I)(d:∀b∈bs,w'.heap[b]?=w.heap[b]?):ShV P w' I s x v bs:=by
 cases s<;>first|(cases l;done)|skip
 .exact⟨h.1.ext a,h.2⟩
 .exact RF.aside (P:=P) (s:=.own _ _ _) rfl h a d
 .exact RF.rK (P:=P) (s:=.omap _ _) rfl h a d
 .obtain⟨b,cells,el,e,m,j,p,y,z,A⟩:=h;exact⟨b,cells,el,e,m,j,(d b (by rw[j];simp)).trans p,y,RF.rK (show TX _=true from l) z a (λc B=>d c oc),A⟩
 .exact⟨h.1.ext a,h.2⟩
def R2.rK:∀{l:KX Sh},l.all f_=true->∀{x:Z5 l} {vs:KX X2} {bs:KX Nat},R2 P w I l x vs bs->Ext w I w' I->(∀b∈bs,w'.heap[b]?=w.heap[b]?)->R2 P w' I l x vs bs:=by
 intro l;induction l with
 |nil=>intro _ x vs bs h _ _;exact h
 |cons a l D=>
  intro d x vs bs h p m;simp only[List.all_cons,A7]at d;cases l with
  |nil=>obtain⟨v,e,j⟩:=h;exact⟨v,e,ShV.rK d.1 j p m⟩
  |cons b r=>obtain⟨v,s,y,z,e,j,A,B⟩:=h;refine⟨v,s,y,z,e,j,ShV.rK d.1 A p λc C=>m c oc,D d.2 B p λc C=>m c oc⟩
structure RI(P:Program)(dr:X5)(N:Nat)(QJ:Kp)(wrs:KX Nat)(a0:Act)(w0:X4)(I0:Im)(bs:KX Nat)(d2 r:Nat)(a:Act)(w:X4)(I:Im)(u:Z5 QJ.sh)(bs':KX Nat):Prop where
 mem:I4 w I
 aft:Q5 (·∈bs) w0 I0 w I
 defs:a.defers=[]
 size:a.tmps.size=N
 fix:∀t,F4 t wrs=false->a.tmps.getD t undef=a0.tmps.getD t undef
 drawn:dr=true->w0.drawn<=w.drawn
 sh:R2 P w I QJ.sh u (QJ.tm.map λt=>a.tmps.getD t undef) bs'
 nod:bs'.Nodup
 bsub:∀c∈bs',c∈bs\/w0.heap.size<=c
 ptr:a.tmps.getD d2 undef=.pointer (some ⟨r,0,none⟩)
 rin:r∈bs
 rlt:r<w.heap.size
 rbs:r ∉ bs'
 rC:∀o,¬I.cell r o
 rO:¬I.obj r
section
variable{N d2 r:Nat}{QJ:Kp}{wrs bs bs':KX Nat}{a0 a:Act}{w0:X4}{I0:Im}{u:Z5 QJ.sh}
def RI.put(h:RI P dr N QJ wrs a0 w0 I0 bs d2 r a w I u bs'){d:Nat}(hd:d<N)(l:F4 d wrs=true)(hi:F4 d QJ.tm=false)(j:d≠d2)(v:X2):
 RI P dr N QJ wrs a0 w0 I0 bs d2 r (a.put (some d) v) w I u bs':=by
 have g:∀t,(a.put (some d) v).tmps.getD t undef=if d=t then v else a.tmps.getD t undef:=λt=>by rw[QB h.size (λ_ e=>oc)];simp
 refine⟨h.mem,h.aft,by rw[uM];exact h.defs,by rw[fU];exact h.size,λt b=>?_,h.drawn,?_,h.nod,h.bsub,?_,h.rin,h.rlt,h.rbs,h.rC,h.rO⟩
 .rw[g,if_neg (λe=>oc)];exact h.fix t b
 .have e:(QJ.tm.map λt=>(a.put (some d) v).tmps.getD t undef)=QJ.tm.map λt=>a.tmps.getD t undef:=by apply List.map_congr_left;intro t b;rw[g,if_neg (λe=>by grind[OU])]
  rw[e];exact h.sh
 .rw[g,if_neg j];exact h.ptr
def RI.iter(h:RI P dr N QJ wrs a0 w0 I0 bs d2 r a w I u bs')(hp:QJ.sh.all f_=true){w1:X4}(hw1:w1=w\/w1=w.drew)(o:Go.Obj):
 RI P dr N QJ wrs a0 w0 I0 bs d2 r a (setBlock w1 r o) I u bs':=by
 have hh:∀j,j≠r->(setBlock w1 r o).heap[j]?=w.heap[j]?:=by
  intro j hj;have e:(setBlock w1 r o).heap=w.heap.setIfInBounds r o:=by rcases hw1 with rfl|rfl<;>rfl
  rw[e,Array.getElem?_setIfInBounds,if_neg (λe=>hj e.symm)]
 have hsz:(setBlock w1 r o).heap.size=w.heap.size:=by
  have e:(setBlock w1 r o).heap=w.heap.setIfInBounds r o:=by rcases hw1 with rfl|rfl<;>rfl
  rw[e,Array.size_setIfInBounds]
 have hos:(setBlock w1 r o).os=w.os/\(setBlock w1 r o).tape=w.tape/\(setBlock w1 r o).output=w.output/\w.drawn<=(setBlock w1 r o).drawn:=by
  rcases hw1 with rfl|rfl
  .exact⟨rfl,rfl,rfl,AD _⟩
  .exact⟨rfl,rfl,rfl,Nat.le_succ _⟩
 have he:Ext w I (setBlock w1 r o) I:=Ext.of_heap hh h.rC h.rO;have hm:I4 (setBlock w1 r o) I:=⟨λb o h'=>by rw[hsz];exact h.mem.1 b o h',λb h'=>by rw[hsz];exact h.mem.2.1 b h',h.mem.2.2.ext he⟩;have ha:Q5 (·∈[r]) w I (setBlock w1 r o) I:=⟨he,λb _ hb=>hh b (by simpa using hb),oa,λ_ _ h=>.inl h,λ_ h=>.inl h,hm.1,hm.2.1,hos.1,hos.2.1,hos.2.2.1,hm.2.2⟩
 refine ⟨hm, h.aft.trans ha (fun b hb => .inl (by have : b = r := by simpa using hb
                                                  rw[this];exact h.rin)),h.defs,h.size,h.fix,λhd=>AM (h.drawn hd) hos.2.2.2,h.sh.rK hp he (λb hb=>hh b (λe=>h.rbs (e▸hb))),h.nod,h.bsub,h.ptr,h.rin,by rw[hsz];exact h.rlt,h.rbs,h.rC,h.rO⟩
def RI.body{rk:Kp}(h:RI P dr N QJ wrs a0 w0 I0 bs d2 r a w I u bs')(C:∀t,F4 t wrs=false->F4 t wrsB=false)(K:F4 d2 wrsB=false){z:Sum (Z5 QJ.sh) (Z5 rk.sh)}
 (M:N5 P dr N ⟨QJ,[(.normal,QJ),(.ret,rk)],wrsB,λ_=>none,[],none,none⟩ z a w I bs' e a' w'):
 match z with
 | .inl J=>e=.normal/\w'.heap[r]?=w.heap[r]? /\∃I' d,Ext w I w' I'/\RI P dr N QJ wrs a0 w0 I0 bs d2 r a' w' I' J d
 | .inr c=>e=.ret/\a'.defers=[]/\a'.tmps.size=N/\(∀t,F4 t wrs=false->a'.tmps.getD t undef=a0.tmps.getD t undef)/\(dr=true->w0.drawn<=w'.drawn)/\
  ∃I',Q5 (·∈bs) w0 I0 w' I'/\∃d,R2 P w' I' rk.sh c (rk.tm.map λt=>a'.tmps.getD t undef) d/\d.Nodup/\∀b∈d,b∈bs\/w0.heap.size<=b:=by
 obtain⟨D,E,A,H,I',m,G⟩:=M;have l:∀{d:KX Nat},(∀b∈d,b∈bs'\/w.heap.size<=b)->∀c∈d,c∈bs\/w0.heap.size<=c:=by
  intro d s c L;rcases s c L with j|j
  .exact h.bsub c j
  .exact .inr (AM h.aft.size j)
 cases z with
 |inl J=>
  obtain⟨y,d,s1,B,s⟩:=G;refine⟨y,m.heap r h.rlt h.rbs,I',d,m.ext,⟨m.mem,h.aft.trans m h.bsub,D,E,λt x=>(A t (C t x)).trans (h.fix t x),λhd=>AM (h.drawn hd) (H hd),s1,B,l s,?_,h.rin,AQ h.rlt m.size,λp=>?_,λo p=>?_,λp=>?_⟩⟩
  .exact(A d2 K).trans h.ptr
  .rcases s r p with j|j
   .exact h.rbs j
   .exact AA _ (AQ h.rlt j)
  .rcases m.newC r o p with j|j|j
   .exact h.rC o j
   .exact AA _ (AQ h.rlt j)
   .exact h.rbs j
  .rcases m.newO r p with j|j|j
   .exact h.rO j
   .exact AA _ (AQ h.rlt j)
   .exact h.rbs j
 |inr c=>obtain⟨y,d,s1,B,s⟩:=G;exact⟨y,D,E,λt x=>(A t (C t x)).trans (h.fix t x),λhd=>AM (h.drawn hd) (H hd),I',h.aft.trans m h.bsub,d,s1,B,l s⟩
end
structure RangeAt2(N:Nat)(QJ:Kp)(wrs wrsB:KX Nat)(s d3 d4 d5:Nat)(nx ex o0:Oper)(ops:Array Oper):Prop where
 nx:nx.op=.next (.tmp s) false/\nx.dst=some d3/\nx.guard=none
 ex:ex.op=.extract (.tmp d3) 0/\ex.dst=some d4/\ex.guard=none
 h0:ops[0]?=some o0
 p0:o0.op=.entry (.tmp s)/\o0.dst=some d5
 lt:d3<N/\d4<N
 wr:F4 d3 wrs=true/\F4 d4 wrs=true
 out:F4 d3 QJ.tm=false/\F4 d4 QJ.tm=false
 ne:d3≠s/\d4≠s
 sub:wrsB.all (λt=>F4 t wrs)=true
 it:F4 s wrsB=false
def ZL(hE:WT P dr E)(hmix:P.follows .mixedOrders=true){id2 id3 x y s q d3 d4 d5:Nat}{C:Code}{tm:KX Nat}{k v:Ty}{b:Sh}{sh:KX Sh}{rk:Kp}{nx ex o0:Oper}
 (A:RangeAt2 N ⟨q::tm,b::sh⟩ wrs wrsB s d3 d4 d5 nx ex o0 ops)
 (hdB:IK (J7 N wrsB) (.seq (.region id3 ops false) C)=true)(hcB:W8 P dr N (J7 N wrsB) (IJ E C n))(hp:(b::sh).all f_=true)
 {f:k.T×v.T->Z5 (b::sh)->X1 (Sum (Z5 (b::sh)) (Z5 rk.sh))}(hF:∀kx u,vC E y ops C n d5 k v ⟨q::tm,b::sh⟩ rk kx u=f kx u):
 M3 P dr N ⟨⟨s::q::tm,.it k v::b::sh⟩,[(.exit x,⟨q::tm,b::sh⟩),(.ret,rk)],wrs,λ_=>none,[],some ⟨k,v,λu o=>o.Perm (show KX (k.T×v.T)from u.1),λu o=>FI f o u.2⟩,none⟩
  (.loop (.seq (.region id2 #[nx,ex] false) (.seq (.cond (.tmp d4) .skip (.exit x)) (.block y (.seq (.region id3 ops false) C))))):=by
 intro w0 I a0 u0 bs hm hda hN hal hsh hnd;show(∀o:KX (k.T×v.T),o.Perm (show KX (k.T×v.T)from u0.1)->∃z,FI f o u0.2=some z)->_;intro hall;obtain⟨vm,vs,b1,bs0,hvs,rfl,⟨r,it,rfl,rfl,hit,hat,hrO,hrC⟩,hrest⟩:=hsh;have hs0:a0.tmps.getD s undef=.pointer (some ⟨r,0,none⟩):=(List.cons.inj hvs).1;have hvs':(q::tm).map (λt=>a0.tmps.getD t undef)=vs:=(List.cons.inj hvs).2;have hB:∀t,F4 t wrs=false->F4 t wrsB=false:=by
  intro t ht;cases hh:F4 t wrsB with
  |false=>rfl
  |true=>have:=BW.1 A.sub t (OU.1 hh);grind
 have hnd':r ∉ bs0/\bs0.Nodup:=AY.1 hnd
 have hL0:RI P dr N ⟨q::tm,b::sh⟩ wrs a0 w0 I ([r]++bs0) s r a0 w0 I u0.2 bs0:=
  ⟨hm,Q5.refl hm,hda,hN,λ_ _=>rfl,λ_=>AD _,oc,hnd'.2,λc hc=>.inl (BT _ hc),hs0,oh,O7 hit,hnd'.1,hrC,hrO⟩
 generalize hbs:[r]++bs0=bs at *
 have test:∀{a:Act} {w:X4} {I':Im} {u:Z5 (b::sh)} {bs':KX Nat} {l:KX X2} {t:X5} {w1:X4} {o:Go.Obj} {Q:Exit->Act->X4->Prop},
  RI P dr N ⟨q::tm,b::sh⟩ wrs a0 w0 I bs s r a w I' u bs'->(Instr.next (.pointer (some ⟨r,0,none⟩)) false nx.type).run P w=.ok (.tuple (.bool t::l).toArray) (if t then setBlock w1 r o else w)->(t=true->w1=w\/w1=w.drew)->
  (∀a',RI P dr N ⟨q::tm,b::sh⟩ wrs a0 w0 I bs s r a' (if t then setBlock w1 r o else w) I' u bs'→a'.eval (.tmp d4)=.bool t→Q .normal a' (if t then setBlock w1 r o else w))→
  (Code.region id2 #[nx,ex] false).wp P Q a w:=by
  intro a w I' u bs' l t w1 o Q hL hrun hw1 hQ;refine wp_region ?_;rw[show List.range (#[nx,ex]:Array Oper).size=[0,1]from rfl,wpOps_cons];refine vB (o:=nx) rfl A.nx.2.2 (v:=.tuple (.bool t::l).toArray) (w':=if t then setBlock w1 r o else w) ?_ ?_
  .simp only[execOp,A.nx.1];rw[show a.eval (.tmp s)=.pointer (some ⟨r,0,none⟩)from hL.ptr];simp_all
  rw[wpOps_cons,A.nx.2.1];have h1:RI P dr N ⟨q::tm,b::sh⟩ wrs a0 w0 I bs s r a (if t then setBlock w1 r o else w) I' u bs':=by
   cases t with
   |false=>exact hL
   |true=>exact hL.iter hp (hw1 rfl) o
  have h2:=h1.put A.lt.1 A.wr.1 A.out.1 A.ne.1 (.tuple (.bool t::l).toArray);have e3:(a.put (some d3) (.tuple (.bool t::l).toArray)).tmps.getD d3 undef=.tuple (.bool t::l).toArray:=by rw[QB hL.size (λ_ e=>by cases e;exact A.lt.1),if_pos rfl]
  refine vB (o:=ex) rfl A.ex.2.2 (v:=.bool t) (w':=if t then setBlock w1 r o else w) ?_ ?_
  .simp only[execOp,A.ex.1];rw[show(a.put (some d3) (.tuple (.bool t::l).toArray)).eval (.tmp d3)=.tuple (.bool t::l).toArray from e3];rfl
  rw[A.ex.2.1];refine hQ _ (h2.put A.lt.2 A.wr.2 A.out.2 A.ne.2 (.bool t)) ?_;show((a.put (some d3) (.tuple (.bool t::l).toArray)).put (some d4) (.bool t)).tmps.getD d4 undef=.bool t;rw[QB h2.size (λ_ e=>by cases e;exact A.lt.2),if_pos rfl]
 let Post:Exit->Act->X4->Prop:=λe a' w'=>∃o z,o.Perm (show KX (k.T×v.T)from u0.1)/\FI f o u0.2=some z/\
  N5 P dr N ⟨⟨s::q::tm,.it k v::b::sh⟩,[(.exit x,⟨q::tm,b::sh⟩),(.ret,rk)],wrs,λ_=>none,[],some ⟨k,v,λu o=>o.Perm (show KX (k.T×v.T)from u.1),λu o=>FI f o u.2⟩,none⟩ z a0 w0 I bs e a' w'
 show(Code.loop _).wp P Post a0 w0
 have done:∀{a:Act} {w:X4} {I':Im} {u:Z5 (b::sh)} {bs':KX Nat} {dn:KX (k.T×v.T)} {R:Act->X4->Prop},
  RI P dr N ⟨q::tm,b::sh⟩ wrs a0 w0 I bs s r a w I' u bs'->FI f dn u0.2=some (.inl u)->dn.Perm (show KX (k.T×v.T)from u0.1)->
  (Instr.next (.pointer (some ⟨r,0,none⟩)) false nx.type).run P w=.ok (.tuple #[.bool false]) w->
  (Code.seq (.region id2 #[nx,ex] false) (.seq (.cond (.tmp d4) .skip (.exit x)) (.block y (.seq (.region id3 ops false) C)))).wp P (Exit.then R Post) a w:=by
  intro a w I' u bs' dn R hL hfd hperm hrun;refine wp_seq (test (l:=[]) (t:=false) (w1:=w) (o:=default) hL hrun (λh=>om) λa' hL' hv=>?_);refine wp_seq (wp_cond_false hv (wp_exit ?_));exact⟨dn,.inl u,hperm,hfd,hL'.defs,hL'.size,hL'.fix,hL'.drawn,I',hL'.aft,rfl,bs',hL'.sh,hL'.nod,hL'.bsub⟩
 obtain⟨m,hvm,⟨rfl,rfl⟩|⟨mb,Z6,clock,rfl,rfl,hmb⟩⟩:=hat
 ·
  obtain⟨c,hc,p,hpe,r',rfl,hnone,hsome⟩:=hvm;have e1:[Value.map r']=[Value.map none]:=hc;have e2:=AB.1 e1;cases e2;have hes:p=[]:=hnone rfl;subst hes;refine wp_loop_rounds 1 ?_;rw[rounds_succ];refine done (dn:=[]) hL0 rfl hpe.1 ?_;simp only[Instr.next,getObj,Sem.run_bind,Sem.run,hit,Result.andThen];rfl
 .obtain⟨c,hc,p,hpe,r',rfl,hnone,hsome⟩:=hvm;have e1:[Value.map r']=[Value.map (some mb)]:=hc;have e2:=AB.1 e1;cases e2;have⟨hIb,ents',clock',hh',⟨hsize,hst⟩,hent⟩:=hsome mb rfl;rw[hmb]at hh';cases hh';have hsize:Z6.size=p.length:=hsize
  have key:∀(m:Nat) {a:Act} {w:X4} {I':Im} {u:Z5 (b::sh)} {bs':KX Nat} {dn:KX (k.T×v.T)} {seen:Array Nat} {c0:Nat},
   RI P dr N ⟨q::tm,b::sh⟩ wrs a0 w0 I bs s r a w I' u bs'->Ext w0 I w I'->FI f dn u0.2=some (.inl u)->(dn++N6 p Z6.toList seen).Perm p->(N6 p Z6.toList seen).length=m->
   w.heap[r]?=some (.mapIter (some mb) clock seen c0)->clock<=c0->w.heap[mb]?=some (.map Z6 clock)->
   Code.rounds P (.seq (.region id2 #[nx,ex] false) (.seq (.cond (.tmp d4) .skip (.exit x)) (.block y (.seq (.region id3 ops false) C)))) Post (m+1) a w:=by
   intro m;induction m with
   |zero=>
    intro a w I' u bs' dn seen c0 hL hx0 hfd hperm hlen hit hc0 hmbw;have hnil:=AK hlen;rw[hnil,CX]at hperm;rw[rounds_succ];refine done hL hfd (hperm.trans hpe.1) ?_;rcases run_next_at (P:=P) w nx.type r mb clock c0 seen Z6 clock hit hmbw hst.1 hc0 with⟨_,h⟩|⟨e,he,_⟩
    .exact h
    .obtain⟨i,z,_,_,_,hp'⟩:=A4B hsize.symm hst.2.1 he;simp_all
   |succ m ih=>
    intro a w I' u bs' dn seen c0 hL hx0 hfd hperm hlen hit hc0 hmbw;rw[rounds_succ];rcases run_next_at (P:=P) w nx.type r mb clock c0 seen Z6 clock hit hmbw hst.1 hc0 with⟨h0,_⟩|⟨e,he,w1,hw1,hrun⟩
    .grind[AJ3]
    .obtain⟨i,z,hz,hei,hein,hp'⟩:=A4B hsize.symm hst.2.1 he;have hlen':(N6 p Z6.toList (seen.push e.born)).length=m:=by have:=hp'.length_eq;rw[hlen]at this;simpa using this.symm
     have hperm':((dn++[z])++N6 p Z6.toList (seen.push e.born)).Perm p:=by refine List.Perm.trans ?_ hperm;rw[CF];exact List.Perm.append_left dn hp'.symm
     obtain⟨u',hu'⟩:∃u',f z u=some u':=by have⟨zz,hzz⟩:=hall _ (hperm'.trans hpe.1);rw[CF,vD hfd]at hzz;grind[List.singleton_append,FI,Option.bind_eq_some_iff]
     refine wp_seq (test (l:=[e.key,e.val]) (t:=true) (w1:=w1) (o:=.mapIter (some mb) clock (seen.push e.born) clock) hL hrun (λ_=>hw1) λa' hL' hv=>?_);simp only[if_true]at hL' ⊢;have hne:mb≠r:=λe=>oc;have hheap:(setBlock w1 r (.mapIter (some mb) clock (seen.push e.born) clock)).heap=w.heap.setIfInBounds r (.mapIter (some mb) clock (seen.push e.born) clock):=by rcases hw1 with rfl|rfl<;>rfl
     generalize hw2:setBlock w1 r (.mapIter (some mb) clock (seen.push e.born) clock)=w2 at *;have hit2:w2.heap[r]?=some (.mapIter (some mb) clock (seen.push e.born) clock):=by rw[hheap,Array.getElem?_setIfInBounds,if_pos rfl,if_pos hL.rlt]
     have hmb2:w2.heap[mb]?=some (.map Z6 clock):=by rw[hheap,Array.getElem?_setIfInBounds,if_neg (λe=>hne e.symm)];exact hmbw
     refine wp_seq (wp_cond_true hv (wp_skip ?_));have hkey:Z4 w2 I' k z.1 e.key:=by have⟨⟨cc,h1,h2⟩,_⟩:=hent i z e hz hei;exact Z4.ext ⟨cc,h1,h2⟩ hL'.aft.ext
     have hval:Z4 w2 I' v z.2 e.val:=by have⟨_,⟨cc,h1,h2⟩⟩:=hent i z e hz hei;exact Z4.ext ⟨cc,h1,h2⟩ hL'.aft.ext
     have hentry:=run_entry_at (P:=P) w2 r mb clock seen Z6 clock e hit2 hmb2 hein hst.2.1;refine wp_mono (AJ5 hE hmix (n:=n) (y:=y) (k:=k) (vt:=v) (x:=z) (QJ:=⟨q::tm,b::sh⟩) (rk:=rk) A.h0 A.p0 hdB hcB hL'.mem hL'.defs hL'.size hL'.sh hL'.nod (by rw[hL'.ptr];exact hentry) hkey hval ((hF z u).trans hu')) λe' a2 w3 hq=>?_;have hbd:=hL'.body hB A.it hq;cases u' with
     |inl u'=>obtain⟨rfl,h1,I2,bs2,h2,h3⟩:=hbd;have hIb':I'.obj mb:=(hL'.aft.ext.obj mb hIb).1;exact ih h3 h3.aft.ext (AJ6 hfd hu') hperm' hlen' (h1.trans hit2) (AD _) (((h2.obj mb hIb').2).trans hmb2)
     |inr c=>obtain⟨rfl,h1,h2,h3,h4,I2,h5,bs2,h6,h7,h8⟩:=hbd;exact⟨_,.inr c,hperm'.trans hpe.1,by rw[CF];exact AJ7 hfd hu',h1,h2,h3,h4,I2,h5,rfl,bs2,h6,h7,h8⟩
  refine wp_loop_rounds (p.length+1) ?_;have hle:(N6 p Z6.toList #[])=p:=AJ2 (by simp[hsize]);exact key p.length (dn:=[]) (seen:=#[]) hL0 (Ext.refl _ _) rfl (by rw[hle,D3]) (by rw[hle]) hit (AD _) hmb
end
section
variable{P:Program}{dr:X5}{w:X4}{I:Im}
def A4D:(t:Ty)->t.T->t.T->Prop
 | .map k v,x,y=>(show KX (k.T×v.T)from x).Perm y
 |_,x,y=>x=y
def vE:(s:Sh)->s.T->s.T->Prop
 | .val t,x,y=>A4D t x y
 | .omap k v,x,y=>(show KX (k.T×v.T)from x).Perm y
 |_,x,y=>x=y
def gA:(l:KX Sh)->Z5 l->Z5 l->Prop
 |[],_,_=>True
 |[a],x,y=>vE a x y
 |a::b::r,x,y=>vE a x.1 y.1/\gA (b::r) x.2 y.2
def WC:(l:KX (Ex×Kp))->H6 l->H6 l->Prop
 |[],x,_=>Empty.elim x
 |[o],x,y=>gA o.2.sh x y
 |o::p::r,x,y=>match(show Sum (Z5 o.2.sh) (H6 (p::r))from x),(show Sum (Z5 o.2.sh) (H6 (p::r))from y)with
  | .inl x,.inl y=>gA o.2.sh x y
  | .inr x,.inr y=>WC (p::r) x y
  |_,_=>False
def TyN:(t:Ty)->t.T->Prop
 | .map k v,x=>((show KX (k.T×v.T)from x).map (·.1)).Nodup
 |_,_=>True
def vF:(s:Sh)->s.T->Prop
 | .val t,x=>TyN t x
 | .omap k v,x=>((show KX (k.T×v.T)from x).map (·.1)).Nodup
 | .it k v,x=>((show KX (k.T×v.T)from x).map (·.1)).Nodup
 |_,_=>True
def WD:(l:KX Sh)->Z5 l->Prop
 |[],_=>True
 |[a],x=>vF a x
 |a::b::r,x=>vF a x.1/\WD (b::r) x.2
def PE.congr{p x y:KX (α×β)}(h:PE p x)(e:x.Perm y):PE p y:=⟨h.1.trans e,((e.map (·.1)).nodup_iff).1 h.2⟩
def Rel.congr{t:Ty}{x y:t.T}(h:Rel w I t x cs)(e:A4D t x y):Rel w I t y cs:=by
 cases t<;>first|exact(show x=y from e)▸h|skip
 obtain⟨p,a,h⟩:=h;exact⟨p,a.congr e,h⟩
def ShV.congr{x y:s.T}(h:ShV P w I s x v bs)(e:vE s x y):ShV P w I s y v bs:=by
 cases s<;>first|exact(show x=y from e)▸h|skip
 .obtain⟨⟨c,a,b⟩,d⟩:=h;exact⟨⟨c,a,b.congr e⟩,d⟩
 .obtain⟨p,j,h⟩:=h;exact⟨p,j.congr e,h⟩
def R2.congr:∀{l:KX Sh} {x y:Z5 l} {vs:KX X2} {bs:KX Nat},R2 P w I l x vs bs->gA l x y->R2 P w I l y vs bs:=by
 intro l;induction l with
 |nil=>intro x y vs bs h _;exact h
 |cons a l B=>
  intro x y vs bs h e;cases l with
  |nil=>obtain⟨v,d,j⟩:=h;exact⟨v,d,j.congr e⟩
  |cons b r=>obtain⟨v,m,p,s,d,j,z,A⟩:=h;exact⟨v,m,p,s,d,j,z.congr e.1,B A e.2⟩
def Rel.nod{t:Ty}{x:t.T}(h:Rel w I t x cs):TyN t x:=by
 cases t<;>first|exact trivial|skip
 obtain⟨p,a,h⟩:=h;exact a.2
def ShV.nod{x:s.T}(h:ShV P w I s x v bs):vF s x:=by
 cases s<;>first|exact trivial|skip
 .obtain⟨⟨c,e,a⟩,j⟩:=h;exact a.nod
 .obtain⟨p,d,h⟩:=h;exact d.2
 .obtain⟨r,o,_,_,_,⟨m,⟨c,_,b⟩,_⟩,_⟩:=h;exact b.nod
def R2.nod:∀{l:KX Sh} {x:Z5 l} {vs:KX X2} {bs:KX Nat},R2 P w I l x vs bs->WD l x:=by
 intro l;induction l with
 |nil=>intro x vs bs h;trivial
 |cons a l p=>
  intro x vs bs h;cases l with
  |nil=>obtain⟨v,e,d⟩:=h;exact d.nod
  |cons b r=>obtain⟨v,s,y,z,e,d,j,m⟩:=h;exact⟨j.nod,p m⟩
def OutS.congr{s:Nat}:∀{l:KX (Ex×Kp)} {x y:H6 l},OutS P w I a e s bs l x->WC l x y->OutS P w I a e s bs l y:=by
 intro l;induction l with
 |nil=>intro x;exact Empty.elim x
 |cons o l z=>
  intro x y h k;cases l with
  |nil=>obtain⟨d,b,j,m⟩:=h;exact⟨d,b,j.congr k,m⟩
  |cons p r=>
   cases x with
   |inl x=>
    cases y with
    |inl y=>obtain⟨d,b,j,m⟩:=h;exact⟨d,b,j.congr k,m⟩
    |inr y=>exact k.elim
   |inr x=>
    cases y with
    |inl y=>exact k.elim
    |inr y=>exact z (x:=x) (y:=y) h k
def M3.canon{F0 F:Z5 QJ.sh->X1 (H6 outs)}{d:NdS QJ outs}
 (h:M3 P dr N ⟨QJ,outs,wrs,F0,al,some d,none⟩ c)(J:∀v x,WD QJ.sh v->F v=some x->∀o,d.S v o->∃z,d.F v o=some z/\WC outs z x):
 M3 P dr N ⟨QJ,outs,wrs,F,al,none,none⟩ c:=by
 intro w I a v bs L l K j b m x p;have M:=b.nod;have p:F v=some x:=p;refine wp_mono (h w I a v bs L l K j b m λo s=>?_) λe a' R ⟨o,z,s,O,y,A,B,C,I',D,E⟩=>?_
 .grind
 .obtain⟨Q,G,H⟩:=J v x M p o s;have e:z=Q:=A2 (O.symm.trans G);subst e;exact⟨y,A,B,C,I',D,E.congr H⟩
end
end Go.Ev
