/-
  The evaluator's functions, second part: loops, branches, whole functions, loops over maps.
-/
import Derived.Test.YtngpbgokgpnamaaGreatDoorE3
import Derived.Orders
import Derived.LoopN
import Derived.Scope
set_option linter.all false
set_option maxRecDepth 100000
namespace Go.Ev
variable{k n t j N i n0 id:Nat}{o:Oper}{ks bs wrs wrsB:List Nat}{l:List (CSpec×Code)}{E:Env}{a a':Act}{tk:List (Nat×Bool)}{g dr:Bool}{s:Sh}{v:Value}{sl sl0:Nat->SV}{all ops:Array Oper}{dst:Option Nat}{D:Nat->Prop}{K:Act->World->Prop}{Q:Exit->Act->World->Prop}{Ω α β:Type}{S S' ok:Nat->Bool}{st:St}{cl:List (List Nat×List Nat)}{σ σ0:SSo}{c:Code}{e:Exit}{al:List (Nat×Nat)}{fs:Nat->Option FSpec}{inn:Kp}{outs:List (Ex×Kp)}{cs:List Value}{ents:Array MapEntry}
variable [Pins]
section
variable{P:Program}{fr:Fr}{free free':Nat->Prop}{self:Nat}{σ σ':SSo}{w w':World}{G G':Gh}{I:Im}
def MemS.swap(m:MemS P fr free σ w G){o o':Obj}(hk:σ k=some o)(D:ObjOK P fr w G k o')(z:∀b,Bk G k o' b->Bk G k o b):
 MemS P fr free (EF σ [(k,some o')]) w G:=by
 refine⟨λj p h=>?_,λi j A B y hi a d l=>?_,m.after,λj a=>?_⟩
 .rw[FP]at h;by_cases e:j=k
  .grind
  .rw[if_neg e]at h;exact m.objs j p h
 .rw[FP]at hi a;by_cases s:i=k<;>by_cases x:j=k
  .rw[s,x]
  .rw[if_pos s]at hi;rw[if_neg x]at a;cases hi;subst s;exact m.sep i j o B y hk a (z _ d) l
  .rw[if_neg s]at hi;rw[if_pos x]at a;cases a;subst x;exact m.sep i j A o y hi hk d (z _ l)
  .rw[if_neg s]at hi;rw[if_neg x]at a;exact m.sep i j A B y hi a d l
 .have C:=m.fresh j a;refine⟨?_,C.2⟩;rw[FP,if_neg (λe=>?_)]<;>grind
theorem MemS.freeze(m:MemS P fr free σ w G){o o':Obj}(hk:σ k=some o){C:Nat->Prop}(y:∀b,C b->Bk G k o b)
 (M:GLe w G w {G with im:=⟨λb a=>G.im.cell b a\/C b,G.im.obj⟩}->ObjOK P fr w {G with im:=⟨λb a=>G.im.cell b a\/C b,G.im.obj⟩} k o')(B:∀b,¬Bk {G with im:=⟨λb a=>G.im.cell b a\/C b,G.im.obj⟩} k o' b):
 ∃G',GLe w G w G'/\MemS P fr free (EF σ [(k,some o')]) w G':=by
 have l:GLe w G w {G with im:=⟨λb a=>G.im.cell b a\/C b,G.im.obj⟩}:=⟨⟨λ_ _ h=>⟨.inl h,rfl⟩,λ_ h=>⟨h,rfl⟩⟩,λ_ _ _ h=>h,λ_ _ h=>h,λ_ _ h=>h⟩;refine⟨_,l,λj p h=>?_,λi j K L D hi s E H=>?_,?_,λj s=>?_⟩
 .rw[FP]at h;by_cases e:j=k
  .grind
  .rw[if_neg e]at h;exact(m.objs j p h).keep l λb B=>⟨rfl,λa x=>x.resolve_right λI=>e (m.sep j k p o b h hk B (y b I)),id⟩
 .rw[FP]at hi s;by_cases z:i=k<;>by_cases A:j=k
  .rw[z,A]
  .grind
  .grind
  .rw[if_neg z]at hi;rw[if_neg A]at s;exact m.sep i j K L D hi s (by assumption) (by assumption)
 .have d:=m.after;refine⟨d.ext.trans l.ext,d.heap,d.size,λb a h=>?_,d.newO,λb a h=>?_,d.inO,d.os,d.tape,d.output,d.pins.ext l.ext⟩
  .rcases h with h|h
   .exact d.newC b a h
   .exact .inr (TC (m.objs k o hk) (y b h))
  .rcases h with h|h
   .exact d.inC b a h
   .exact LK (m.objs k o hk) (y b h)
 .have J:=m.fresh j s;refine⟨?_,J.2⟩;rw[FP,if_neg (λe=>?_)]<;>grind
theorem AHQ(B:MemS P fr free σ w G){o:Obj}(hk:σ k=some o):∃G',GLe w G w G'/\MemS P fr free (EF σ [(k,some (J9 o))]) w G':=by
 have m:∀{C:Obj},σ k=some C->∃G',GLe w G w G'/\MemS P fr free (EF σ [(k,some C)]) w G':=λ{C} h=>⟨G,GLe.refl _ _,B.swap h (B.objs k C h) λ_ h=>h⟩
 have y:∀j,free j->j≠k/\free j/\G.ety j=none/\G.box j=none/\∀g,G.val j g=none:=by intro j I;have hf:=B.fresh j I;exact⟨λe=>(by subst e;rw[hf.1]at hk;cases hk),I,hf.2⟩
 cases o with
 |box t c wr=>
  cases wr with
  |false=>exact m hk
  |true=>
   have⟨b,cs,el,H,J,K,O,M,N,Z,Q⟩:=B.objs k _ hk;let G':Gh:={G with im:=⟨λA s=>G.im.cell A s\/(A=b/\s<t.sz),G.im.obj⟩}
   have d:GLe w G w G':=⟨⟨λ_ _ h=>⟨.inl h,rfl⟩,λ_ h=>⟨h,rfl⟩⟩,λ_ _ _ h=>h,λ_ _ h=>h,λ_ _ h=>h⟩
   refine ⟨G',d,B.change (b:=b) d (λj C I l E=>I (B.sep j k C _ b l hk E (by simp [Bk,H]))) (λ_ _ _=>rfl) (AD _) (NU J) Q.1
    (λA s h=>h.imp id λh=>h.1) (λ_ h=>.inl h) rfl rfl rfl (λC l=>?_) y⟩
   cases l;exact⟨⟨b,cs,el,H,J,K,O,M.mono d,⟨(λh=>oq),λ_ s h=>.inr ⟨rfl,h⟩⟩,Z,Q⟩,by intro A z;simp[Bk,J9,G',H]at z;exact .inl z.symm⟩
 |sl el t xs g wr=>
  cases wr with
  |false=>exact m hk
  |true=>
   have⟨h0,v,h1,U⟩:=B.objs k _ hk;rcases U with⟨rfl,rfl⟩|⟨b,W,cs,rfl,H,J,K,O,M,N,Z,Q⟩
   .exact⟨G,GLe.refl _ _,B.swap hk ⟨h0,_,h1,.inl ⟨rfl,rfl⟩⟩ λb E=>by simp[J9,Bk,h1]at E⟩
   .let G':Gh:={G with im:=⟨λA s=>G.im.cell A s\/(A=b/\s<xs.length*t.sz),G.im.obj⟩};have d:GLe w G w G':=⟨⟨λ_ _ h=>⟨.inl h,rfl⟩,λ_ h=>⟨h,rfl⟩⟩,λ_ _ _ h=>h,λ_ _ h=>h,λ_ _ h=>h⟩
    refine ⟨G',d,B.change (b:=b) d (λj C I l E=>I (B.sep j k C _ b l hk E (by simp [Bk,h1]))) (λ_ _ _=>rfl) (AD _) (J.lt) M
     (λA s h=>h.imp id λh=>h.1) (λ_ h=>.inl h) rfl rfl rfl (λC l=>?_) y⟩
    cases l;refine⟨⟨h0,_,h1,.inr ⟨b,W,cs,rfl,H,J,K,λi x L=>(O i x L).ext d.ext,M,(λh=>oq),λ_ s=>⟨λh=>.inr ⟨rfl,h⟩,λh=>?_⟩,Q⟩⟩,by intro A z;simp[Bk,J9,G',h1]at z;exact .inl z.symm⟩;rcases h with h|h
    .exact absurd h (N rfl s)
    .exact h.2
 |mp a c R wr=>
  cases wr with
  |false=>exact m hk
  |true=>
   obtain⟨v,h1,p,hp,b,ents,D,rfl,H,J,K,O,M,N⟩:=B.objs k _ hk;let G':Gh:={G with im:=⟨G.im.cell,λA=>G.im.obj A∨A=b⟩}
   have d:GLe w G w G':=⟨⟨λ_ _ h=>⟨h,rfl⟩,λ_ h=>⟨.inl h,rfl⟩⟩,λ_ _ _ h=>h,λ_ _ h=>h,λ_ _ h=>h⟩
   refine ⟨G',d,B.change (b:=b) d (λj C I l E=>I (B.sep j k C _ b l hk E (by simp [Bk,h1]))) (λ_ _ _=>rfl) (AD _) (NU H) N
    (λA s h=>.inl h) (λA h=>h) rfl rfl rfl (λC l=>?_) y⟩
   cases l;exact⟨⟨_,h1,p,hp,b,ents,D,rfl,H,J,λi x e L V=>⟨(K i x e L V).1.ext d.ext,(K i x e L V).2.ext d.ext⟩,⟨(λh=>oq),λ_=>.inr rfl⟩,M,N⟩,by intro A z;simp[Bk,J9,G',h1]at z;exact .inl z.symm⟩
 |mg el a t R tk gk=>
  cases tk with
  |some q=>exact m hk
  |none=>
   obtain⟨v,us,h1,U,b,ents,D,rfl,H,J,K,O,M,N,Z,Q,q9⟩:=B.objs k _ hk;let G':Gh:={G with im:=⟨G.im.cell,λA=>G.im.obj A\/A=b⟩}
   have d:GLe w G w G':=⟨⟨λ_ _ h=>⟨h,rfl⟩,λ_ h=>⟨.inl h,rfl⟩⟩,λ_ _ _ h=>h,λ_ _ h=>h,λ_ _ h=>h⟩
   refine ⟨G',d,B.change (b:=b) (o':=some (.mp a (.slice t) R false)) d (λj C I l E=>I (B.sep j k C _ b l hk E (.inl h1))) (λ_ _ _=>rfl) (AD _) (NU H) q9
    (λA s h=>.inl h) (λA h=>h) rfl rfl rfl (λC l=>?_) y⟩
   cases l;refine⟨⟨_,h1,R,⟨.refl _,N⟩,b,ents,D,rfl,H,J,λi x e L V=>?_,⟨(λh=>oq),λ_=>.inr rfl⟩,Q,q9⟩,by intro A z;simp[Bk,G',h1]at z;exact .inl z.symm⟩;have X:i<R.length:=(A3.1 L).1;have⟨k1,T⟩:=O i x e _ L V (A1 (by rw[K];exact X));refine⟨k1.ext d.ext,?_⟩;rcases T with⟨T,_⟩|⟨T,_⟩
   .cases T
   .exact⟨_,rfl,Rel.ext d.ext (VE T)⟩
 |dp Y t x gk h wr=>
  cases h with
  |some p=>exact m hk
  |none=>
   cases wr with
   |false=>exact m hk
   |true=>
    cases Y with
    |nil=>exact absurd (B.objs k _ hk) id
    |cons id r=>
     have⟨_,_,v,us,bs,h1,U,h3,h4,h5⟩:=DpOK.inv (B.objs k _ hk)
     exact B.freeze (o':=.dp (id::r) t x gk none false) hk (C:=(·∈bs)) (λb E=>⟨rfl,us,U,(MV h3).2 E⟩)
      (λd=>⟨v,h1,h5.rel d.ext λb E s=>.inr E⟩) (λb E=>by cases E.1)
 |it a b R=>exact m hk
theorem AHR(o:Obj):J9 (J9 o)=J9 o:=by
 cases o with
 |mg id k t e tk a=>cases tk<;>rfl
 |dp b t x a h wr=>cases h<;>rfl
 |_=>rfl
def tX:∀{fz:List (Nat×Option Obj)} {G:Gh},MemS P fr free σ w G->(∀p∈fz,∃o,σ p.1=some o/\p.2=some (J9 o))->∃G',GLe w G w G'/\MemS P fr free (EF σ fz) w G':=by
 intro fz;induction fz with
 |nil=>intro G m _;exact⟨G,GLe.refl _ _,m⟩
 |cons p r J=>
  intro G m h;have⟨G1,h1,H⟩:=J m λq d=>h q (AN _ d);obtain⟨k,x⟩:=p;have⟨o,s,z⟩:=h (k,x) AE;have z:x=some (J9 o):=z;have s:σ k=some o:=s;subst z;have hk:∃a,EF σ r k=some a/\J9 a=J9 o:=by
   have:∀(r:List (Nat×Option Obj)),(∀p∈r,∃o,σ p.1=some o/\p.2=some (J9 o))->∃a,EF σ r k=some a/\J9 a=J9 o:=by
    intro r;induction r with
    |nil=>intro _;exact⟨o,s,rfl⟩
    |cons q r B=>
     intro D;obtain⟨j,y⟩:=q;have⟨E,b,A⟩:=D (j,y) AE;have A:y=some (J9 E):=A;have b:σ j=some E:=b;subst A;by_cases e:k=j
     .grind[J9,EF,Nat.beq_refl,AHR]
     .obtain⟨a,l,C⟩:=B λq d=>D q (AN _ d);refine⟨a,?_,C⟩;simp only[EF];rw[show Nat.beq k j=false by rw[<-BW];simp_all];exact l
   exact this r λq d=>h q (AN _ d)
  obtain⟨a,l,C⟩:=hk;have⟨G2,I,K⟩:=AHQ H l;refine⟨G2,h1.trans I,?_⟩;simp_all[EF,J9,GW]
def tY:∀p∈NL σ ks,∃o,σ p.1=some o/\p.2=some (J9 o):=by
 induction ks with
 |nil=>intro p h;cases h
 |cons k r a=>intro p h;simp only[NL]at h;grind
def A31(h:MemS P fr free σ w G)(l:List Sh)(vs:List SV):∃G',GLe w G w G'/\MemS P fr free (dI σ l vs) w G':=tX h tY
def AHS{l:List (Nat×Option Obj)}(h:∀k o,σ' k=some o->σ k=some o):∀k o,EF σ' l k=some o->EF σ l k=some o:=by
 induction l with
 |nil=>exact h
 |cons p r a=>grind[EF,Nat.beq]
def AHT(R:EnvOK P fr.dr E)(T:MemS P fr free σ w G)(A:∀k o,σ' k=some o->σ k=some o)(b:∀k,self<=k->k<self+8->free k){ρ C B:Operand->SV}
 (L:(∀c x y,o.op≠.pick c x y)->∀x∈o.op.operands,SR P w G (ρ x) (a.eval x))
 (e:∀c x y,o.op=.pick c x y->SR P w G (ρ c) (a.eval c)/\(a.eval c=.bool true->SR P w G (C x) (a.eval x))/\(a.eval c=.bool false->SR P w G (B y) (a.eval y)))
 {r:OpRes}{u:Upd}(D:V8 E ρ C B σ' self o=some r)(M:Gives r u):Done P fr.dr o a w (Res P fr free self σ w G u):=by
 unfold V8 at D;split at D
 .rename_i N J;cases D;have⟨G1,s,O⟩:=tX (fz:=NL σ' (d_ E ρ σ' o)) T λp U=>let ⟨ob,h1,H⟩:=tY p U;⟨ob,A _ _ h1,H⟩
  have j:∃l,Gives N l/\u=⟨l.sv,l.wr++NL σ' (d_ E ρ σ' o)⟩:=by
   cases N with
   |pure l=>exact⟨l,.pure l,M.pure_inv⟩
   |may α m d f=>obtain⟨x,K,rfl⟩:=M.may_inv;exact⟨f x,.may K,rfl⟩
  obtain⟨l,j,rfl⟩:=j;refine(AHP R O (AHS A) b (λh x K=>(L h x K).mono s) (λc x y h=>?_) J j).mono λv w' z=>?_
  .obtain⟨h1,H,Q⟩:=e c x y h;exact⟨h1.mono s,λI=>(H I).mono s,λI=>(Q I).mono s⟩
  .obtain⟨G',k1,V,W⟩:=z;exact⟨G',s.trans k1,by rw[GW];exact V,W⟩
 .cases D
theorem AHU{k:IntKind}{n:Int}(h:cU k n=true):FZ k n:=by simp only[cU,A5,BA]at h;exact h
theorem SR.undef(v:Value):SR P w G .undef v:=⟨[v],rfl,trivial⟩
def A32(v:Value):SR P w G (cV v) v:=by
 unfold cV;split
 .exact SR.mk_bool _
 .grind[cU,SR.mk_int,AHU,SR.undef]
 .rename_i s;cases h:Nat.ble s.data.toList.length 281474976710656 with
  |true=>exact SR.mk_str (CJ h)
  |false=>exact SR.undef _
 .exact⟨_,rfl,rfl⟩
 .exact⟨_,rfl,rfl⟩
 .exact⟨_,rfl,rfl⟩
 .exact⟨_,rfl,rfl⟩
 .exact⟨_,rfl,rfl⟩
 .exact SR.undef _
def SR.not_grd{s:SV}(h:SR P w G (.grd tk g s) v):False:=by obtain⟨_,_,h⟩:=h;exact h
def SR.strip{s:SV}(h:SR P w G s v):SR P w G (s.strip tk) v:=by cases s<;>first|exact h|exact h.not_grd.elim
def SR.slotOK{s:SV}(h:SR P w G s v):SlotOK P w G a s v:=by cases s<;>first|exact h|exact h.not_grd.elim
def AHV{t:Nat×Bool}:∀{tk:List (Nat×Bool)},YK t tk=true->t∈tk:=by
 intro tk;induction tk with
 |nil=>intro h;cases h
 |cons u r a=>intro h;simp only[YK,C5,A5]at h;grind[Nat.eq_of_beq_eq_true,Prod.ext,List.mem_cons_self,List.mem_cons_of_mem]
def SlotOK.strip{s:SV}(h:SlotOK P w G a s v)(hk:holds a tk):SR P w G (s.strip tk) v:=by
 cases s with
 |grd b g s=>
  simp only[SV.strip];cases d:b.all (YK · tk)with
  |false=>exact SR.undef _
  |true=>rw[BT]at d;exact(h.1 λt e=>hk t (AHV (d t e))).2
 |_=>exact h
def SlotOK.mono{s:SV}(h:SlotOK P w G a s v)(e:GLe w G w' G')(b:∀tk g j,s=.grd tk g j->(holds a' tk<->holds a tk)):SlotOK P w' G' a' s v:=by
 cases s with
 |grd tk g s=>have b:=b tk g s rfl;exact⟨λd=>⟨(h.1 (b.1 d)).1,(h.1 (b.1 d)).2.mono e⟩,λd=>h.2 λhk=>d (b.2 hk)⟩
 |_=>exact SR.mono h e
def A33{x:Operand}(h:∀t,x=.tmp t->SlotOK P w G a (sl t) (a.tmps.getD t undef))(hk:holds a tk):
 SR P w G ((GR sl x).strip tk) (a.eval x):=by
 cases x with
 |tmp t=>exact(h t rfl).strip hk
 |const v=>exact(A32 v).strip
 |func f=>exact⟨_,rfl,#[],rfl,rfl⟩
 |global g=>exact SR.undef _
def KL(all:Array Oper)(o:Oper):List Nat:=match o.guard with
 |some (j,_)=>match all[j]? with
  |some p=>p.dst.toList
  |none=>[]
 |none=>[]
def fF(o:Oper):List Nat:=o.op.operands.toList.filterMap λ| .tmp t=>some t|_=>none
def AHW(h:Operand.tmp t∈o.op.operands):t∈fF o:=by unfold fF;rw[List.mem_filterMap];exact⟨.tmp t,by simpa using h,rfl⟩
theorem TD{b:Bool}:holds a ((t,b)::tk)<->a.tmps.getD t undef=.bool b/\holds a tk:=by
 constructor
 .intro h;exact⟨h _ AE,λp d=>h p (AN _ d)⟩
 .intro h p d;rcases A_.1 d with rfl|d
  .exact h.1
  .exact h.2 p d
theorem TE(a:Act):holds a []:=λ_ h=>oq
def AHX(b:Bool):undef≠.bool b:=ou
def AHY{p:Oper}{b:Bool}(d:o.guard=some (j,b))(e:all[j]?=some p)(l:p.dst=some t):
 Region.wanted o (yielded all a.tmps)=true<->a.tmps.getD t undef=.bool b:=by
 unfold Region.wanted yielded;simp only[d,e,A0,l];cases h:a.tmps[t]? with
 |none=>simp[h,undef]
 |some v=>
  have:a.tmps.getD t undef=v:=by simp[h]
  grind
def AHZ(h:RM all sl o=some (tk,g))
 (I:∀t∈KL all o,SlotOK P w G a (sl t) (a.tmps.getD t undef)):
 (Region.wanted o (yielded all a.tmps)=true<->holds a tk)/\(holds a tk->g=true)/\(o.guard=none->tk=[])/\
  ∀p∈tk,p.1∈KL all o\/∃t∈KL all o,∃e C J,sl t=.grd e C J/\p∈e:=by
 unfold RM at h;split at h
 .rename_i l;simp only[AK,D5]at h;obtain⟨rfl,rfl⟩:=h;exact⟨by simp[Region.wanted,l,TE],λ_=>rfl,λ_=>rfl,λp m=>by cases m⟩
 .rename_i j b l;split at h
  .rename_i p m;split at h
   .rename_i t D;have z:KL all o=[t]:=by simp[KL,l,m,D]
    have d:=I t (by rw[z];simp);have B:=AHY (a:=a) l m D;split at h
    .rename_i c x;simp only[AK,D5]at h;obtain⟨rfl,rfl⟩:=h;rw[x]at d;have A:=SR.bool d;refine⟨by rw[B,TD];simp[TE],λy=>?_,λh=>(oc),λq H=>.inl ?_⟩
     .have:=(TD.1 y).1;rw[A]at this;cases this;cases b<;>rfl
     grind
    .rename_i e C c x;simp only[AK,D5]at h;obtain⟨rfl,rfl⟩:=h;rw[x]at d;have key:a.tmps.getD t undef=.bool b->holds a e:=by intro h1;apply BI;intro s;rw[d.2 s]at h1;exact AHX _ h1
     refine⟨?_,λy=>?_,λh=>(oc),λq H=>?_⟩
     .grind[TD]
     .obtain⟨h1,s⟩:=TD.1 y;have⟨K,E⟩:=d.1 s;have A:=SR.bool E;rw[A]at h1;cases h1;grind
     grind
    .cases h
   .cases h
  .cases h
structure SimF(P:Program)(N:Nat)(fr:Fr)(free D:Nat->Prop)(sl:Nat->SV)(σ:SSo)(a:Act)(w:World)(G:Gh):Prop where
 slots:∀t,SlotOK P w G a (sl t) (a.tmps.getD t undef)
 defs:a.defers=[]
 size:a.tmps.size=N
 fix:∀t v,fr.fx t=some v->a.tmps.getD t undef=v
 toks:∀t tk g s,sl t=.grd tk g s->tk≠[]/\∀p∈tk,D p.1
 mem:MemS P fr free σ w G
 drawn:fr.dr=true->fr.w0.drawn<=w.drawn
def PX(e:a.tmps.size=N)(b:∀d,dst=some d->d<N)(v:Value)(t:Nat):
 (a.put dst v).tmps.getD t undef=if dst=some t then v else a.tmps.getD t undef:=by
 cases dst with
 |none=>simp[Act.put]
 |some d=>have b:=b d rfl;by_cases h:d=t<;>simp_all[Act.put,Array.getElem?_setIfInBounds_ne]
theorem tZ(a:Act)(dst:Option Nat)(v:Value):(a.put dst v).defers=a.defers:=by cases dst<;>rfl
theorem fG(a:Act)(dst:Option Nat)(v:Value):(a.put dst v).tmps.size=a.tmps.size:=by cases dst<;>simp[Act.put]
theorem RR(sl:Nat->SV)(dst:Option Nat)(s:SV)(t:Nat):NP sl dst s t=if dst=some t then s else sl t:=by
 cases dst with
 |none=>simp[NP]
 |some d=>
  simp only[NP];by_cases h:t=d
  .simp_all
  .have:Nat.beq t d=false:=by rw[<-BW];exact λa=>h (A4 a)
   grind
def AH_{p:Nat×Bool}(h:RM all sl o=some ([p],g))
 (C:∀t∈KL all o,SlotOK P w G a (sl t) (a.tmps.getD t undef))(A:∀t∈KL all o,∀tk g s,sl t=.grd tk g s->tk≠[])(z:g=true):holds a [p]:=by
 unfold RM at h;split at h
 .cases h
 .rename_i j b m;split at h
  .rename_i q B;split at h
   .rename_i t D;have x:KL all o=[t]:=by simp[KL,m,B,D]
    have d:=C t (by rw[x];simp);split at h
    .rename_i c y;simp only[AK,D5]at h;obtain⟨h1,e⟩:=h;rw[y]at d;have E:=SR.bool d;have h1:p=(t,b):=(AC.1 h1).symm;subst h1;refine TD.2 ⟨?_,TE a⟩;rw[E];rw[z]at e;cases b<;>cases l:c<;>rw[l]at e<;>first|rfl|cases e
    .grind
    .cases h
   .cases h
  .cases h
def AHa{u:Upd}(h:calm tk u=true)(a:tk≠[]):u.wr=[]:=by
 cases tk with
 |nil=>grind
 |cons p r=>grind[calm]
def A34(j:a.tmps.size=N)(l:∀d,dst=some d->d<N)(h:∀p∈tk,dst≠some p.1):
 holds (a.put dst v) tk<->holds a tk:=by
 unfold holds;constructor
 .intro e p b;have:=e p b;rw[PX j l,if_neg (h p b)]at this;exact this
 .intro e p b;rw[PX j l,if_neg (h p b)];exact e p b
def A35(hE:EnvOK P fr.dr E)(ho:all[i]?=some o)
 (l:SimF P N fr free D sl σ a w G)(A:∀t,t∈fF o\/t∈KL all o->sl0 t=sl t)
 (h6:∀t∈KL all o,D t)(I:∀d,o.dst=some d->(d<N/\fr.fx d=none)/\¬D d)
 (hg:RM all sl0 o=some (tk,g))
 (x2:∀k ob,σ' k=some ob->σ k=some ob)(M:∀k,self<=k->k<self+8->free k)
 {r:OpRes} (hr:V8 E (λx=>(GR sl0 x).strip tk)
  (match o.op with| .pick c _ _=>λx=>(GR sl0 x).strip (RN c true tk)|_=>λx=>(GR sl0 x).strip tk)
  (match o.op with| .pick c _ _=>λx=>(GR sl0 x).strip (RN c false tk)|_=>λx=>(GR sl0 x).strip tk) σ' self o=some r)
 {u:Upd}(hu:g=true->Gives r u)(x3:tk=[]->Gives r u)(j:calm tk u=true\/((∃p,tk=[p])/\(g=false->u.wr=[])))
 (hK:∀a' w' G',GLe w G w' G'->SimF P N fr (JA free self) D (NP sl o.dst (RO tk g u.sv)) (EF σ u.wr) a' w' G'->K a' w'):
 wpOp P all Q i K a w:=by
 have T:∀t∈KL all o,SlotOK P w G a (sl0 t) (a.tmps.getD t undef):=λt O=>by rw[A t (.inr O)];exact l.slots t
 have⟨g1,g2,g3,g4⟩:=AHZ hg T;have x0:∀p∈tk,D p.1:=by
  intro p X;rcases g4 p X with h|⟨t,O,b,z,H,h1,h2⟩
  .exact h6 _ h
  .rw[A t (.inr O)]at h1;exact(l.toks t b z H h1).2 p h2
 have B:∀d,o.dst=some d->d<N:=λd hd=>(I d hd).1.1;have V:∀{b:List (Nat×Bool)},(∀p∈b,D p.1)->∀p∈b,o.dst≠some p.1:=λh p X e=>(I _ e).2 (h p X)
 have h4:∀(v:Value) (w':World) (G':Gh),GLe w G w' G'->MemS P fr (JA free self) (EF σ u.wr) w' G'->(fr.dr=true->w.drawn<=w'.drawn)->
  ((holds a tk->g=true/\SR P w' G' u.sv v)/\(¬holds a tk->v=Go.undef))->K (a.put o.dst v) w':=by
  intro v w' G' U hm R Z;refine hK _ w' G' U ⟨λt=>?_,?_,?_,?_,?_,hm,λh=>AM (l.drawn h) (R h)⟩
  .rw[RR,PX l.size B];by_cases h:o.dst=some t
   .rw[if_pos h,if_pos h];cases tk with
    |nil=>exact(Z.1 (TE a)).2.slotOK
    |cons p r=>have:=A34 (v:=v) l.size B (V x0);exact⟨λm=>Z.1 (this.1 m),λm=>Z.2 λhk=>m (this.2 hk)⟩
   .rw[if_neg h,if_neg h];refine(l.slots t).mono U λb z H h'=>?_;exact A34 l.size B (V (l.toks t b z H h').2)
  .rw[tZ];exact l.defs
  .rw[fG];exact l.size
  .intro t v' h;rw[PX l.size B,if_neg (λe=>oc)];exact l.fix t v' h
  .intro t b z H h;rw[RR]at h;by_cases hd:o.dst=some t
   .rw[if_pos hd]at h;cases J:tk with
    |nil=>rw[J]at h Z;have h:u.sv=.grd b z H:=h;have:=(Z.1 (TE a)).2;rw[h]at this;exact this.not_grd.elim
    |cons q r=>rw[J]at h;have h:SV.grd (q::r) g u.sv=.grd b z H:=h;grind
   .rw[if_neg hd]at h;exact l.toks t b z H h
 unfold wpOp;simp only[ho];by_cases hw:Region.wanted o (yielded all a.tmps)=true
 .rw[if_pos hw];have m:=g1.1 hw;have h7:=g2 m;left;have C:∀{b:List (Nat×Bool)},holds a b->∀x∈o.op.operands,SR P w G ((GR sl0 x).strip b) (a.eval x):=by intro b h8 x hx;refine A33 (λt O=>?_) h8;subst O;rw[A t (.inl (AHW hx))];exact l.slots t
  have L:Done P fr.dr o a w (Res P fr free self σ w G u):=by
   refine AHT hE l.mem x2 M (λ_ x hx=>C m x hx) ?_ hr (hu h7);intro c x y s;refine⟨C m c (by simp[s,Op.operands]),λhc=>?_,λhc=>?_⟩
   .simp only[s];refine C ?_ x (by simp[s,Op.operands]);cases c with
    |tmp t=>exact TD.2 ⟨hc,m⟩
    |_=>exact m
   .simp only[s];refine C ?_ y (by simp[s,Op.operands]);cases c with
    |tmp t=>exact TD.2 ⟨hc,m⟩
    |_=>exact m
  refine L Q K λv w' Y R=>?_;obtain⟨G',h1,h2,h3⟩:=Y;grind
 .rw[if_neg hw];have W:¬holds a tk:=λh=>hw (g1.2 h);have h9:tk≠[]:=λe=>by grind[TE]
  have x1:u.wr=[]:=by
   rcases j with j|⟨⟨p,X⟩,j⟩
   .exact AHa j h9
   .refine j ?_;cases h5:g with
    |false=>rfl
    |true=>subst X;exact absurd (AH_ hg T (λt O b z H h=>(l.toks t b z H ((A t (.inr O))▸h)).1) h5) W
  refine h4 Go.undef w G (GLe.refl _ _) ?_ (λ_=>AD _) ⟨λh=>absurd h W,λ_=>rfl⟩;rw[x1];exact l.mem.shrink λ_ h=>h.1
def SimF.draws(h:SimF P N fr free D sl σ a w G)(n:Nat)(l:w.drawn<=n):SimF P N fr free D sl σ a {w with drawn:=n} G:=by
 have d:GLe w G {w with drawn:=n} G:=⟨⟨λ_ _ h=>⟨h,rfl⟩,λ_ h=>⟨h,rfl⟩⟩,λ_ _ _ h=>h,λ_ _ h=>h,λ_ _ h=>h⟩;refine⟨λt=>(h.slots t).mono d λ_ _ _ _=>Iff.rfl,h.defs,h.size,h.fix,h.toks,⟨λk o m=>?_,h.mem.sep,?_,h.mem.fresh⟩,λj=>AM (h.drawn j) l⟩
 .exact(h.mem.objs k o m).keep d λb _=>⟨rfl,λ_ h=>h,λh=>h⟩
 .exact ⟨⟨λb o e=>h.mem.after.ext.cell b o e,λb e=>h.mem.after.ext.obj b e⟩,h.mem.after.heap,h.mem.after.size,h.mem.after.newC,h.mem.after.newO,h.mem.after.inC,h.mem.after.inO,
   h.mem.after.os,h.mem.after.tape,h.mem.after.output,h.mem.after.pins.ext d.ext⟩
def Calm(draw:Bool)(tk:List (Nat×Bool))(g:Bool)(u:Upd):Prop:=calm tk u=true\/(draw=false/\(∃p,tk=[p])/\(g=false->u.wr=[]))
theorem Calm.draw{u:Upd}(h:Calm true tk g u):calm tk u=true:=h.elim id λh=>by cases h.1
def A36(h:VA tk=true):∃p,tk=[p]:=by unfold VA at h;grind
theorem AHb{draw:Bool}{r:OpRes}{K:Upd->Option Ω}{ω:Ω}(h:sO draw tk g r K=some ω):
 ∃u,(g=true->Gives r u)/\(tk=[]->Gives r u)/\Calm draw tk g u/\K u=some ω:=by
 unfold sO at h;split at h
 .rename_i u;cases hc:calm tk u with
  |false=>
   rw[hc]at h;simp only[A8]at h;cases hd:(!draw&&VA tk)with
   |false=>grind
   |true=>
    rw[hd]at h;simp only[A5,BE]at hd;obtain⟨hd,ho⟩:=hd;have hone:=A36 ho;simp only[A6]at h;cases g with
    |true=>exact⟨u,λ_=>.pure u,λ_=>.pure u,.inr ⟨hd,hone,λh=>oq⟩,h⟩
    |false=>exact⟨⟨u.sv,[]⟩,λh=>(oq),λh=>(oc),.inr ⟨hd,hone,λ_=>rfl⟩,h⟩
  |true=>rw[hc]at h;exact⟨u,λ_=>.pure u,λ_=>.pure u,.inl hc,h⟩
 .rename_i α m d f;have⟨x,h1,h2⟩:=B6.1 h;cases hc:calm tk (f x)with
  |false=>
   rw[hc]at h2;simp only[A8]at h2;cases hd:(!draw&&VA tk)with
   |false=>grind
   |true=>
    rw[hd]at h2;simp only[A5,BE]at hd;obtain⟨hd,ho⟩:=hd;have hone:=A36 ho;simp only[A6]at h2;cases g with
    |true=>refine⟨f x,λ_=>.may ?_,λht=>(oc),.inr ⟨hd,hone,λh=>oq⟩,h2⟩;obtain⟨p,rfl⟩:=hone;exact h1
    |false=>exact⟨⟨(f x).sv,[]⟩,λh=>(oq),λh=>(oc),.inr ⟨hd,hone,λ_=>rfl⟩,h2⟩
  |true=>
   rw[hc]at h2;refine⟨f x,λhg=>.may ?_,λht=>.may ?_,.inl hc,h2⟩
   .subst hg;cases tk with
    |nil=>exact h1
    |cons p r=>exact h1
   .subst ht;exact h1
structure GuardsOK(all:Array Oper):Prop where
 uniq:L0 all=true->∀(i j:Nat) (o p:Oper) (d:Nat),i<j->all[i]?=some o->all[j]?=some p->o.dst=some d->p.dst≠some d
 back:L0 all=true->∀(i:Nat) (o:Oper) (j:Nat) (b:Bool),all[i]?=some o->o.guard=some (j,b)->j<i
theorem t_{b:Bool}(a:all[i]?=some o)(h:o.guard=some (j,b)):L0 all=true:=by grind[L0,List.any_eq_true,Array.mem_of_getElem?]
def DS(all:Array Oper)(S:Nat->Bool):Nat->Prop:=λt=>L0 all=true/\∃j o,S j=true/\all[j]?=some o/\o.dst=some t
def DS.mono(h:DS all S t)(a:∀j,S j=true->S' j=true):DS all S' t:=
 ⟨h.1,let ⟨j,o,h1,h2,h3⟩:=h.2;⟨j,o,a j h1,h2,h3⟩⟩
def A37(h:t∈KL all o):∃j b p,o.guard=some (j,b)/\all[j]?=some p/\p.dst=some t:=by grind[KL]
def SimF.weaken{D':Nat->Prop}(h:SimF P N fr free D sl σ a w G)(e:∀k,free' k->free k)(d:∀t,D t->D' t):SimF P N fr free' D' sl σ a w G:=
 ⟨h.slots,h.defs,h.size,h.fix,λt tk g s b=>⟨(h.toks t tk g s b).1,λp j=>d _ ((h.toks t tk g s b).2 p j)⟩,h.mem.shrink e,h.drawn⟩
def A38{d:Bool}{a:List Oper}{K:St->List (List Nat×List Nat)->Option Ω}{ω:Ω}
 (h:PR E all d n0 (o::a) i st cl K=some ω):
 ∃tk g r u,RM all st.slots o=some (tk,g)/\
  V8 E (λx=>(GR st.slots x).strip tk)
   (match o.op with| .pick c _ _=>λx=>(GR st.slots x).strip (RN c true tk)|_=>λx=>(GR st.slots x).strip tk)
   (match o.op with| .pick c _ _=>λx=>(GR st.slots x).strip (RN c false tk)|_=>λx=>(GR st.slots x).strip tk)
   (seen all d n0 i (V9 (λx=>(GR st.slots x).strip tk) st.sto o.op) st.sto) (n0+8*i) o=some r/\
  (g=true->Gives r u)/\(tk=[]->Gives r u)/\Calm d tk g u/\
  T4 (seen all d n0 i (V9 (λx=>(GR st.slots x).strip tk) st.sto o.op) st.sto) (n0+8*i) u=true/\
  PR E all d n0 a (i+1) {slots:=NP st.slots o.dst (RO tk g u.sv),sto:=EF st.sto u.wr,n:=st.n}
   ((u.far (n0+8*i),V9 (λx=>(GR st.slots x).strip tk) st.sto o.op)::cl) K=some ω:=by
 grind[PR,AHb,T4,seen,V9,GR]
theorem A39(Z:EnvOK P fr.dr E)(y:GuardsOK all)(x:∀(j:Nat) o d,all[j]?=some o->o.dst=some d->d<N/\fr.fx d=none)
 {K:St->List (List Nat×List Nat)->Option Ω}{ω:Ω}:
 ∀(ops:List Oper) (i:Nat) (st:St) (cl:List (List Nat×List Nat)) (a:Act) (w:World) (G:Gh),PR E all false n0 ops i st cl K=some ω->all.toList.drop i=ops->i+ops.length=all.size->
  SimF P N fr (λk=>n0+8*i<=k) (DS all (λj=>decide (j<i))) st.slots st.sto a w G->
  (∀s e a' w' G',SimF P N fr (λk=>n0+8*all.size<=k) (DS all (λj=>decide (j<all.size))) s.slots s.sto a' w' G'->s.n=st.n->K s e=some ω->Q .normal a' w')->
  wpOps P all Q (List.range' i ops.length) a w:=by
 intro ops;induction ops with
 |nil=>intro i st cl a w G h l D J C;simp only[C4,CE]at D;subst D;exact C st cl a w G J rfl h
 |cons o R ih=>
  intro i st cl a w G h l D J C;have⟨tk,g,r,u,h1,T,U,V,W,h6,X⟩:=A38 h;have z:all[i]?=some o:=by have:=congrArg List.head? l;rw[List.head?_drop]at this;simpa using this
  simp only[BL,List.range'_succ];rw[wpOps_cons];refine A35 Z z (self:=n0+8*i) J (λt _=>rfl) ?_ ?_ h1 ?_ (λk hk _=>hk) T U V (W.imp id λh=>h.2) ?_
  .intro t L;have⟨j,b,p,M,H,A⟩:=A37 L;have B:=t_ z M;exact⟨B,j,p,by simpa using y.back B i o j b z M,H,A⟩
  .intro d A;refine⟨x i o d z A,λY=>?_⟩;obtain⟨B,j,p,O,H,I⟩:=Y;exact y.uniq B j i p o d (by simpa using O) H z I A
  .intro k ob hk;exact hk
  .intro a' w' G' _ m;refine ih (i+1) _ _ a' w' G' X ?_ oc ?_ (λs e a' w' G' m hn hK=>C s e a' w' G' m hn hK)
   .have:=congrArg List.tail l;simpa[List.tail_drop]using this
   .refine m.weaken (λk hk=>⟨oa,?_⟩) λt L=>L.mono λj O=>oc;simp only[JQ,D9];right;rw[<-BW,BY];omega
structure Info where
 tk:List (Nat×Bool)
 g:Bool
 u:Upd
 c:List Nat×List Nat
def GC(all:Array Oper)(L:Nat->Info)(S:Nat->Bool)(sl0:Nat->SV):Nat->Nat->SV
 |0=>sl0
 |i+1=>bif S i then NP (GC all L S sl0 i) (all.getD i default).dst (RO (L i).tk (L i).g (L i).u.sv)else GC all L S sl0 i
def stF(L:Nat->Info)(S:Nat->Bool)(σ0:SSo):Nat->SSo
 |0=>σ0
 |i+1=>bif S i then EF (stF L S σ0 i) (L i).u.wr else stF L S σ0 i
def MX(l:List (Nat×Option Obj)):List Nat:=l.map (·.1)
theorem u6:∀{l:List (Nat×Option Obj)} {k:Nat},k ∉ MX l->EF σ l k=σ k:=by
 intro l;induction l with
 |nil=>intro k _;rfl
 |cons p r a=>intro k h;obtain⟨j,o⟩:=p;simp only[MX,CQ,A_,not_or]at h;simp only[EF];rw[show Nat.beq k j=false by rw[<-BW];simp_all];exact a h.2
theorem A3A{σ':SSo}:∀{l:List (Nat×Option Obj)} {k:Nat},k∈MX l->EF σ l k=EF σ' l k:=by
 intro l;induction l with
 |nil=>intro k h;cases h
 |cons p r a=>
  intro k h;obtain⟨j,o⟩:=p;simp only[EF];cases b:Nat.beq k j with
  |true=>rfl
  |false=>
   simp only[A8];refine a ?_;simp only[MX,CQ,A_]at h;rcases h with rfl|h
   .simp_all
   .exact h
theorem fH{L:Nat->Info}:∀{n:Nat},(∀j,j<n->(all.getD j default).dst=some t->S j=S' j)->GC all L S sl0 n t=GC all L S' sl0 n t:=by
 intro n;induction n with
 |zero=>intro _;rfl
 |succ n a=>
  intro h;have a:=a λj d=>h j oa;have key:∀S,GC all L S sl0 (n+1) t=if S n=true/\(all.getD n default).dst=some t then RO (L n).tk (L n).g (L n).u.sv else GC all L S sl0 n t:=by
   intro S;simp only[GC];cases b:S n with
   |false=>simp
   |true=>simp only[A6,RR,true_and]
  grind
theorem fI{L:Nat->Info}:∀{n:Nat},(∀j,j<n->k∈MX (L j).u.wr->S j=S' j)->stF L S σ0 n k=stF L S' σ0 n k:=by
 intro n;induction n with
 |zero=>intro _;rfl
 |succ n a=>intro h;have a:=a λj b=>h j oa;simp only[stF];grind[hk,MX,A3A,EF,stF,u6]
def A3B{L:Nat->Info}:∀{n:Nat},i<=n->(∀j,j<i->S j=true)->(∀j,i<=j->j<n->S j=false)->GC all L S sl0 n=GC all L (λ_=>true) sl0 i:=by
 intro n;induction n with
 | zero => intro h _ _; have : i = 0 := by omega
           subst this;rfl
 |succ n ih=>
  intro hi h1 h2;by_cases h:i=n+1
  .grind[GC,fH]
  .simp only[GC,h2 n oa oa,A8];grind
def A3C{L:Nat->Info}:∀{n:Nat},i<=n->(∀j,j<i->S j=true)->(∀j,i<=j->j<n->S j=false)->stF L S σ0 n=stF L (λ_=>true) σ0 i:=by
 intro n;induction n with
 | zero => intro h _ _; have : i = 0 := by omega
           subst this;rfl
 |succ n ih=>
  intro hi h1 h2;by_cases h:i=n+1
  .grind[stF,fI]
  .simp only[stF,h2 n oa oa,A8];grind
def AHc{L:Nat->Info}(hi:S i=true)(l:(all.getD i default).dst=some t):
 ∀{n:Nat},i<n->(∀j,i<j->j<n->(all.getD j default).dst=some t->S j=false)->GC all L S sl0 n t=RO (L i).tk (L i).g (L i).u.sv:=by
 intro n;induction n with
 |zero=>intro h;omega
 |succ n a=>
  intro m h;simp only[GC];by_cases e:i=n
  .simp_all[A6,RR,if_true]
  .have a:=a oa λj h1 d=>h j h1 oa;by_cases b:(all.getD n default).dst=some t
   .grind
   .cases S n<;>simp_all[A6,RR,CL]
def AHd{L:Nat->Info}(hi:S i=true)(a:k∈MX (L i).u.wr):
 ∀{n:Nat},i<n->(∀j,i<j->j<n->k∈MX (L j).u.wr->S j=false)->stF L S σ0 n k=EF σ (L i).u.wr k:=by
 intro n;induction n with
 |zero=>intro h;omega
 |succ n d=>intro b h;simp only[stF];grind[A3A,MX,u6,trans]
def A3D{L L':Nat->Info}:∀{n:Nat},(∀j,j<n->L j=L' j)->GC all L S sl0 n=GC all L' S sl0 n:=by intro n;induction n<;>grind[GC]
def A3E{L L':Nat->Info}:∀{n:Nat},(∀j,j<n->L j=L' j)->stF L S σ0 n=stF L' S σ0 n:=by intro n;induction n<;>grind[stF]
structure Fact(E:Env)(all:Array Oper)(n0:Nat)(L:Nat->Info)(sl0:Nat->SV)(σ0:SSo)(i:Nat)(o:Oper)(r:OpRes):Prop where
 op:all[i]?=some o
 grd:RM all (GC all L (λ_=>true) sl0 i) o=some ((L i).tk,(L i).g)
 val:V8 E (λx=>(GR (GC all L (λ_=>true) sl0 i) x).strip (L i).tk)
  (match o.op with| .pick c _ _=>λx=>(GR (GC all L (λ_=>true) sl0 i) x).strip (RN c true (L i).tk)|_=>λx=>(GR (GC all L (λ_=>true) sl0 i) x).strip (L i).tk)
  (match o.op with| .pick c _ _=>λx=>(GR (GC all L (λ_=>true) sl0 i) x).strip (RN c false (L i).tk)|_=>λx=>(GR (GC all L (λ_=>true) sl0 i) x).strip (L i).tk)
  (seen all true n0 i (L i).c.2 (stF L (λ_=>true) σ0 i)) (n0+8*i) o=some r
 gives:(L i).g=true->Gives r (L i).u
 gives':(L i).tk=[]->Gives r (L i).u
 calm:calm (L i).tk (L i).u=true
 wr:T4 (seen all true n0 i (L i).c.2 (stF L (λ_=>true) σ0 i)) (n0+8*i) (L i).u=true
 cls:(L i).c.1=(L i).u.far (n0+8*i)
def Fact.congr{L L':Nat->Info}{r:OpRes}
 (h:Fact E all n0 L sl0 σ0 i o r)(a:∀j,j<=i->L j=L' j):Fact E all n0 L' sl0 σ0 i o r:=by
 have b:=A3D (all:=all) (S:=λ_=>true) (sl0:=sl0) (n:=i) λj l=>a j oa;have d:=A3E (S:=λ_=>true) (σ0:=σ0) (n:=i) λj l=>a j oa;have e:=a i (AD _)
 exact ⟨h.op,by rw [<- b,<- e]; exact h.grd,by rw [<- b,<- d,<- e]; exact h.val,by rw [<- e]; exact h.gives,by rw [<- e]; exact h.gives',by rw [<- e]; exact h.calm,
  by rw[<-d,<-e];exact h.wr,by rw[<-e];exact h.cls⟩
def AHe{K:St->List (List Nat×List Nat)->Option Ω}{ω:Ω}:
 ∀(ops:List Oper) (i:Nat) (st:St) (L:Nat->Info),PR E all true n0 ops i st (((List.range i).map λj=>(L j).c).reverse) K=some ω->all.toList.drop i=ops->i+ops.length=all.size->
  st.slots=GC all L (λ_=>true) sl0 i->st.sto=stF L (λ_=>true) σ0 i->(∀j,j<i->∃o r,Fact E all n0 L sl0 σ0 j o r)->
  ∃L':Nat->Info,(∀j,j<all.size->∃o r,Fact E all n0 L' sl0 σ0 j o r)/\
   K {slots:=GC all L' (λ_=>true) sl0 all.size,sto:=stF L' (λ_=>true) σ0 all.size,n:=st.n} (((List.range all.size).map λj=>(L' j).c).reverse)=some ω:=by
 intro ops;induction ops with
 |nil=>intro i st L h a s h1 d l;simp only[C4,CE]at s;subst s;refine⟨L,l,?_⟩;rw[<-h1,<-d];exact h
 |cons o A H=>
  intro i st L h a s h1 d l;have⟨tk,g,r,u,k1,N,O,Q,w,T,U⟩:=A38 h;have R:=w.draw;have z:all[i]?=some o:=by have:=congrArg List.head? a;rw[List.head?_drop]at this;simpa using this
  let c:List Nat×List Nat:=(u.far (n0+8*i),V9 (λx=>(GR st.slots x).strip tk) st.sto o.op)
  let L':Nat->Info:=λj=>if j=i then⟨tk,g,u,c⟩else L j
  have b:∀j,j<i->L j=L' j:=λj p=>oc;have m:L' i=⟨tk,g,u,c⟩:=by simp[L']
  have B:=A3D (all:=all) (S:=λ_=>true) (sl0:=sl0) (n:=i) b;have C:=A3E (S:=λ_=>true) (σ0:=σ0) (n:=i) b;have s1:st.slots=GC all L' (λ_=>true) sl0 i:=h1.trans B;have V:st.sto=stF L' (λ_=>true) σ0 i:=d.trans C;have y:all.getD i default=o:=by rw[CD,z];rfl
  have:=H (i+1) {slots:=NP st.slots o.dst (RO tk g u.sv),sto:=EF st.sto u.wr,n:=st.n} L' ?_ ?_ ?_ ?_ ?_ ?_
  .exact this
  .have:((List.range (i+1)).map λj=>(L' j).c).reverse=c::((List.range i).map λj=>(L j).c).reverse:=by rw[List.range_succ,D7,List.reverse_append];simp only[CQ,List.map_nil,List.reverse_cons,List.reverse_nil,CZ,List.singleton_append,m,List.cons.injEq,true_and];congr 1;exact List.map_congr_left λj p=>by rw[b j (CA.1 p)]
   grind
  .have:=congrArg List.tail a;simpa[List.tail_drop]using this
  .grind
  .simp_all[GC,A6]
  .simp_all[stF,A6]
  .intro j p;by_cases e:j=i
   .subst e;refine⟨o,r,z,?_,?_,?_,?_,?_,?_,?_⟩<;>grind
   .obtain⟨J,M,D⟩:=l j oa;exact⟨J,M,D.congr λI G=>b I oa⟩
end
section
variable{all:Array Oper}
def YX(acc:Array Nat)(l:List Edge)(s:Nat):Nat:=l.foldl (λs e=>if Region.binds .any e then s|||2 ^ e.on|||acc.getD e.on 0 else s) s
def AHf{a:Array Nat}:∀{l:List Edge} {s:Nat},(YX a l s).testBit i=true->
 s.testBit i=true\/∃e∈l,Region.binds .any e=true/\(e.on=i\/(a.getD e.on 0).testBit i=true):=by
 intro l;induction l with
 |nil=>intro s h;exact .inl h
 |cons e r b=>intro s h;simp only[YX,List.foldl_cons]at h;rcases b h with h|⟨d,h1,j⟩<;>grind
def MY(acc:Array Nat)(o:Oper):Array Nat:=acc.push (YX acc o.after.toList 0)
theorem A3F(all:Array Oper):Region.before all=all.toList.foldl MY #[]:=by unfold Region.before;rw[<-Array.foldl_toList];congr 1;funext acc o;simp only[MY,YX,Array.foldl_toList]
def AHg:∀(l:List Oper) (a:Array Nat),(l.foldl MY a).size=a.size+l.length/\(∀k,k<a.size->(l.foldl MY a).getD k 0=a.getD k 0)/\
 ∀(j:Nat) (o:Oper),l[j]?=some o->∃b:Array Nat,(∀k,k<a.size+j->b.getD k 0=(l.foldl MY a).getD k 0)/\(l.foldl MY a).getD (a.size+j) 0=YX b o.after.toList 0:=by
 intro l;induction l with
 |nil=>simp
 |cons o l s=>
  intro a;have⟨h1,d,w⟩:=s (MY a o);have m:(MY a o).size=a.size+1:=by simp[MY]
  have h:∀k,k<a.size->(MY a o).getD k 0=a.getD k 0:=by intro k hk;simp[MY,CD,Array.getElem?_push,Nat.ne_of_lt hk]
  simp only[List.foldl_cons];refine⟨oc,λk hk=>by rw[d k oa,h k hk],λj p e=>?_⟩;cases j with
  |zero=>
   have:o=p:=by simpa using e
   subst this;refine⟨a,λk hk=>by rw[d k oa,h k oa],?_⟩;simp_all[MY,CD]
  |succ j=>grind
def u7(all:Array Oper):Prop:=∀(i:Nat) o,all[i]?=some o->∀e∈o.after,Region.binds .any e=true->e.on<i
def bits(all:Array Oper)(i:Nat):Nat:=(Region.before all).getD i 0
theorem AHh(w:u7 all)(l:all[j]?=some o)(h:(bits all j).testBit i=true):
 ∃e∈o.after,Region.binds .any e=true/\(e.on=i\/(bits all e.on).testBit i=true):=by
 have⟨_,_,p⟩:=AHg all.toList #[];have⟨b,k1,m⟩:=p j o (by simpa using l);unfold bits at h;rw[A3F]at h;simp only[B7,C4,BO]at k1 m;rw[m]at h;rcases AHf h with h|⟨e,h1,d,s⟩
 .simp at h
 .have a:e∈o.after:=oz;refine⟨e,a,d,s.imp id λh=>?_⟩;have x:=w j o l e a d;grind[bits,A3F]
def A3G(all:Array Oper)(S:Nat->Bool):Prop:=∀(j:Nat) o,S j=true->all[j]?=some o->∀e∈o.after,Region.binds .any e=true->S e.on=true
def A3H(p:u7 all)(z:A3G all S):∀(n j:Nat) (o:Oper),j<n->all[j]?=some o->(∀e∈o.after,Region.binds .any e=true->S e.on=true)->
 ∀i,(bits all j).testBit i=true->S i=true/\i<j:=by
 intro n;induction n with
 |zero=>omega
 |succ n C=>
  intro j o D m a i h;have⟨e,s,b,h1⟩:=AHh p m h;have A:=p j o m e s b;have y:=a e s b;rcases h1 with h1|h1
  .grind
  .have B:j<all.size:=(B1.1 m).1;have w:all[e.on]?=some all[e.on]:=AU oa;have⟨k1,E⟩:=C e.on _ oa w (λx l d=>z e.on _ y w x l d) i h1;grind
structure OrdOK(all:Array Oper)(c:Nat->List Nat×List Nat):Prop where
 back:u7 all
 slot:∀(i j:Nat) (o p:Oper) (t:Nat),all[i]?=some o->all[j]?=some p->i≠j->o.dst=some t->t∈YL all p->(i<j/\(bits all j).testBit i=true)\/(j<i/\(bits all i).testBit j=true)
 mem:∀(i j:Nat) (o p:Oper),all[i]?=some o->all[j]?=some p->i≠j->∀k,k∈(c i).1->k∈(c j).2->(i<j/\(bits all j).testBit i=true)\/(j<i/\(bits all i).testBit j=true)
def A3I(b:i≠j)(h:e7 (Region.before all) i j=true):(i<j/\(bits all j).testBit i=true)\/(j<i/\(bits all i).testBit j=true):=by
 unfold e7 at h;cases a:Nat.blt i j with
 |true=>rw[a]at h;exact .inl ⟨by rwa[BY]at a,h⟩
 |false=>rw[a]at h;refine .inr ⟨?_,h⟩;rw[<-BW,BY]at a;omega
def AHi:∀{l m:List Nat},e9 l m=true->∀k,k∈l->k ∉ m:=by
 intro l;induction l with
 |nil=>simp
 |cons x l a=>
  intro m h k hk;simp only[e9,A5,BE]at h;rcases A_.1 hk with rfl|hk
  .grind[OO]
  grind
def AHj{c:Nat->List Nat×List Nat}(D:cl=(List.range all.size).map c)(h:YM all cl=true):OrdOK all c:=by
 unfold YM at h;simp only[A5,BT,CA]at h;obtain⟨h1,A⟩:=h;have a:∀{i:Nat} {o:Oper},all[i]?=some o->i<all.size/\all.getD i default=o:=λ{i o} l=>⟨(B1.1 l).1,by simp_all⟩
 have m:∀i,i<all.size->cl.getD i ([],[])=c i:=by intro i hi;rw[D,AJ,AX,List.getElem?_range hi];rfl
 refine⟨λi o l e H G=>?_,λi j o p t l z b E I=>?_,λi j o p l z b k B C=>?_⟩
 .obtain⟨hi,x⟩:=a l;have:=h1 i hi;grind[Nat.blt_eq]
 .obtain⟨hi,x⟩:=a l;have⟨w,s⟩:=a z;have:=A i hi j w;rw[x,s,E]at this;have d:Nat.beq i j=false:=by rw[<-BW];exact λy=>b (A4 y)
  simp_all[C0,A5,C5,BE,absurd,A3I]
 .obtain⟨hi,x⟩:=a l;have⟨w,s⟩:=a z;have:=A i hi j w;have d:Nat.beq i j=false:=by rw[<-BW];exact λy=>b (A4 y)
  rw[d,m i hi,m j w]at this;simp only[C0,A5,C5,BE]at this;rcases this.2 with h|h
  .exact absurd C (AHi h k B)
  .exact A3I b h
end
section
variable{P:Program}{fr:Fr}{free free':Nat->Prop}{self:Nat}{σ σ':SSo}{w w':World}{G G':Gh}{I:Im}
theorem uA(h:t∈fF o\/t∈KL all o\/o.dst=some t):t∈YL all o:=by
 unfold YL;simp only[AZ];rcases h with h|h|h
 .exact .inl (.inl h)
 .grind[KL]
 grind
def A3J{self:Nat}{u:Upd}(hk:k∈MX u.wr):(self<=k/\k<self+8)\/k∈u.far self:=by
 obtain⟨p,a,rfl⟩:=B_.1 hk;cases h:JQ self p.1 with
 |true=>simp_all[JQ,A5,Nat.ble_eq,BY]
 |false=>exact .inr (B_.2 ⟨p,D8.2 ⟨a,by rw[h];rfl⟩,rfl⟩)
def A3K{self:Nat}{u:Upd}(h:T4 σ self u=true)(hk:k∈MX u.wr):(self<=k/\k<self+8)\/(σ k).isSome=true:=by unfold T4 at h;rw[BT]at h;obtain⟨p,a,rfl⟩:=B_.1 hk;have:=h p a;simp_all[JQ,C5,A5,Nat.ble_eq,BY]
def uB{F:List Nat}(h:(seen all true n0 i F σ k).isSome=true):
 k∈F/\seen all true n0 i F σ k=σ k/\(k<n0\/(bits all i).testBit ((k-n0) / 8)=true):=by
 unfold seen at h ⊢;simp only[A6]at h ⊢;cases a:(EW k F&&(Nat.blt k n0||((Region.before all).getD i 0).testBit ((k-n0) / 8)))with
 |false=>grind
 |true=>rw[A5,C5,BY]at a;exact⟨OO.1 a.1,rfl,a.2⟩
def A3L(n0:Nat)(S:Nat->Bool)(n:Nat):Nat->Prop:=λk=>n0<=k/\∀j,j<n->S j=true->¬(n0+8*j<=k/\k<n0+8*j+8)
def AHk{l:Array Bool}(hi:i<l.size):(l.setIfInBounds i true).getD j false=(decide (j=i)||l.getD j false):=by
 by_cases h:j=i
 .subst h;simp[hi]
 .rw[getD_set_ne false (λe=>h e.symm)];simp[h]
def AHl(hE:EnvOK P fr.dr E)(hgo:GuardsOK all)(hdst:∀(j:Nat) o d,all[j]?=some o->o.dst=some d->d<N/\fr.fx d=none)
 {L:Nat->Info}(hF:∀j,j<all.size->∃o r,Fact E all n0 L sl0 σ0 j o r)(hO:OrdOK all λi=>(L i).c)
 (hQ:∀a' w' G',SimF P N fr (λk=>n0+8*all.size<=k) (DS all (λ_=>true)) (GC all L (λ_=>true) sl0 all.size) (stF L (λ_=>true) σ0 all.size) a' w' G'->Q .normal a' w'):
 ∀(fuel:Nat) (listed:Array Bool) (a:Act) (w:World) (G:Gh),listed.size=all.size->((List.range all.size).filter λj=>!listed.getD j false).length<=fuel->
  A3G all (λj=>listed.getD j false)->
  SimF P N fr (A3L n0 (λj=>listed.getD j false) all.size) (DS all (λj=>listed.getD j false)) (GC all L (λj=>listed.getD j false) sl0 all.size) (stF L (λj=>listed.getD j false) σ0 all.size) a w G->
  wpAny P .any all Q fuel listed a w:=by
 have hgetD:∀{i:Nat} {o:Oper},all[i]?=some o->i<all.size/\all.getD i default=o:=λ{i o} ho=>⟨(B1.1 ho).1,by simp_all⟩
 have hdone:∀(listed:Array Bool),listed.size=all.size->Region.ready .any all listed=[]->∀j,j<all.size->listed.getD j false=true:=by
  intro listed hsz hr;have:∀n j,j<n->j<all.size->listed.getD j false=true:=by
   intro n;induction n with
   |zero=>intro j h;omega
   |succ n ih=>
    intro j hj hja;apply BI;intro hn;have hm:j∈Region.ready .any all listed:=by
     rw[mem_ready];refine⟨?_,all[j],AU hja,λe he hb=>?_⟩
     .grind
     .have hlt:=hO.back j _ (AU hja) e he hb;grind
    grind
  intro j hj;exact this (j+1) j oa hj
 have hfin:∀(listed:Array Bool) (a:Act) (w:World) (G:Gh),(∀j,j<all.size->listed.getD j false=true)->
  SimF P N fr (A3L n0 (λj=>listed.getD j false) all.size) (DS all (λj=>listed.getD j false)) (GC all L (λj=>listed.getD j false) sl0 all.size) (stF L (λj=>listed.getD j false) σ0 all.size) a w G->Q .normal a w:=by
  intro listed a w G hall hs;have e1:GC all L (λj=>listed.getD j false) sl0 all.size=GC all L (λ_=>true) sl0 all.size:=by funext t;exact fH λj hj _=>hall j hj
  have e2:stF L (λj=>listed.getD j false) σ0 all.size=stF L (λ_=>true) σ0 all.size:=by funext t;exact fI λj hj _=>hall j hj
  rw[e1,e2]at hs;exact hQ a w G (hs.weaken (λk hk=>⟨oa,λj hj _=>oa⟩) λt ht=>ht.mono λ_ _=>rfl)
 intro fuel;induction fuel with
 |zero=>
  intro listed a w G hsz hfu hdn hs;have hall:∀j,j<all.size->listed.getD j false=true:=by intro j hj;apply BI;intro hn;have:j∈(List.range all.size).filter λj=>!listed.getD j false:=D8.2 ⟨CA.2 hj,by simpa using hn⟩;rw[AF (Nat.le_zero.1 hfu)]at this;cases this
  refine⟨?_,hfin listed a w G hall hs⟩;rw[List.eq_nil_iff_forall_not_mem];intro j hj;have⟨h1,o,ho,_⟩:=mem_ready.1 hj;grind
 |succ fuel ih=>
  intro listed a w G hsz hfu hdn hs;refine⟨λhr=>hfin listed a w G (hdone listed hsz hr) hs,λi hi=>?_⟩;have⟨hun,o,ho,hall⟩:=mem_ready.1 hi;have⟨hin,hget⟩:=hgetD ho;have hun':listed.getD i false=false:=by have hj2:i<listed.size:=oa;simp only[CD,AU hj2,DD]at hun ⊢;exact hun
  have⟨o',r,hf⟩:=hF i hin;have eo:o'=o:=by have:=hf.op;rw[ho]at this;cases this;rfl
  subst eo;have hpre:∀j,(bits all i).testBit j=true->listed.getD j false=true/\j<i:=A3H hO.back hdn (i+1) i o' oa ho hall;have hpost:∀j,(bits all j).testBit i=true->j<all.size->listed.getD j false=false:=by intro j hb hj;rw[<-BW];intro hS;have hp:all[j]?=some all[j]:=AU hj;have:=(A3H hO.back hdn (j+1) j _ oa hp (λe he hb=>hdn j _ hS hp e he hb) i hb).1;rw[hun']at this;cases this
  have hord:∀j,j<all.size->((i<j/\(bits all j).testBit i=true)\/(j<i/\(bits all i).testBit j=true))->listed.getD j false=decide (j<i):=by
   intro j hj h;rcases h with⟨h1,h2⟩|⟨h1,h2⟩
   .grind
   .grind
  have hcls:∀j oj,all[j]?=some oj->(L j).c.1=(L j).u.far (n0+8*j)/\T4 (seen all true n0 j (L j).c.2 (stF L (λ_=>true) σ0 j)) (n0+8*j) (L j).u=true:=by intro j oj hj;have⟨o'',r'',hf''⟩:=hF j (hgetD hj).1;exact⟨hf''.cls,hf''.wr⟩
  have hslot:∀t,t∈YL all o'->GC all L (λ_=>true) sl0 i t=GC all L (λj=>listed.getD j false) sl0 all.size t:=by
   intro t ht;rw[<-A3B (S:=λj=>decide (j<i)) (n:=all.size) oa (λj hj=>by simpa using hj) (λj hj _=>by simpa using hj)];refine fH λj hj hd=>?_;by_cases e:j=i
   .grind
   .have hp:all[j]?=some all[j]:=AU hj;rw[(hgetD hp).2]at hd;exact(hord j hj ((hO.slot j i _ o' t hp ho e hd ht).symm)).symm
  have hsto:∀k,(seen all true n0 i (L i).c.2 (stF L (λ_=>true) σ0 i) k).isSome=true->
   seen all true n0 i (L i).c.2 (stF L (λ_=>true) σ0 i) k=stF L (λj=>listed.getD j false) σ0 all.size k:=by
   intro k hk;have⟨h1,h2,h3⟩:=uB hk;rw[h2];rw[<-A3C (S:=λj=>decide (j<i)) (n:=all.size) oa (λj hj=>by simpa using hj) (λj hj _=>by simpa using hj)];refine fI λj hj hd=>?_;by_cases e:j=i
   .grind
   .have hp:all[j]?=some all[j]:=AU hj;have⟨hc,hw⟩:=hcls j _ hp;rcases A3J (self:=n0+8*j) hd with⟨k1,k2⟩|hl
    .have hdiv:(k-n0) / 8=j:=oa;grind
    .exact(hord j hj ((hO.mem j i _ o' hp ho e k (hc▸hl) h1).symm)).symm
  refine A35 hE ho (self:=n0+8*i) (sl0:=GC all L (λ_=>true) sl0 i) hs ?_ ?_ ?_ hf.grd ?_ ?_ hf.val hf.gives hf.gives' (.inl hf.calm) ?_
  .grind[uA]
  .intro t ht;have⟨j,b,p,hg,hp,hd⟩:=A37 ht;have hh:=t_ ho hg;refine⟨hh,j,p,?_,hp,hd⟩;have hji:=hgo.back hh i o' j b ho hg;have:=hO.slot j i p o' t hp ho oa hd (uA (.inr (.inl ht)));grind
  .intro d hd;refine⟨hdst i o' d ho hd,λhD=>?_⟩;obtain⟨hh,j,p,hj,hp,hpd⟩:=hD;have hj:listed.getD j false=true:=hj;have hne:j≠i:=λe=>oc;rcases Nat.lt_or_ge j i with h|h
   .exact hgo.uniq hh j i p o' d h hp ho hpd hd
   .exact hgo.uniq hh i j o' p d oa ho hp hd hpd
  .grind
  .intro k h1 h2;refine⟨oa,λj hj hS h3=>?_⟩;have hS:listed.getD j false=true:=hS;have:j=i:=oa;grind
  .intro a' w' G' _ hs';have hset:∀j,(listed.setIfInBounds i true).getD j false=(decide (j=i)||listed.getD j false):=λj=>AHk oa;have hS':(λj=>(listed.setIfInBounds i true).getD j false)=λj=>(decide (j=i)||listed.getD j false):=funext hset;refine ih (listed.setIfInBounds i true) a' w' G' (by simpa using hsz) ?_ ?_ ?_
   .have hlt:((List.range all.size).filter λj=>!(listed.setIfInBounds i true).getD j false).length<((List.range all.size).filter λj=>!listed.getD j false).length:=by
     have hsub:((List.range all.size).filter λj=>!(listed.setIfInBounds i true).getD j false)=((List.range all.size).filter λj=>!listed.getD j false).filter λj=>!decide (j=i):=by rw[List.filter_filter];refine List.filter_congr λj _=>?_;rw[hset,Bool.not_or]
     rw[hsub];refine List.length_filter_lt_length_iff_exists.2 ⟨i,D8.2 ⟨CA.2 hin,by rw[hun'];rfl⟩,oh⟩
    omega
   .intro j p hj hp e he hb;have hj:(listed.setIfInBounds i true).getD j false=true:=hj;show(listed.setIfInBounds i true).getD e.on false=true;rw[hset]at hj ⊢;rw[C5,BA]at hj ⊢;rcases hj with rfl|hj
    .grind
    .exact .inr (hdn j p hj hp e he hb)
   .rw[hS'];have e1:NP (GC all L (λj=>listed.getD j false) sl0 all.size) o'.dst (RO (L i).tk (L i).g (L i).u.sv)=GC all L (λj=>(decide (j=i)||listed.getD j false)) sl0 all.size:=by
     funext t;rw[RR];by_cases hd:o'.dst=some t
     .rw[if_pos hd];refine(AHc (S:=λj=>(decide (j=i)||listed.getD j false)) oh oc hin λj h1 h2 h3=>?_).symm;have hp:all[j]?=some all[j]:=AU h2;rw[(hgetD hp).2]at h3;have:=hO.slot i j o' _ t ho hp oa hd (uA (.inr (.inr h3)));grind
     .rw[if_neg hd];grind[fH]
    have e2:EF (stF L (λj=>listed.getD j false) σ0 all.size) (L i).u.wr=stF L (λj=>(decide (j=i)||listed.getD j false)) σ0 all.size:=by
     funext k;by_cases hk:k∈MX (L i).u.wr
     .refine(AHd (S:=λj=>(decide (j=i)||listed.getD j false)) oh hk hin λj h1 h2 h3=>?_).symm;have hp:all[j]?=some all[j]:=AU h2;have hne:¬j=i:=oa;simp only[hne,decide_false,C0];rw[<-BW];intro hS;have hno:¬((i<j/\(bits all j).testBit i=true)\/(j<i/\(bits all i).testBit j=true)):=by intro h;have:=hord j h2 h;rw[hS]at this;simp at this;omega
      have⟨hci,hwi⟩:=hcls i o' ho;have⟨hcj,hwj⟩:=hcls j _ hp;rcases A3K hwj h3 with hkj|hkj
      .rcases A3K hwi hk with hki|hki
       .omega
       .obtain⟨q1,q2,q3⟩:=uB hki;grind
      .obtain⟨q1,q2,q3⟩:=uB hkj;rcases A3J (self:=n0+8*i) hk with hki|hki
       .have hdiv:(k-n0) / 8=i:=oa;grind
       .exact hno (hO.mem i j o' _ ho hp oa k (hci▸hki) q1)
     .grind[u6,fI]
    rw[<-e1,<-e2];refine hs'.weaken (λk hk=>⟨⟨hk.1,λj hj hS h3=>hk.2 j hj oc h3⟩,?_⟩) λt ht=>ht.mono λj hj=>oc;have:=hk.2 i hin oh;rw[<-BW];simp only[JQ,A5,Nat.ble_eq,BY];exact this
end
structure SimN(P:Program)(N:Nat)(fr:Fr)(st:St)(a:Act)(w:World)(G:Gh):Prop where
 slots:∀t,SlotOK P w G a (st.slots t) (a.tmps.getD t undef)
 defs:a.defers=[]
 size:a.tmps.size=N
 fix:∀t v,fr.fx t=some v→a.tmps.getD t undef=v
 nogrd:∀t tk g s,st.slots t≠.grd tk g s
 mem:MemS P fr (λk=>st.n<=k) st.sto w G
 drawn:fr.dr=true->fr.w0.drawn<=w.drawn
section
variable{dr:Bool}
variable{P:Program}{fr:Fr}{free free':Nat->Prop}{self:Nat}{σ σ':SSo}{w w':World}{G G':Gh}{I:Im}
def AHm:∀{l:List Oper},(l.filterMap (·.dst)).Nodup->∀(i j:Nat) (o p:Oper) (d:Nat),i<j->l[i]?=some o->l[j]?=some p->o.dst=some d->p.dst≠some d:=by intro l;induction l<;>grind
def A3M(h:L0 all=true->LH (eA all)=true/\YO all=true):GuardsOK all:=by
 refine⟨λe i j o p d l hi m s=>?_,λe i o j b hi w=>?_⟩
 .exact AHm (A2k (h e).1) i j o p d l (by simpa using hi) (by simpa using m) s
 .have a:=(h e).2;unfold YO at a;rw[BT]at a;have:=a i (CA.2 (B1.1 hi).1);simp_all
theorem AHn(hE:EnvOK P fr.dr E)(hmix:P.follows .mixedOrders=true){draw:Bool}{K:St->Option Ω}{ω:Ω}
 (hdst:∀(j:Nat) o d,ops[j]?=some o->o.dst=some d->d<N/\fr.fx d=none)(h:sP E ops draw st K=some ω)(hs:SimN P N fr st a w G)
 (hQ:∀st' a' w' G',SimN P N fr st' a' w' G'->K st'=some ω->Q .normal a' w'):(Code.region id ops draw).wp P Q a w:=by
 unfold sP at h;have hgo:GuardsOK ops:=by refine A3M λhh=>?_;rw[hh]at h;cases h1:LH (eA ops)<;>cases h2:YO ops<;>rw[h1,h2]at h<;>first|exact⟨rfl,rfl⟩|cases h
 have h:PR E ops draw st.n ops.toList 0 st [] (λst' cl=>bif !draw||YM ops cl.reverse then
  K {slots:=bif L0 ops then YN st'.slots else st'.slots,sto:=st'.sto,n:=st.n+8*ops.size}else none)=some ω:=by
  cases hc:(L0 ops && !(LH (eA ops)&&YO ops))with
  |true=>grind
  |false=>grind
 have fin:∀(st':St) (S:Nat->Bool) (a':Act) (w':World) (G':Gh),SimF P N fr (λk=>st.n+8*ops.size<=k) (DS ops S) st'.slots st'.sto a' w' G'->
  K {slots:=bif L0 ops then YN st'.slots else st'.slots,sto:=st'.sto,n:=st.n+8*ops.size}=some ω->Q .normal a' w':=by
  intro st' S a' w' G' hs' hK;refine hQ _ a' w' G' ⟨λt=>?_,hs'.defs,hs'.size,hs'.fix,λt tk g s=>?_,hs'.mem,hs'.drawn⟩ hK
  .have:=hs'.slots t;cases hh:L0 ops with
   |false=>exact this
   |true=>
    simp only[A6,YN];split
    .exact(SR.undef _).slotOK
    .exact this
  .cases hh:L0 ops with
   |false=>
    intro h;have⟨h1,h2⟩:=hs'.toks t tk g s h;cases tk with
    |nil=>exact h1 rfl
    |cons p r=>have:=(h2 p AE).1;grind
   |true=>simp only[A6,YN];grind
 cases draw with
 |false=>
  refine wp_region ?_
  have:=A39 hE hgo hdst (Q:=Q) ops.toList 0 st [] a w G h oh oh ⟨hs.slots,hs.defs,hs.size,hs.fix,λt tk g s hh=>absurd hh (hs.nogrd t tk g s),hs.mem.shrink λk hk=>by simpa using hk,hs.drawn⟩
   (λst' cl' a' w' G' hs' _ hK=>fin st' _ a' w' G' hs' hK)
  grind[List.range_eq_range']
 |true=>
  have⟨L,hF,hK⟩:=AHe (sl0:=st.slots) (σ0:=st.sto) ops.toList 0 st (λ_=>⟨[],true,⟨.undef,[]⟩,([],[])⟩) h oh oh rfl rfl (λj hj=>oa);refine wp_region_any hmix ?_;cases ho:YM ops ((List.range ops.size).map λj=>(L j).c)with
  |false=>grind
  |true=>
   simp only[List.reverse_reverse,ho,BS,C0,A6]at hK;have hrep:∀j,(Array.replicate ops.size false).getD j false=false:=by intro j;simp only[CD,Array.getElem?_replicate];split<;>rfl
   have e1:GC ops L (λj=>(Array.replicate ops.size false).getD j false) st.slots ops.size=st.slots:=by rw[A3B (i:=0) (AS _) (λj hj=>oa) (λj _ _=>hrep j)];rfl
   have e2:stF L (λj=>(Array.replicate ops.size false).getD j false) st.sto ops.size=st.sto:=by rw[A3C (i:=0) (AS _) (λj hj=>oa) (λj _ _=>hrep j)];rfl
   refine AHl (n0:=st.n) (sl0:=st.slots) (σ0:=st.sto) hE hgo hdst hF (AHj rfl ho) (λa' w' G' hs'=>fin ⟨GC ops L (λ_=>true) st.slots ops.size,stF L (λ_=>true) st.sto ops.size,0⟩ _ a' w' G' hs' hK) ops.size _ a _ G oh
    (AM (CT _ _) oh) (λj o hj=>?_) ?_
   .grind
   .rw[e1,e2];refine SimF.draws ⟨hs.slots,hs.defs,hs.size,hs.fix,λt tk g s hh=>absurd hh (hs.nogrd t tk g s),hs.mem.shrink λk hk=>hk.1,hs.drawn⟩ _ (Nat.le_succ _)
def AHo:∀{l:List Oper} {st:St} {G:Gh},SimN P N fr st a w G->∃G',SimN P N fr (VB E l st) a w G':=by
 intro l;induction l with
 |nil=>intro st G h;exact⟨G,h⟩
 |cons o l d=>
  intro st G h;simp only[VB];split
  .split
   .rename_i u s;obtain⟨x,b⟩:∃p c,dS st.sto st.n p c=some u:=by grind
    obtain⟨c,b⟩:=b;have⟨G1,h1,e⟩:=AHL h.mem (AD _) b;exact d (st:=⟨st.slots,EF st.sto u,st.n+1⟩) ⟨λt=>(h.slots t).mono h1 λ_ _ _ _=>Iff.rfl,h.defs,h.size,h.fix,h.nogrd,e.shrink λj m=>by grind,h.drawn⟩
   .exact d h
  .exact d h
theorem AHp(p:EnvOK P fr.dr E)(l:P.follows .mixedOrders=true){b:Bool}{K:St->Option Ω}{ω:Ω}
 (e:∀(j:Nat) o d,ops[j]?=some o->o.dst=some d->d<N/\fr.fx d=none)(h:A1l E ops b st K=some ω)(x:SimN P N fr st a w G)
 (z:∀s a' w' G',SimN P N fr s a' w' G'->K s=some ω->Q .normal a' w'):(Code.region id ops b).wp P Q a w:=
 AHn p l e h x λs a' w' G' m y=>by have⟨G'',h⟩:=AHo (E:=E) (l:=ops.toList.reverse) m;grind
def LM:Ex->Exit
 | .normal=>.normal
 | .exit i=>.exit i
 | .ret=>.ret
def A3N{e:Ex}{w:World}(h:match e with| .normal=>K a w|e=>Q (LM e) a w):Exit.then K Q (LM e) a w:=by cases e<;>exact h
def OutS(P:Program)(w:World)(I:Im)(a:Act)(e:Exit)(hs:Nat)(bs:List Nat):(l:List (Ex×Kp))->H3 l->Prop
 |[],x=>Empty.elim x
 |[o],x=>e=LM o.1/\∃bs',ShL P w I o.2.sh x (o.2.tm.map λt=>a.tmps.getD t undef) bs'/\bs'.Nodup/\∀b∈bs',b∈bs\/hs<=b
 |o::p::r,x=>Sum.casesOn (motive:=λ_=>Prop) x (λy=>e=LM o.1/\∃bs',ShL P w I o.2.sh y (o.2.tm.map λt=>a.tmps.getD t undef) bs'/\bs'.Nodup/\∀b∈bs',b∈bs\/hs<=b)
  (λy=>OutS P w I a e hs bs (p::r) y)
def MZ(P:Program)(dr:Bool)(N:Nat)(s:CSpec)(x:H3 s.outs)(a0:Act)(w:World)(I:Im)(bs:List Nat):Exit->Act->World->Prop:=λe a' w'=>a'.defers=[]/\a'.tmps.size=N/\(∀t,EW t s.wrs=false->a'.tmps.getD t undef=a0.tmps.getD t undef)/\(dr=true->w.drawn<=w'.drawn)/\∃I',After (·∈bs) w I w' I'/\OutS P w' I' a' e w.heap.size bs s.outs x
def TF(a:Act)(c:Nat):Value:=bif Nat.blt c 1048576 then a.tmps.getD c undef else bif Nat.blt c 1099511627776 then .func (.func (c / 1048576-1)) #[] #[a.tmps.getD (c % 1048576) undef]else .func (.func (c / 1048576 % 1048576-1)) #[] #[a.tmps.getD (c % 1048576) undef,a.tmps.getD (c / 1099511627776-1) undef]
def fJ(al:List (Nat×Nat))(a:Act):Prop:=∀t j,I4 al t=some j->a.tmps.getD t undef=TF a j
def CutOK(P:Program)(dr:Bool)(N:Nat)(s:CSpec)(c:Code):Prop:=∀(w:World) (I:Im) (a:Act) (v:TupR s.inn.sh) (bs:List Nat),HQ w I->a.defers=[]->a.tmps.size=N->fJ s.al a->ShL P w I s.inn.sh v (s.inn.tm.map λt=>a.tmps.getD t undef) bs->bs.Nodup->
 match s.nd with
 |none=>∀x,s.F v=some x->c.wp P (MZ P dr N s x a w I bs) a w
 |some d=>(∀o,d.S v o->∃x,d.F v o=some x)->c.wp P (λe a' w'=>∃o x,d.S v o/\d.F v o=some x/\MZ P dr N s x a w I bs e a' w') a w
def A3O:∀{tm:List Nat} {l:List SV},(∀(j:Nat) (s:SV) (t:Nat),l[j]?=some s->tm[j]?=some t->SR P w G s (a.tmps.getD t undef))->∀t,SR P w G (T1 tm l t) (a.tmps.getD t undef):=by
 intro tm;induction tm with
 |nil=>grind[T1,SR.undef]
 |cons d tm p=>
  intro l h t;cases l with
  |nil=>grind[T1,SR.undef]
  |cons s l=>
   simp only[T1];cases m:Nat.beq t d with
   |true=>have e:=A4 m;subst e;exact h 0 s t rfl rfl
   |false=>exact p (λj x y h1 b=>h (j+1) x y oz (by simpa using b)) t
def AHq:∀(l:List (Nat×Option Obj)) (i:Nat),(I4 l i).getD none=EF (λ_=>none) l i:=by intro l;induction l<;>grind[I4,EF,Nat.beq]
theorem AHr:∀{l:List Sh} {x:TupR l} {n:Nat},XZ (FE l x n) n=n+GG l:=by
 intro l;induction l with
 |nil=>intro x n;rfl
 |cons a l d=>
  intro x n;cases l with
  |nil=>exact(TB a x n).trans (by simp[GG])
  |cons b l=>have:XZ (FE (a::b::l) x n) n=XZ (FE (b::l) x.2 (E_ a x.1 n).nx) (E_ a x.1 n).nx:=rfl;grind[TB,GG]
def uC{k:Kp}{v:TupR k.sh}(J:a.defers=[])(E:a.tmps.size=N)(z:∀t v,fr.fx t=some v->a.tmps.getD t undef=v)(p:After fr.gv fr.w0 fr.i0 w I)(y:fr.dr=true->fr.w0.drawn<=w.drawn)
 (h:ShL P w I k.sh v (k.tm.map λt=>a.tmps.getD t undef) bs)(B:bs.Nodup)(x:∀b∈bs,fr.owned b):∃G',SimN P N fr (I5 k v) a w G':=by
 let G0:Gh:=⟨I,λ_ _=>none,λ_=>none,λ_=>none⟩
 have A:MemS P fr (λ_=>True) (λ_=>none) w G0:=⟨λk o h=>(oq),λj k o Q b h=>(oq),p,λk _=>⟨rfl,rfl,rfl,λ_=>rfl⟩⟩;have⟨G',h1,K,L,D⟩:=tN (n:=0) (G:=G0) A h B (λb H=>⟨x b H,λj o h=>(oq)⟩) (λ_ _ _=>trivial);have d:∀t,SR P w G' ((I5 k v).slots t) (a.tmps.getD t undef):=by
  refine A3O λj s t l O=>?_;rw[AX]at l;cases C:(FE k.sh v 0)[j]? with
  |none=>grind
  |some m=>rw[C]at l;cases l;exact D j m _ C oc
 refine⟨G',λt=>(d t).slotOK,J,E,z,λt tk g s h=>?_,?_,y⟩
 .have:=d t;rw[h]at this;exact this.not_grd
 .have e:(I5 k v).sto=EF (λ_=>none) ((FE k.sh v 0).flatMap (·.obs)):=funext λi=>AHq _ i;rw[e];refine h1.mem.shrink λj l=>⟨trivial,λM=>?_⟩;grind[I5,GG,AHr]
def A3P(b:SimN P N fr st a w G)(j:Nat):SR P w G (T2 st.slots j) (TF a j):=by
 have h:∀j,SR P w G (st.slots j) (a.tmps.getD j undef):=by intro j;have h1:SlotOK P w G a (st.slots j) (a.tmps.getD j undef):=b.slots _;have d:∀tk g s,st.slots j≠.grd tk g s:=b.nogrd _;generalize st.slots j=s at h1 d;cases s<;>first|exact h1|grind
 unfold T2 TF;cases l:Nat.blt j 1048576 with
 |true=>exact h j
 |false=>
  cases e:Nat.blt j 1099511627776 with
  |true=>exact⟨_,rfl,#[_],rfl,_,[],rfl,h _,rfl⟩
  |false=>exact⟨_,rfl,#[_,_],rfl,_,[_],rfl,h _,_,[],rfl,h _,rfl⟩
def AHs(b:SimN P N fr st a' w G)(j:fJ al a)(l:∀t,EW t wrs=false->a'.tmps.getD t undef=a.tmps.getD t undef):SimN P N fr (Y2 al wrs st) a' w G:=by
 unfold Y2;split
 .exact b
 .have key:∀t,UZ al wrs st.slots t=st.slots t\/∃c,UZ al wrs st.slots t=T2 st.slots c/\a'.tmps.getD t undef=TF a' c:=by
   intro t;unfold UZ;split
   .rename_i c y;cases d:(EW t wrs||(EW (dJ c) wrs||EW (rI c) wrs))with
    |true=>exact .inl rfl
    |false=>simp only[BM]at d;refine .inr ⟨c,rfl,?_⟩;rw[l t d.1,j t c y];have p:=d.2.1;have x:=d.2.2;unfold rI at x;unfold dJ at p;unfold TF;grind
   .exact .inl rfl
  refine⟨λt=>?_,b.defs,b.size,b.fix,λt tk g s=>?_,b.mem,b.drawn⟩
  .show SlotOK P w G a' (UZ al wrs st.slots t) _;rcases key t with e|⟨c,e,m⟩
   .rw[e];exact b.slots t
   .rw[e,m];exact(A3P b c).slotOK
  .show UZ al wrs st.slots t≠_;rcases key t with e|⟨c,e,m⟩
   .rw[e];exact b.nogrd t tk g s
   .rw[e];intro h;have:=A3P b c;rw[h]at this;exact this.not_grd
def uD{k:Kp}{v:TupR k.sh}(h:SimN P N fr (I5 k v) a w G)(d:fJ al a):SimN P N fr (UX al k v) a w G:=by
 refine⟨λt=>?_,h.defs,h.size,h.fix,λt tk g s=>?_,h.mem,h.drawn⟩
 .show SlotOK P w G a (Y0 al (I5 k v).slots t) _;unfold Y0;split
  .rename_i j e;rw[d t j e];unfold T2 TF;cases m:Nat.blt j 1048576 with
   |true=>exact h.slots j
   |false=>
    have b:∀j,SR P w G ((I5 k v).slots j) (a.tmps.getD j undef):=by intro j;have h1:SlotOK P w G a ((I5 k v).slots j) (a.tmps.getD j undef):=h.slots _;have l:∀tk g s,(I5 k v).slots j≠.grd tk g s:=h.nogrd _;generalize (I5 k v).slots j=s at h1 l;cases s<;>first|exact h1|grind
    cases p:Nat.blt j 1099511627776 with
    |true=>exact⟨_,rfl,#[_],rfl,_,[],rfl,b _,rfl⟩
    |false=>exact⟨_,rfl,#[_,_],rfl,_,[_],rfl,b _,_,[],rfl,b _,rfl⟩
  .exact h.slots t
 .show Y0 al (I5 k v).slots t≠_;unfold Y0;split
  .rename_i j e;unfold T2;cases m:Nat.blt j 1048576 with
   |true=>exact h.nogrd _ tk g s
   |false=>grind
  .exact h.nogrd _ tk g s
def A3Q(K:SimN P N fr st a w G):∀{al:List (Nat×Nat)},RJ al st.slots=true->fJ al a:=by
 have V:∀t k g,st.slots t=.obj k g->G.val k g=some (a.tmps.getD t undef):=by intro t k g h;have:=K.slots t;rw[h]at this;exact PT this
 intro al;induction al with
 |nil=>intro _ t j h;cases h
 |cons p r W=>
  intro h t j E;simp only[RJ,A5]at h;obtain⟨x,y⟩:=p;simp only[I4]at E;cases A:Nat.beq t x with
  |false=>rw[A]at E;exact W h.2 t j E
  |true=>
   rw[A]at E;have B:=A4 A;have C:y=j:=A2 E;subst B C;have d:=h.1;unfold A1Z at d;unfold TF;cases A:Nat.blt y 1048576 with
   |true=>
   rw[A]at d;simp only[A6]at d ⊢;unfold A1Y at d;split at d
   .rename_i k g X g' h1 h2;simp only[A5]at d;grind[Nat.eq_of_beq_eq_true,Option.some.inj]
   .cases d
   |false=>
   rw[A]at d;simp only[A8]at d ⊢;have same:∀{s:SV} {m:Nat} {v:Value},X_ s (st.slots m)=true->SR P w G s v->v=a.tmps.getD m undef:=by
    intro s m v J L;unfold X_ at J;split at J
    .rename_i k u X u' h1;have Y:=A4 J;subst Y;have H:=K.slots m;rw[h1]at H;have⟨b,t1,o,b1,b2,b3,b4⟩:=NR (show SR P w G (.ptr k [] u') _ from H);grind[NR,SR]
    .cases J
   cases D:Nat.blt y 1099511627776 with
   |true=>
    rw[D]at d;simp only[A6]at d ⊢;split at d
    .rename_i f s z;simp only[A5]at d;have U:=A4 d.1;have e:=K.slots t;rw[z]at e;have⟨c,R,I,B,v,r,C,L,l⟩:=(show SR P w G (.fn f (.scons s .snil)) _ from e);have l:r=[]:=l;subst l;have O:a.tmps.getD t undef=.func (.func f) #[] I:=AC.1 ((show c=[_]from R).symm.trans B);have Q:I= #[v]:=by apply C6;exact C
     rw[O,Q,U,same d.2 L]
    .cases d
   |false=>
    rw[D]at d;simp only[A8]at d ⊢;split at d
    .rename_i f s s' z;simp only[A5]at d;have U:=A4 d.1;have e:=K.slots t;rw[z]at e;have⟨c,R,I,B,v,r,C,L,v',Z,M,T,l⟩:=(show SR P w G (.fn f (.scons s (.scons s' .snil))) _ from e);have l:Z=[]:=l;subst l;have O:a.tmps.getD t undef=.func (.func f) #[] I:=AC.1 ((show c=[_]from R).symm.trans B);have Q:I= #[v,v']:=by apply C6;rw[C,M]
     rw[O,Q,U,same d.2.1 L,same d.2.2 T]
    .cases d
def SimN.frz(h:SimN P N fr st a w G)(k:Kp):∃G',GLe w G w G'/\SimN P N fr (KH k st) a w G':=by have⟨G',h1,b⟩:=A31 h.mem k.sh (k.tm.map st.slots);exact⟨G',h1,λt=>(h.slots t).mono h1 λ_ _ _ _=>Iff.rfl,h.defs,h.size,h.fix,h.nogrd,b,h.drawn⟩
def AHt(A:∀f y,fs f=some y->FK P f/\FunOK P f y){k:Kp}{v:TupR k.sh}(d:SimN P N fr st a w G)(h:OJ fs k (KH k st)=some v):
 ∃G',SimN P N fr (I5 k v) a w G':=by
 have⟨G0,_,d⟩:=d.frz k;have p:∀t,SR P w G0 (st.slots t) (a.tmps.getD t undef):=by intro t;have h1:SlotOK P w G0 a (st.slots t) (a.tmps.getD t undef):=d.slots t;have e:∀tk g s,st.slots t≠.grd tk g s:=d.nogrd t;generalize st.slots t=s at h1 e;cases s<;>first|exact h1|grind
 obtain ⟨bs,h1,e,z⟩:=eZ d.mem A (vs:=k.tm.map λt=>a.tmps.getD t undef) h oh (λj s v m x=>by
  rw[AX]at m x;cases D:k.tm[j]? with
  |none=>grind
  |some t=>rw[D]at m x;cases m;cases x;exact p t)
 refine uC d.defs d.size d.fix d.mem.after d.drawn h1 e λb B=>?_;have⟨E,_,o,C,l⟩:=z b B;exact TC (d.mem.objs E o C) l
def SimN.sr(b:SimN P N fr st a w G)(x:Operand):SR P w G (GR st.slots x) (a.eval x):=by
 have:=A33 (x:=x) (tk:=[]) (λt _=>b.slots t) (TE a);have e:(GR st.slots x).strip []=GR st.slots x:=by
  have d:∀tk g s,GR st.slots x≠.grd tk g s:=by
   intro tk g s h;cases x with
   |tmp t=>exact b.nogrd t tk g s h
   |const v=>have:=A32 (P:=P) (w:=w) (G:=G) v;rw[show cV v=_ from h]at this;exact this.not_grd
   |func f=>cases h
   |global g=>cases h
  generalize GR st.slots x=s at d;cases s<;>first|rfl|grind
 grind
def LN(P:Program)(dr:Bool)(N:Nat)(ok:Nat->Bool)(E:Env):Code->Nat->Prop
 | .seq a b,n=>match sQ E a with
  |some s=>s.wrs.all ok=true/\CutOK P dr N s (.seq a b)
  |none=>LN P dr N ok E a n/\LN P dr N ok E b (n+J_ a)
 | .cond c a b,n=>match E.cut n with
  |some s=>s.wrs.all ok=true/\CutOK P dr N s (.cond c a b)
  |none=>LN P dr N ok E a (n+1)/\LN P dr N ok E b (n+1+J_ a)
 | .block _ b,n=>LN P dr N ok E b n
 | .scope b,n=>LN P dr N ok E b n
 | .loop b,n=>match E.cut n with
  |some s=>s.wrs.all ok=true/\CutOK P dr N s (.loop b)
  |none=>True
 |_,_=>True
def ID(E:Env):Code->Nat->List (CSpec×Code)
 | .seq a b,n=>match sQ E a with
  |some s=>[(s,.seq a b)]
  |none=>ID E a n++ID E b (n+J_ a)
 | .cond c a b,n=>match E.cut n with
  |some s=>[(s,.cond c a b)]
  |none=>ID E a (n+1)++ID E b (n+1+J_ a)
 | .block _ b,n=>ID E b n
 | .scope b,n=>ID E b n
 | .loop b,n=>match E.cut n with
  |some s=>[(s,.loop b)]
  |none=>[]
 |_,_=>[]
def AllCuts(P:Program)(dr:Bool)(N:Nat)(ok:Nat->Bool):List (CSpec×Code)->Prop
 |[]=>True
 |p::r=>(p.1.wrs.all ok=true/\CutOK P dr N p.1 p.2)/\AllCuts P dr N ok r
def AllCuts.append:∀{l a:List (CSpec×Code)},AllCuts P dr N ok (l++a)->AllCuts P dr N ok l/\AllCuts P dr N ok a:=by
 intro l;induction l with
 |nil=>intro a h;exact⟨trivial,h⟩
 |cons p r b=>intro a h;exact⟨⟨h.1,(b h.2).1⟩,(b h.2).2⟩
def YY:∀{c:Code} {n:Nat},AllCuts P dr N ok (ID E c n)->LN P dr N ok E c n:=by
 intro c;induction c with
 |seq a b e j=>
  intro n h;simp only[LN];simp only[ID]at h;split
  .rename_i s d;rw[d]at h;exact h.1
  .rename_i d;rw[d]at h;exact⟨e h.append.1,j h.append.2⟩
 |cond c a b e j=>
  intro n h;simp only[LN];simp only[ID]at h;split at h
  .rename_i s d;exact h.1
  .rename_i d;exact⟨e h.append.1,j h.append.2⟩
 |block i b l=>intro n h;exact l (n:=n) h
 |scope b l=>intro n h;exact l (n:=n) h
 |loop b l=>
  intro n h;simp only[LN];simp only[ID]at h;split at h
  .rename_i s d;exact h.1
  .rename_i d;trivial
 |_=>intro n h;trivial
def IE(ok:Nat->Bool):Code->Bool
 | .seq a b=>IE ok a&&IE ok b
 | .cond _ a b=>IE ok a&&IE ok b
 | .block _ b=>IE ok b
 | .scope b=>IE ok b
 | .loop b=>IE ok b
 | .region _ ops _=>ops.toList.all λo=>match o.dst with
  |some d=>ok d
  |none=>true
 |_=>true
def A3R{bs':List Nat}{I':Im}{k:Kp}{y:TupR k.sh}(l:SimN P N fr st a w G)(e:BlksOf st.sto G ks bs)
 (h6:∀d,EW d wrs=true->fr.fx d=none)(Z:a'.defers=[])(Y:a'.tmps.size=N)(C:∀t,EW t wrs=false->a'.tmps.getD t undef=a.tmps.getD t undef)
 (B:After (·∈bs) w G.im w' I')(K:fr.dr=true->w.drawn<=w'.drawn)(Q:ShL P w' I' k.sh y (k.tm.map λt=>a'.tmps.getD t undef) bs')(L:bs'.Nodup)(x:∀b∈bs',b∈bs\/w.heap.size<=b):
 ∃G',SimN P N fr (UY st wrs ks k y) a' w' G':=by
 have⟨T,W⟩:=l.mem.called e B;obtain ⟨G',h1,h2,h3,X⟩:=tN (n:=st.n) W Q L (λb U=>by
  refine⟨?_,λj o M J=>?_⟩
  .rcases x b U with h|h
   .obtain⟨H,_,o,M,z⟩:=e b h;exact TC (l.mem.objs H o M) z
   .exact .inl (AM l.mem.after.size h)
  .have A:j ∉ ks/\st.sto j=some o:=by
    rw[PV]at M;by_cases D:j∈ks
    .grind
    .grind
   have p:Bk G j o b:=by rw[<-H6 (l.mem.objs j o A.2) T];exact J
   rcases x b U with h|h
   .obtain⟨H,hk,o2,O,z⟩:=e b h;have:=l.mem.sep j H o o2 b A.2 O p z;grind
   .have:=LK (l.mem.objs j o A.2) p;omega) (λH h1 _=>h1)
 have E:∀t,SR P w' G' ((UY st wrs ks k y).slots t) (a'.tmps.getD t undef):=by
  intro t;simp only[UY];cases ht:EW t k.tm with
  |true=>
   refine A3O (λj s t' D h5=>?_) t;rw[AX]at D;cases V:(FE k.sh y st.n)[j]? with
   |none=>grind
   |some m=>rw[V]at D;cases D;exact X j m _ V oc
  |false=>
   simp only[A8];cases R:EW t wrs with
   |true=>exact SR.undef _
   |false=>simp only[A8];rw[C t R];exact((l.sr (.tmp t)).mono T).mono h1.le
 refine⟨G',λt=>(E t).slotOK,Z,Y,λt v hv=>?_,λt tk g s h=>?_,?_,λh=>AM (l.drawn h) (K h)⟩
 .cases R:EW t wrs with
  |true=>grind
  |false=>rw[C t R];exact l.fix t v hv
 .have:=E t;rw[h]at this;exact this.not_grd
 .simp only[UY];rw[GW];refine h1.mem.shrink λj D=>⟨?_,λhh=>?_⟩<;>grind
def AHu{K:Ex->St->Option Ω}{ω:Ω}{I':Im}(Q:SimN P N fr st a w G)(j:BlksOf st.sto G ks bs)
 (z:∀d,EW d wrs=true->fr.fx d=none)(O:a'.defers=[])(M:a'.tmps.size=N)(s:∀t,EW t wrs=false->a'.tmps.getD t undef=a.tmps.getD t undef)(b:After (·∈bs) w G.im w' I')(m:fr.dr=true->w.drawn<=w'.drawn):
 ∀{l:List (Ex×Kp)} {x:H3 l},Y3 st wrs ks l x K=some ω->OutS P w' I' a' e w.heap.size bs l x->
 ∃L A G',e=LM L/\SimN P N fr A a' w' G'/\K L A=some ω:=by
 intro l;induction l with
 |nil=>intro x;exact Empty.elim x
 |cons o r R=>
  intro x h J;cases r with
  |nil=>obtain⟨h1,B,C,D,E⟩:=J;have⟨G',H⟩:=A3R Q j z O M s b m C D E;exact⟨o.1,_,G',h1,H,h⟩
  |cons p r=>
   cases x with
   |inl y=>obtain⟨h1,B,C,D,E⟩:=J;have⟨G',H⟩:=A3R Q j z O M s b m C D E;exact⟨o.1,_,G',h1,H,h⟩
   |inr y=>exact R (x:=y) h J
def A3S(m:∀f l,fs f=some l->FK P f/\FunOK P f l){k:Kp}{v:TupR k.sh}(e:SimN P N fr st a w G)(h:OJ fs k st=some v):
 ∃bs,ShL P w G.im k.sh v (k.tm.map λt=>a.tmps.getD t undef) bs/\bs.Nodup/\BlksOf st.sto G (GL st.sto k.sh (k.tm.map st.slots)) bs:=
 eZ e.mem m (vs:=k.tm.map λt=>a.tmps.getD t undef) h oh (λj s v b d=>by
  rw[AX]at b d;cases p:k.tm[j]? with
  |none=>grind
  |some t=>rw[p]at b d;cases b;cases d;exact e.sr (.tmp t))
variable{P:Program}{fr:Fr}{free free':Nat->Prop}{self:Nat}{σ σ':SSo}{w w':World}{G G':Gh}{I:Im}
def uE(U:EnvOK P fr.dr E){s:CSpec}(H:∀d,EW d s.wrs=true->fr.fx d=none)(y:CutOK P fr.dr N s c){K:Ex->St->Option Ω}{ω:Ω}
 (h:YP E s st K=some ω)(p:SimN P N fr st a w G)(V:∀e b a' w' G',SimN P N fr b a' w' G'->K e b=some ω->Q (LM e) a' w'):c.wp P Q a w:=by
 unfold YP at h;unfold CutOK at y;split at h
 .rename_i v l;obtain⟨j,Y⟩:RJ s.al st.slots=true/\OJ E.fs s.inn (KH s.inn st)=some v:=by
   cases L:RJ s.al st.slots with
   |false=>rw[L]at l;cases l
   |true=>rw[L]at l;exact⟨rfl,l⟩
  have j:=A3Q p j;have⟨G,_,p⟩:=p.frz s.inn;have⟨bs,p1,Z,p3⟩:=A3S U.fs p Y;have y:=y w G.im a v bs p.mem.after.mem p.defs p.size j p1 Z;have z:∀x,(Y3 (KH s.inn st) s.wrs (GL (KH s.inn st).sto s.inn.sh (s.inn.tm.map st.slots)) s.outs x λe b=>K e (Y2 s.al s.wrs b))=some ω->∀e a' w',MZ P fr.dr N s x a w G.im bs e a' w'->Q e a' w':=by intro x A e a' w' C;obtain⟨q1,q2,M,qd,I',q4,q5⟩:=C;obtain⟨O,b,G',rfl,R,T⟩:=AHu p p3 H q1 q2 M q4 qd A q5;exact V O _ a' w' G' (AHs R j M) T
  cases B:s.nd with
  |none=>rw[B]at h y;have⟨x,h1,A⟩:=B6.1 h;exact wp_mono (y x h1) λe a' w' C=>z x A e a' w' C
  |some d=>
   rw[B]at h y;have m:=AEu h;refine wp_mono (y λo X=>?_) λe a' w' ⟨o,x,W,J,C⟩=>?_
   .obtain⟨x,J,_⟩:=B6.1 (m o X);exact⟨x,J⟩
   .obtain⟨x',D,A⟩:=B6.1 (m o W);rw[J]at D;cases D;exact z x A e a' w' C
 .cases h
theorem YZ(T:EnvOK P fr.dr E)(M:P.follows .mixedOrders=true)(O:∀d,ok d=true->d<N/\fr.fx d=none):
 ∀(c:Code) (n:Nat) (st:St) (a:Act) (w:World) (G:Gh) (K:Ex->St->Option Ω) (ω:Ω) (Q:Exit->Act->World->Prop),
 IE ok c=true->LN P fr.dr N ok E c n->L1 E c n st K=some ω->SimN P N fr st a w G->(∀e m a' w' G',SimN P N fr m a' w' G'->K e m=some ω->Q (LM e) a' w')->c.wp P Q a w:=by
 have I:∀{l:List Nat},l.all ok=true->∀d,EW d l=true->fr.fx d=none:=by intro l h d D;rw[BT]at h;exact(O d (h d (OO.1 D))).2
 intro c;induction c with
 |skip=>intro n st a w G K ω Q _ _ h C z;exact wp_skip (z .normal st a w G C h)
 |region id ops V=>intro n st a w G K ω Q D _ h C z;refine AHp T M (λj o d X Y=>?_) h C λm a' w' G' A H=>z .normal m a' w' G' A H;simp only[IE,BT]at D;have:=D o (AH (by simpa using X));rw[Y]at this;exact O d this
 |seq x y J L=>
  intro n st a w G K ω Q D B h C z;simp only[IE,A5]at D;simp only[L1]at h;simp only[LN]at B;split at h
  .rename_i s p;rw[p]at B;exact uE T (I B.1) B.2 h C z
  .rename_i p;rw[p]at B;refine wp_seq (J n st a w G _ ω _ D.1 B.1 h C λe m a' w' G' A H=>A3N ?_);cases e with
   |normal=>exact L _ m a' w' G' K ω Q D.2 B.2 H A z
   |exit i=>exact z (.exit i) m a' w' G' A H
   |ret=>exact z .ret m a' w' G' A H
 |cond c x y J L=>
  intro n st a w G K ω Q D B h C z;simp only[IE,A5]at D;simp only[L1]at h;simp only[LN]at B;split at h
  .rename_i s p;rw[p]at B;exact uE T (I B.1) B.2 h C z
  .rename_i p;rw[p]at B;split at h
   .rename_i t Z;have R:=C.sr c;rw[Z]at R;have R:=R.bool;cases t with
    |true=>exact wp_cond_true R (J _ st a w G K ω Q D.1 B.1 h C z)
    |false=>exact wp_cond_false R (L _ st a w G K ω Q D.2 B.2 h C z)
   .cases h
 |block id b U=>
  intro n st a w G K ω Q D B h C z;refine wp_block (U n st a w G _ ω _ D B h C λe m a' w' G' A H=>?_);cases e with
  |normal=>exact z .normal m a' w' G' A H
  |ret=>exact z .ret m a' w' G' A H
  |exit i=>
   simp only[LM,Exit.inBlock];simp only at H;by_cases e:i=id
   .subst e;rw[if_pos rfl];rw[CM]at H;exact z .normal m a' w' G' A H
   .rw[if_neg e];rw[show Nat.beq i id=false by rw[<-BW];exact λW=>e (A4 W)]at H;exact z (.exit i) m a' w' G' A H
 |loop b U=>
  intro n st a w G K ω Q D B h C z;simp only[L1]at h;simp only[LN]at B;split at h
  .rename_i s p;rw[p]at B;exact uE T (I B.1) B.2 h C z
  .cases h
 |exit i=>intro n st a w G K ω Q _ _ h C z;exact wp_exit (z (.exit i) st a w G C h)
 |ret=>intro n st a w G K ω Q _ _ h C z;exact wp_ret (z .ret st a w G C h)
 |scope b U=>intro n st a w G K ω Q D B h C z;refine wp_scope_straight (U n st a w G K ω _ D B h C λe m a' w' G' A H=>?_);have:=z e m a' w' G' A H;cases e<;>exact this
 |label l=>intro n st a w G K ω Q _ _ h C z;exact wp_label (z .normal st a w G C h)
 |_=>intro n st a w G K ω Q _ _ h;cases h
def AHv(H:EnvOK P fr.dr E){e:Ex}(z:SimN P N fr st a w G)(J:∀b,fr.gv b->b∈bs):∀{l:List (Ex×Kp)} {x:H3 l},outPut E.fs l e st=some x->
 ∃I,After fr.gv fr.w0 fr.i0 w I/\OutS P w I a (LM e) fr.w0.heap.size bs l x:=by
 have m:∀{e B:Ex},outPut.sameEx e B=true->B=e:=by
  intro e B h;cases e<;>cases B<;>first|rfl|cases h|skip
  have h:Nat.beq _ _=true:=h;rw[A4 h]
 have A:∀{o:Ex×Kp} {y:TupR o.2.sh},outPut.sameEx o.1 e=true->OJ E.fs o.2 (KH o.2 st)=some y->
  ∃I,After fr.gv fr.w0 fr.i0 w I/\LM e=LM o.1/\∃d,ShL P w I o.2.sh y (o.2.tm.map λt=>a.tmps.getD t undef) d/\d.Nodup/\∀b∈d,b∈bs\/fr.w0.heap.size<=b:=by
  intro o y h1 D;have⟨G0,_,z⟩:=z.frz o.2;have⟨d,k1,M,O⟩:=A3S H.fs z D;refine⟨G0.im,z.mem.after,by rw[m h1],d,k1,M,λb j=>?_⟩;have⟨k,_,Q,K,C⟩:=O b j;rcases TC (z.mem.objs k Q K) C with h|h
  .exact .inr h
  .grind
 intro l;induction l with
 |nil=>intro x h;cases h
 |cons o r L=>
  intro x h;cases r with
  |nil=>
   simp only[outPut]at h;cases j:outPut.sameEx o.1 e with
   |false=>rw[j]at h;cases h
   |true=>rw[j]at h;exact A j h
  |cons p r=>
   simp only[outPut]at h;cases j:outPut.sameEx o.1 e with
   |false=>
    rw[j]at h;simp only[A8]at h;cases s:outPut E.fs (p::r) e st with
    |none=>grind
    |some y=>rw[s]at h;cases h;exact L s
   |true=>
    rw[j]at h;simp only[A6]at h;cases s:OJ E.fs o.2 (KH o.2 st)with
    |none=>grind
    |some y=>rw[s]at h;cases h;exact A j s
def J0(N:Nat)(wrs:List Nat)(d:Nat):Bool:=Nat.blt d N&&EW d wrs
def RT(dr:Bool)(wrs bs:List Nat)(a:Act)(w:World)(I:Im):Fr:=⟨(·∈bs),w,I,λt=>if EW t wrs then none else some (a.tmps.getD t undef),dr⟩
def Y_:∀d,J0 N wrs d=true→d<N∧(RT dr wrs bs a w I).fx d=none:=by simp_all[J0,A5,BY,RT]
def uF{v:TupR inn.sh}(p:HQ w I)(m:a.defers=[])(j:a.tmps.size=N)(e:ShL P w I inn.sh v (inn.tm.map λt=>a.tmps.getD t undef) bs)(d:bs.Nodup):
 ∃G,SimN P N (RT dr wrs bs a w I) (I5 inn v) a w G:=
 uC m j (λt v h=>by have h:(if EW t wrs=true then none else some (a.tmps.getD t undef))=some v:=h;grind) (After.refl p) (λ_=>AD _) e d λb l=>.inr l
def Z0(j:EnvOK P dr E){s:CSpec}{x:H3 s.outs}{d:Act}{w0:World}{e:Ex}(b:SimN P N (RT dr s.wrs bs d w0 I) st a w G)(h:outPut E.fs s.outs e st=some x):
 MZ P dr N s x d w0 I bs (LM e) a w:=
 ⟨b.defs,b.size,λt l=>b.fix t _ (by simp[RT,l]),b.drawn,AHv j b (λ_ h=>h) h⟩
theorem AHw(m:EnvOK P dr E)(b:P.follows .mixedOrders=true){c:Operand}{x y:Code}{s:CSpec}
 (A:IE (J0 N s.wrs) (.cond c x y)=true)(R:AllCuts P dr N (J0 N s.wrs) (ID E x (n+1)))(T:AllCuts P dr N (J0 N s.wrs) (ID E y (n+1+J_ x)))
 (O:s.nd=none)(L:s.kx=none)(J:∀v r,s.F v=some r->eB E c x y n s.al s.inn s.outs v=some r):CutOK P dr N s (.cond c x y):=by
 unfold CutOK;intro w I a v bs M B K z D C;rw[O];intro r h;have h:=J v r h;obtain⟨G,j⟩:=uF (wrs:=s.wrs) M B K D C;have j:=uD j z;simp only[IE,A5]at A;unfold eB at h;split at h
 .rename_i t Q;have l:=j.sr c;rw[Q]at l;have l:=l.bool;cases t with
  |true=>exact wp_cond_true l (YZ m b Y_ _ _ _ a w G _ r _ A.1 (YY R) h j λe H a' w' G' d p=>Z0 m d p)
  |false=>exact wp_cond_false l (YZ m b Y_ _ _ _ a w G _ r _ A.2 (YY T) h j λe H a' w' G' d p=>Z0 m d p)
 .cases h
theorem AHx(z:EnvOK P dr E)(s:P.follows .mixedOrders=true){b:Code}{F:Nat->TupR inn.sh->Option (H3 outs)}
 (Q:IE (J0 N wrs) b=true)(O:AllCuts P dr N (J0 N wrs) (ID E b n))(h0:∀v,F 0 v=none)(L:∀k v r,F (k+1) v=some r->sR E b n al inn outs (F k) v=some r)(m:Nat):
 CutOK P dr N ⟨inn,outs,wrs,F m,al,none,none⟩ (.loop b):=by
 intro w0 I A W bs R C M B H D r h;obtain⟨G0,j⟩:=uF (wrs:=wrs) R C M H D;have j:=uD j B;refine wp_loop_rounds m ?_;have key:∀k v a w G,F k v=some r->SimN P N (RT dr wrs bs A w0 I) (UX al inn v) a w G->Code.rounds P b (MZ P dr N ⟨inn,outs,wrs,F m,al,none,none⟩ r A w0 I bs) k a w:=by
  intro k;induction k with
  |zero=>grind
  |succ k V=>
   intro v a w G h T;rw[rounds_succ];refine YZ z s Y_ _ _ _ a w G _ r _ Q (YY O) (L k v r h) T λe y a' w' G' d l=>A3N ?_;cases e with
   |normal=>
    simp only at l;split at l
    .rename_i K U;obtain⟨p,J⟩:RJ al y.slots=true/\OJ E.fs inn (KH inn y)=some K:=by grind
     obtain⟨G'',x⟩:=AHt z.fs d J;exact V K a' w' G'' l (uD x (A3Q d p))
    .cases l
   |exit i=>exact Z0 (s:=⟨inn,outs,wrs,F m,al,none,none⟩) z d l
   |ret=>exact Z0 (s:=⟨inn,outs,wrs,F m,al,none,none⟩) z d l
 exact key m W A w0 G0 h j
end
section
variable{P:Program}{fr:Fr}{free free':Nat->Prop}{self:Nat}{σ σ':SSo}{w w':World}{G G':Gh}{I:Im}
def K6:List Sh->Nat->List Nat
 |[],_=>[]
 | .box _::ps,i=>i::K6 ps (i+1)
 | .io _ _::ps,i=>i::K6 ps (i+1)
 | .bld _ false::ps,i=>i::K6 ps (i+1)
 |_::ps,i=>K6 ps (i+1)
def ShL.length:∀{l:List Sh} {x:TupR l} {vs:List Value} {bs:List Nat},ShL P w I l x vs bs->vs.length=l.length:=by
 intro l;induction l with
 |nil=>intro x vs bs h;rw[h.1];rfl
 |cons a l e=>
  intro x vs bs h;cases l with
  |nil=>obtain⟨v,rfl,_⟩:=h;rfl
  |cons b l=>obtain⟨v,j,m,p,rfl,_,_,d⟩:=h;simp[e d]
def SimN.slot(h:SimN P N fr st a w G)(t:Nat):SR P w G (st.slots t) (a.tmps.getD t undef):=h.sr (.tmp t)
theorem AHy{z:Value}(h:(Instr.loadAt id v).run P w=.ok z w):(asAddr v >>=loadVar id).run P w=.ok z w:=by
 cases v with
 |pointer a=>
  cases a with
  |none=>simp[Instr.loadAt,Instr.sureAddr,stuck]at h
  |some a=>exact h
 |_=>simp[Instr.loadAt,Instr.sureAddr,stuck]at h
def ZA(tmps:Array Value):ResultVar->Sem Value
 | .tmp t=>pure (tmps.getD t undef)
 | .cell a t=>do loadVar t (<-asAddr (tmps.getD a undef))
def AHz(A:EnvOK P fr.dr E)(e:SimN P N fr st a w G):∀{l:List ResultVar} {ss:List SV},RP E.ty E.wr st l=some ss->
 ∃d:List Value,(l.mapM (ZA a.tmps)).run P w=.ok d w/\
  d.length=l.length∧ss.length=l.length∧∀(j:Nat) (s:SV) (v:Value),ss[j]?=some s→d[j]?=some v→SR P w G s v:=by
 intro l;induction l with
 |nil=>intro ss h;cases h;simp
 |cons r l I=>
  intro ss h;cases r with
  |tmp t=>
   simp only[RP]at h;split at h
   .rename_i y b;cases h;have⟨d,h1,p,x,J⟩:=I b;refine⟨a.tmps.getD t undef::d,?_,by simp[p],by simp[x],λj s v B D=>?_⟩
    .simp_all[List.mapM_cons,ZA,Sem.run_bind,Sem.run_pure,Result.andThen_ok]
    .cases j with
     |zero=>cases B;cases D;exact e.slot t
     |succ j=>grind
   .cases h
  |cell ad t=>
   simp only[RP]at h;split at h
   .rename_i u C;split at h
    .rename_i s0 m;split at h
     .rename_i y b;cases h;have⟨d,h1,p,x,J⟩:=I b;obtain⟨z,k1,K⟩:∃z,(Instr.loadAt t (a.tmps.getD ad undef)).run P w=.ok z w/\SR P w G s0 z:=by
       cases H:E.wr ad with
       |true=>rw[H]at m;exact A27 (A.ty _ _ C) e.mem.objs m (e.slot ad)
       |false=>rw[H]at m;exact A24 (A.ty _ _ C) e.mem.objs m (e.slot ad)
      have k1:=AHy k1;refine⟨z::d,?_,by simp[p],by simp[x],λj s v B D=>?_⟩
      .rw[List.mapM_cons];grind[ZA,Sem.run_bind,Sem.run_pure,Result.andThen_ok]
      grind
     .cases h
    .cases h
   .cases h
def AI0(y:EnvOK P fr.dr E)(z:SimN P N fr st a w G){fn:Func}{ss:List SV}(h:RP E.ty E.wr st fn.results.toList=some ss):
 ∃(vs:List Value) (l:Value),(results fn a.tmps).run P w=.ok l w/\MD vs l/\vs.length=fn.results.toList.length/\ss.length=fn.results.toList.length/\
  ∀(j:Nat) (s:SV) (v:Value),ss[j]?=some s->vs[j]?=some v->SR P w G s v:=by
 have⟨vs,h1,m,p,x⟩:=AHz y z h;have b:(results fn a.tmps).run P w=.ok (if h:vs.toArray.size=1 then vs.toArray[0]else .tuple vs.toArray) w:=by
  have d:(fn.results.mapM (ZA a.tmps)).run P w=.ok vs.toArray w:=by rw[Array.mapM_eq_mapM_toList];simp only[Sem.run_map,h1,Result.andThen_ok]
  unfold results;have e:(fn.results.mapM λ| .tmp t=>(pure (a.tmps.getD t undef):Sem Value)| .cell ad t=>do loadVar t (<-asAddr (a.tmps.getD ad undef)))=fn.results.mapM (ZA a.tmps):=by congr 1
  simp only[Sem.run_bind]
  erw[e,d]
  rfl
 refine⟨vs,_,b,?_,m,p,x⟩;rcases vs with _|⟨v,_|⟨A,vs⟩⟩<;>grind[MD]
def AI1{slots:Nat->SV}{tmps:Array Value}(H:∀t,SR P w G (slots t) (tmps.getD t undef)):∀{ps:List Sh} {i:Nat} {vals:List Value},vals.length=ps.length->
 (∀j v,vals[j]?=some v->EW (i+j) (K6 ps i)=true->tmps.getD (i+j) undef=v)->
 (KI ps ((List.range' i ps.length).map slots)).length=(I7 ps vals).length/\
 ∀(j:Nat) (s:SV) (v:Value),(KI ps ((List.range' i ps.length).map slots))[j]?=some s->(I7 ps vals)[j]?=some v->SR P w G s v:=by
 intro ps;have C:∀(ps:List Sh) (i j:Nat),EW j (K6 ps i)=true->i<=j:=by
  intro ps;induction ps with
  |nil=>intro i j h;cases h
  |cons p ps z=>
   intro i j h;have key:EW j (K6 ps (i+1))=true->i<=j:=λh=>oc;have b:EW j (i::K6 ps (i+1))=true->i<=j:=λh=>by simp only[EW,C5]at h;grind[Nat.eq_of_beq_eq_true]
   cases p with
   |box c=>exact b h
   |io el t=>exact b h
   |bld el c=>cases c with
    |true=>exact key h
    |false=>exact b h
   |_=>exact key h
 induction ps with
 |nil=>intro i vals y h;exact⟨rfl,λj s v h=>by simp[KI]at h⟩
 |cons p ps z=>
  intro i vals y h;cases vals with
  |nil=>cases y
  |cons l vals=>
   have e:vals.length=ps.length:=by simpa using y
   simp only[BL,List.range'_succ,CQ];cases a:EU p with
   |true=>
    have m:KI (p::ps) (slots i::(List.range' (i+1) ps.length).map slots)=slots i::KI ps ((List.range' (i+1) ps.length).map slots):=by cases p<;>first|rfl|(cases a;done)|(rename_i c0;cases c0<;>first|rfl|(cases a;done))
    have x:I7 (p::ps) (l::vals)=l::I7 ps vals:=by cases p<;>first|rfl|(cases a;done)|(rename_i c0;cases c0<;>first|rfl|(cases a;done))
    have A:K6 (p::ps) i=i::K6 ps (i+1):=by cases p<;>first|rfl|(cases a;done)|(rename_i c0;cases c0<;>first|rfl|(cases a;done))
    rw[m,x];rw[A]at h;obtain ⟨h1,E⟩:=z (i:=i+1) e (λj v d B=>by
     have:=h (j+1) v (by simpa using d) (by simp only[EW,C5];grind)
     grind)
    refine⟨by simp[h1],λj s v d D=>?_⟩;cases j with
    |zero=>cases d;cases D;have:=h 0 l rfl (by simp[EW,CM]);grind
    |succ j=>grind
   |false=>
    have m:KI (p::ps) (slots i::(List.range' (i+1) ps.length).map slots)=KI ps ((List.range' (i+1) ps.length).map slots):=by cases p<;>first|rfl|(cases a;done)|(rename_i c0;cases c0<;>first|rfl|(cases a;done))
    have x:I7 (p::ps) (l::vals)=I7 ps vals:=by cases p<;>first|rfl|(cases a;done)|(rename_i c0;cases c0<;>first|rfl|(cases a;done))
    have A:K6 (p::ps) i=K6 ps (i+1):=by cases p<;>first|rfl|(cases a;done)|(rename_i c0;cases c0<;>first|rfl|(cases a;done))
    rw[m,x];exact z (i:=i+1) e (λj v d B=>by have:=h (j+1) v (by simpa using d) oc;grind)
def SimN.frzE{wr:Nat->Bool}(h:SimN P N fr st a w G)(l:List ResultVar):∃G',GLe w G w G'/\SimN P N fr (T5 wr st l) a w G':=by have⟨G',h1,b⟩:=tX (fz:=NL st.sto (eC wr st l)) h.mem tY;exact⟨G',h1,λt=>(h.slots t).mono h1 λ_ _ _ _=>Iff.rfl,h.defs,h.size,h.fix,h.nogrd,b,h.drawn⟩
def RU(N:Nat)(ps:List Sh)(d:Nat):Bool:=Nat.blt d N && !(EW d (K6 ps 0))
theorem AI2(W:EnvOK P dr E)(Q:P.follows .mixedOrders=true){f:FuncId}{fn:Func}{ps rs:List Sh}{F:TupR ps->Option (TupR (rs++ps.filter EU))}
 (hf:P.funcs[f]?=some fn)(J:fn.body=some c)(hd:IE (RU fn.ntmps ps) c=true)(hn:Nat.ble ps.length fn.ntmps=true)(hl:Nat.beq fn.results.toList.length rs.length=true)
 (hc:AllCuts P dr fn.ntmps (RU fn.ntmps ps) (ID E c 0))(hF:∀v r,F v=some r->eE E fn ps rs v=some r):FunOK P f ⟨ps,rs,F,dr⟩:=by
 intro w I v m bs hm h9 h7 r R;have R:=hF v r R;have hn:=CJ hn;have hl:=A4 hl;have N:m.length=ps.length:=h9.length;let fr:Fr:=⟨(·∈bs),w,I,λt=>if EW t (K6 ps 0)then some (m.getD t undef)else none,dr⟩
 let tm:Array Value:=m.toArray++Array.replicate (fn.ntmps-m.toArray.size) undef
 let a0:Act:=⟨tm,[]⟩
 have x1:∀t,t<m.length->tm.getD t undef=m.getD t undef:=by intro t ht;simp[tm,CD,Array.getElem?_append_left,ht]
 have x2:∀(ps:List Sh) (i j:Nat),EW j (K6 ps i)=true->j<i+ps.length:=by
  intro ps;induction ps with
  |nil=>intro i j h;cases h
  |cons p ps ih=>
   intro i j h;have key:EW j (K6 ps (i+1))=true->j<i+(ps.length+1):=λh=>oc;have A:EW j (i::K6 ps (i+1))=true->j<i+(ps.length+1):=λh=>by simp only[EW,C5]at h;grind[Nat.eq_of_beq_eq_true]
   cases p with
   |box c=>exact A h
   |io el t=>exact A h
   |bld el c=>cases c with
    |true=>exact key h
    |false=>exact A h
   |_=>exact key h
 have Y:(List.range ps.length).map (λt=>tm.getD t undef)=m:=by
  apply BR;intro j;rw[AX];by_cases h:j<ps.length
  .grind
  .grind
 have C:∀d,RU fn.ntmps ps d=true->d<fn.ntmps/\fr.fx d=none:=λd hd=>by simp only[RU,A5,BY,BE]at hd;grind
 obtain ⟨G0,h8⟩:=uC (P:=P) (fr:=fr) (N:=fn.ntmps) (k:=⟨List.range ps.length,ps⟩) (v:=v) (a:=a0) (I:=I) rfl oc (λt v' h=>by grind) (After.refl hm) (λ_=>AD _) oc h7 (λb J=>.inr J)
 refine calls_of_wp hf J ?_;unfold eE at R;rw[J]at R
 have K:∀(x:St) (a':Act) (w':World) (G':Gh),SimN P fn.ntmps fr x a' w' G'->
  (match RP E.ty E.wr (T5 E.wr x fn.results.toList) fn.results.toList with
   |some l=>R0 E.fs (dI (T5 E.wr x fn.results.toList).sto (rs++ps.filter EU) (l++KI ps ((List.range ps.length).map (T5 E.wr x fn.results.toList).slots))) (rs++ps.filter EU) (l++KI ps ((List.range ps.length).map (T5 E.wr x fn.results.toList).slots))
   |none=>none)=some r->
  a'.defers=[]/\∃v,(results fn a'.tmps).run P w'=.ok v w'/\∃T H I' z,Ending.returned v=.returned T/\H.length=rs.length/\MD H T/\After (·∈bs) w I w' I'/\
   ShL P w' I' (rs++ps.filter EU) r (H++I7 ps m) z/\z.Nodup/\(∀b∈z,b∈bs\/w.heap.size<=b)/\(fr.dr=true->w.drawn<=w'.drawn):=by
  intro x a' w' G' y h;refine⟨y.defs,?_⟩;obtain⟨G1,_,y⟩:=y.frzE fn.results.toList;generalize T5 E.wr x fn.results.toList=x at h y;split at h
  .rename_i V x0;obtain⟨H,T,h1,h2,h3,h4,h5⟩:=AI0 W y x0;obtain ⟨b1,b2⟩:=AI1 (slots:=x.slots) (tmps:=a'.tmps) y.slot (ps:=ps) (i:=0) (vals:=m) N (λj v M hh=>by
    rw[BO]at hh ⊢;exact y.fix j v (by grind))
   rw[<-List.range_eq_range']at b1 b2;have B:V.length=H.length:=by rw[h4,h3]
   obtain⟨G2,L,D⟩:=A31 y.mem (rs++ps.filter EU) (V++KI ps ((List.range ps.length).map x.slots));obtain ⟨z,k1,k2,k3⟩:=eZ D W.fs (vs:=H++I7 ps m) h (by rw [AI,AI,b1,B]) (λj s v M U=>by
    by_cases O:j<V.length
    .rw[BJ O]at M;rw[BJ oa]at U;exact(h5 j s v M U).mono L
    .have h6:V.length<=j:=D1 O;rw[BC h6]at M;rw[BC oa,<-B]at U;exact(b2 _ s v M U).mono L)
   refine⟨T,h1,T,H,G2.im,z,rfl,by rw[h3,hl],h2,D.after,k1,k2,λb J=>?_,y.drawn⟩;obtain⟨k,_,o,ho,Z⟩:=k3 b J;rcases TC (D.objs k o ho) Z with h|h<;>grind
  .cases h
 refine YZ W Q C c 0 _ a0 w G0 _ r _ hd (YY hc) R h8 λe x a' w' G' y X=>?_;cases e with
 |normal=>exact K x a' w' G' y X
 |ret=>exact K x a' w' G' y X
 |exit i=>cases X
end
def DX{α β:Type}(r:(α->Option β)->α->Option β):Nat->α->Option β
 |0=>λ_=>none
 |k+1=>r (DX r k)
def sub:Code->List Nat->Code
 |c,[]=>c
 | .seq a b,i::r=>bif Nat.beq i 0 then sub a r else sub b r
 | .cond _ a b,i::r=>bif Nat.beq i 0 then sub a r else sub b r
 | .block _ b,_::r=>sub b r
 | .scope b,_::r=>sub b r
 | .loop b,_::r=>sub b r
 |_,_=>.skip
def uG:Code->Operand
 | .cond c _ _=>c
 |_=>.tmp 0
def EC(f:Func):Code:=match f.body with
 |some c=>c
 |none=>.skip
def uH(P:Program)(l:List (Nat×Ty)):Bool:=l.all λp=>(layB P p.2).1 p.1
def uI(P:Program)(l:List (Nat×Nat)):Bool:=l.all λp=>match P.underlying p.1 with
 |some (.slice x)=>Nat.beq p.2 x
 |some (.map _ _)=>true
 |_=>false
def fK(P:Program)(l:List (Nat×Nat))(i:Nat):Nat:=match I4 l i with
 |some x=>x
 |none=>match P.underlying i with
  |some (.slice x)=>x
  |_=>0
def uJ(P:Program)(l:List (Nat×Nat)):Bool:=l.all λp=>match P.underlying p.1 with
 |some (.map x _)=>Nat.beq p.2 x
 |_=>false
def fL(P:Program)(l:List (Nat×Nat))(i:Nat):Nat:=match I4 l i with
 |some x=>x
 |none=>match P.underlying i with
  |some (.map x _)=>x
  |_=>0
def ZB:∀{l:List (Nat×α)} {i:Nat} {x:α},I4 l i=some x->(i,x)∈l:=by intro l;induction l<;>grind[I4,Nat.beq,Nat.eq_of_beq_eq_true,List.mem_cons_self,List.mem_cons_of_mem]
section
variable{P:Program}
def FsOK(P:Program):List (Nat×FSpec)->Prop
 |[]=>True
 |p::r=>(FK P p.1/\FunOK P p.1 p.2)/\FsOK P r
def AI3(_:Program)(_:List (Nat×Unit)):Prop:=True
theorem FsOK.mem:∀{l:List (Nat×FSpec)},FsOK P l->∀f s,(f,s)∈l->FK P f/\FunOK P f s:=by
 intro l;induction l with
 |nil=>simp
 |cons p r b=>
  intro h f s a;rcases A_.1 a with rfl|a
  .exact h.1
  .exact b h.2 f s a
def ZC:List (String×Nat×Nat)->String->Nat->Option Nat
 |[],_,_=>none
 |x::r,m,id=>bif x.1==m&&Nat.beq x.2.1 id then some x.2.2 else ZC r m id
def MsOK(P:Program):List (String×Nat×Nat)->Prop
 |[]=>True
 |x::r=>(∀(v:Value) (w:World),(method (P.types.size+Made.depth) x.2.1 v x.1).run P w=.ok (x.2.2,v) w)/\MsOK P r
theorem MsOK.look:∀{l:List (String×Nat×Nat)},MsOK P l->∀m id f,ZC l m id=some f->∀(v:Value) (w:World),(method (P.types.size+Made.depth) id v m).run P w=.ok (f,v) w:=by
 intro l;induction l with
 |nil=>intro _ m id f h;cases h
 |cons x r d=>
  intro h m id f b;unfold ZC at b;cases a:(x.1==m&&Nat.beq x.2.1 id)with
  |false=>rw[a]at b;exact d h.2 m id f b
  |true=>rw[a]at b;simp only[A5,CI]at a;have e:=A4 a.2;cases b;rw[<-a.1,<-e];exact h.1
def uK(P:Program)(tys:List (Nat×Ty))(eqs:List Nat):Bool:=eqs.all λi=>match I4 tys i with
 |some t=>NT P t i
 |none=>true
theorem AI4{tys:List (Nat×Ty)}{els:List (Nat×Nat)}{fs:List (Nat×FSpec)}{ms:List (String×Nat×Nat)}{eqs:List Nat}{kys:List (Nat×Nat)}{b:List (Nat×Unit)}{dp:Nat->Nat}{cut:Nat->Option CSpec}{wr:Nat->Bool}(C:Pins.P=P)(h1:uH P tys=true)(d:uI P els=true)(w:FsOK P fs)(z:MsOK P ms)(e:uK P tys eqs=true)(j:uJ P kys=true)(a:(!dr||(fs.all λp=>p.2.dr)&&true)=true)(D:AI3 P b):
 EnvOK P dr ⟨I4 tys,I4 fs,cut,wr,fK P els,ZC ms,(λt=>EW t eqs),dr,dp,fL P kys,I4 b⟩:=by
 refine⟨C,λh=>h,λA f s h=>?_,λid t h=>?_,λid x h=>?_,λf s h=>w.mem f s (ZB h),z.look,λid t B m=>?_,λid x y h=>?_⟩
 .subst A;simp only[BS,C0,A5]at a;exact BT.1 a.1 _ (ZB h)
 .unfold uH at h1;rw[BT]at h1;exact h1 _ (ZB h)
 .unfold uI at d;rw[BT]at d;show fK P els id=x;unfold fK;cases l:I4 els id with
  |none=>simp only[h]
  |some y=>have:=d _ (ZB l);simp only[h]at this;exact A4 this
 .unfold uK at e;rw[BT]at e;have a:=e id (OO.1 B);have m:I4 tys id=some t:=m;rw[m]at a;exact a
 .unfold uJ at j;rw[BT]at j;show fL P kys id=x;unfold fL;cases l:I4 kys id with
  |none=>simp only[h]
  |some y=>have:=j _ (ZB l);simp only[h]at this;exact A4 this
def AI5(m:EnvOK P dr E)(a:P.follows .mixedOrders=true){f:FuncId}{fn:Func}{ps rs:List Sh}{F:TupR ps->Option (TupR (rs++ps.filter EU))}
 (j:P.funcs[f]?=some fn)(d:(fn.name== "runtime.NumGoroutine")=false)(e:fn.body=some c)(w:IE (RU fn.ntmps ps) c=true)(y:Nat.ble ps.length fn.ntmps=true)(x:Nat.beq fn.results.toList.length rs.length=true)
 (b:ID E c 0=l)(s:AllCuts P dr fn.ntmps (RU fn.ntmps ps) l)(p:∀v,eE E fn ps rs v=F v):FK P f/\FunOK P f ⟨ps,rs,F,dr⟩:=by
 subst b;exact⟨⟨fn,c,j,d,e⟩,AI2 m a j e w y x s λv r h=>(p v).trans h⟩
def AI6(e:EnvOK P dr E)(a:P.follows .mixedOrders=true){b:Code}{r:(TupR inn.sh->Option (H3 outs))->TupR inn.sh->Option (H3 outs)}
 (s:IE (J0 N wrs) b=true)(d:ID E b n=l)(p:AllCuts P dr N (J0 N wrs) l)(j:∀next v,sR E b n al inn outs next v=r next v)(m:Nat):
 CutOK P dr N ⟨inn,outs,wrs,DX r m,al,none,none⟩ (.loop b):=by
 subst d;exact AHx e a s p (λ_=>rfl) (λk v x h=>(j _ v).trans h) m
def AI7(j:EnvOK P dr E)(a:P.follows .mixedOrders=true){c:Operand}{x y:Code}{F:TupR inn.sh->Option (H3 outs)}{l e:List (CSpec×Code)}
 (p:IE (J0 N wrs) (.cond c x y)=true)(b:ID E x (n+1)=l)(d:ID E y (n+1+J_ x)=e)(s:AllCuts P dr N (J0 N wrs) l)(w:AllCuts P dr N (J0 N wrs) e)
 (m:∀v,eB E c x y n al inn outs v=F v):CutOK P dr N ⟨inn,outs,wrs,F,al,none,none⟩ (.cond c x y):=by
 subst b d;exact AHw (s:=⟨inn,outs,wrs,F,al,none,none⟩) j a p s w rfl rfl λv r h=>(m v).trans h
end
open Go.MapKept Go.ChangeMaps
section
variable{dr:Bool}
variable{P:Program}{fr:Fr}{w w':World}{G G':Gh}{I:Im}{Ω:Type}
def uL(b:all[i]?=some o)(h:o.guard=none)
 (d:(execOp a.eval o).run P w=.ok (.value v) w')(hk:K (a.put o.dst v) w'):wpOp P all Q i K a w:=by
 unfold wpOp;simp only[b];rw[if_pos (by unfold Region.wanted;rw[h])];left;unfold Oper.wp;rw[d];exact hk
def TG:Sh->Bool
 | .val _=>true
 | .own _ _ _=>true
 |_=>false
def ShC.aside(C:TG s=true){x:s.T}(h:ShC P w I s x cs bs)(e:Ext w I w' I)(B:∀b∈bs,w'.heap[b]?=w.heap[b]?):ShC P w' I s x cs bs:=by
 cases s<;>first|(cases C;done)|skip
 .exact⟨h.1.ext e,h.2⟩
 .rcases h with h|⟨b,a,cells,h1,d,j,l,m,p,y,z,A⟩
  .exact .inl h
  .exact .inr ⟨b,a,cells,h1,d,j,l.keep (B b (by rw[d];simp)),m,λi x D=>(p i x D).ext e,y,z,A⟩
def ShV.aside(e:TG s=true){x:s.T}(h:ShV P w I s x v bs)(a:Ext w I w' I)(d:∀b∈bs,w'.heap[b]?=w.heap[b]?):ShV P w' I s x v bs:=by
 cases s<;>first|(cases e;done)|skip
 .exact⟨h.1.ext a,h.2⟩
 .exact ShC.aside (P:=P) (s:=.own _ _ _) rfl h a d
def ShL.aside:∀{l:List Sh},l.all TG=true->∀{x:TupR l} {vs:List Value} {bs:List Nat},ShL P w I l x vs bs->Ext w I w' I->(∀b∈bs,w'.heap[b]?=w.heap[b]?)->ShL P w' I l x vs bs:=by
 intro l;induction l with
 |nil=>intro _ x vs bs h _ _;exact h
 |cons a l C=>
  intro d x vs bs h m j;simp only[List.all_cons,A5]at d;cases l with
  |nil=>obtain⟨v,h1,e⟩:=h;exact⟨v,h1,ShV.aside d.1 e m j⟩
  |cons b r=>obtain⟨v,p,s,y,h1,e,z,A⟩:=h;refine⟨v,p,s,y,h1,e,ShV.aside d.1 z m λc B=>j c oc,C d.2 A m λc B=>j c oc⟩
def ShC.lt(e:TG s=true){x:s.T}(h:ShC P w I s x cs bs):∀b∈bs,b<w.heap.size:=by
 cases s<;>first|(cases e;done)|skip
 .intro b a;rw[h.2]at a;cases a
 .rcases h with h|⟨b,d,cells,h1,j,l,⟨fz,m,_⟩,_⟩<;>grind
def ShV.lt(d:TG s=true){x:s.T}(h:ShV P w I s x v bs):∀b∈bs,b<w.heap.size:=by
 cases s<;>first|(cases d;done)|skip
 .intro b a;rw[h.2]at a;cases a
 .exact ShC.lt (P:=P) (s:=.own _ _ _) rfl h
def ShL.lt:∀{l:List Sh},l.all TG=true->∀{x:TupR l} {vs:List Value} {bs:List Nat},ShL P w I l x vs bs->∀b∈bs,b<w.heap.size:=by
 intro l;induction l with
 |nil=>intro _ x vs bs h b m;rw[h.2]at m;cases m
 |cons a l B=>
  intro j x vs bs h;simp only[List.all_cons,A5]at j;cases l with
  |nil=>obtain⟨v,h1,e⟩:=h;exact ShV.lt j.1 e
  |cons b r=>
   obtain⟨v,s,y,z,h1,e,p,A⟩:=h;intro c d;rw[e]at d;rcases AZ.1 d with d|d
   .exact ShV.lt j.1 p c d
   grind
def M_{α:Type}(es:List α)(ents:List MapEntry)(seen:Array Nat):List α:=((es.zip ents).filter λp=>!seen.contains p.2.born).map (·.1)
def AI8{e:List α}{ents:List MapEntry}(h:e.length=ents.length):M_ e ents #[]=e:=by grind[M_,List.filter_eq_self,List.map_fst_zip]
theorem AI9{a:List α}{seen:Array Nat}(h:(leftOf ents seen).size=0):M_ a ents.toList seen=[]:=by unfold M_;rw[List.filter_eq_nil_iff.2,List.map_nil];rintro⟨x,e⟩ b d;have j:e∈ents.toList:=(List.of_mem_zip b).2;simp_all[leftOf,Array.mem_filter,Array.mem_toList_iff,Array.eq_empty_of_size_eq_zero]
def AIA{f:α×MapEntry->Bool}:∀{Z:List (α×MapEntry)},(Z.map (·.2.born)).Nodup->∀{p:α×MapEntry},p∈Z->f p=true->(Z.filter f).Perm (p::Z.filter λq=>f q && !(q.2.born==p.2.born)):=by
 intro Z;induction Z with
 |nil=>simp
 |cons q Z l=>
  intro d p a b;have⟨m,s⟩:=AV.1 d;rcases A_.1 a with rfl|a
  .rw[List.filter_cons_of_pos b,List.filter_cons_of_neg oh];refine List.Perm.cons _ (List.Perm.of_eq ?_);apply List.filter_congr;grind
  .have j:q.2.born≠p.2.born:=λe=>m (B_.2 ⟨p,a,e.symm⟩);cases h:f q with
   |true=>rw[List.filter_cons_of_pos h,List.filter_cons_of_pos (by simp[h,j])];exact((l s a b).cons q).trans (.swap p q _)
   |false=>grind
def A3T{a:List α}{seen:Array Nat}(m:a.length=ents.size)(w:(ents.toList.map (·.born)).Nodup){e:MapEntry}(d:e∈(leftOf ents seen).toList):
 ∃(i:Nat) (x:α),a[i]?=some x/\ents[i]?=some e/\e∈ents.toList/\(M_ a ents.toList seen).Perm (x::M_ a ents.toList (seen.push e.born)):=by
 have d:=Array.mem_toList_iff.1 d;unfold leftOf at d;rw[Array.mem_filter]at d;obtain⟨h1,s⟩:=d;have b:=Array.mem_toList_iff.2 h1;have⟨i,hi⟩:=BN b;have j:i<ents.toList.length:=(A3.1 hi).1;have h:i<a.length:=by simpa[m]using j
 refine⟨i,a[i],A1 h,oc,b,?_⟩;have y:(a[i],e)∈a.zip ents.toList:=by apply AH (i:=i);rw[List.getElem?_zip_eq_some];exact⟨A1 h,hi⟩
 have l:((a.zip ents.toList).map (·.2.born)).Nodup:=by rw[show((a.zip ents.toList).map (·.2.born))=((a.zip ents.toList).map (·.2)).map (·.born) by simp,List.map_snd_zip (by simp[m])];exact w
 unfold M_;have:=(AIA (f:=λp:α×MapEntry=>!seen.contains p.2.born) l y s).map (·.1);grind
structure LoopI(P:Program)(dr:Bool)(N:Nat)(inn:Kp)(wrs:List Nat)(a0:Act)(w0:World)(I0:Im)(bs:List Nat)(d2 r:Nat)(a:Act)(w:World)(I:Im)(u:TupR inn.sh)(bs':List Nat):Prop where
 mem:HQ w I
 aft:After (·∈bs) w0 I0 w I
 defs:a.defers=[]
 size:a.tmps.size=N
 fix:∀t,EW t wrs=false->a.tmps.getD t undef=a0.tmps.getD t undef
 drawn:dr=true->w0.drawn<=w.drawn
 sh:ShL P w I inn.sh u (inn.tm.map λt=>a.tmps.getD t undef) bs'
 nod:bs'.Nodup
 bsub:∀c∈bs',c∈bs\/w0.heap.size<=c
 ptr:a.tmps.getD d2 undef=.pointer (some ⟨r,0,none⟩)
 rge:w0.heap.size<=r
 rlt:r<w.heap.size
 rbs:r ∉ bs'
 rC:∀o,¬I.cell r o
 rO:¬I.obj r
section
variable{N d2 r:Nat}{inn:Kp}{wrs bs bs':List Nat}{a0 a:Act}{w0:World}{I0:Im}{u:TupR inn.sh}
def LoopI.put(h:LoopI P dr N inn wrs a0 w0 I0 bs d2 r a w I u bs'){d:Nat}(l:d<N)(m:EW d wrs=true)(hi:EW d inn.tm=false)(j:d≠d2)(v:Value):
 LoopI P dr N inn wrs a0 w0 I0 bs d2 r (a.put (some d) v) w I u bs':=by
 have g:∀t,(a.put (some d) v).tmps.getD t undef=if d=t then v else a.tmps.getD t undef:=λt=>by rw[PX h.size (λ_ e=>oc)];simp
 refine⟨h.mem,h.aft,by rw[tZ];exact h.defs,by rw[fG];exact h.size,λt b=>?_,h.drawn,?_,h.nod,h.bsub,?_,h.rge,h.rlt,h.rbs,h.rC,h.rO⟩
 .rw[g,if_neg (λe=>oc)];exact h.fix t b
 .have e:(inn.tm.map λt=>(a.put (some d) v).tmps.getD t undef)=inn.tm.map λt=>a.tmps.getD t undef:=by apply List.map_congr_left;intro t b;rw[g,if_neg (λe=>by grind[OO])]
  rw[e];exact h.sh
 .rw[g,if_neg j];exact h.ptr
def LoopI.iter(h:LoopI P dr N inn wrs a0 w0 I0 bs d2 r a w I u bs')(hp:inn.sh.all TG=true){w1:World}(hw1:w1=w\/w1=w.drew)(o:Go.Obj):
 LoopI P dr N inn wrs a0 w0 I0 bs d2 r a (setBlock w1 r o) I u bs':=by
 have hh:∀j,j≠r->(setBlock w1 r o).heap[j]?=w.heap[j]?:=by
  intro j hj;have e:(setBlock w1 r o).heap=w.heap.setIfInBounds r o:=by rcases hw1 with rfl|rfl<;>rfl
  rw[e,Array.getElem?_setIfInBounds,if_neg (λe=>hj e.symm)]
 have hsz:(setBlock w1 r o).heap.size=w.heap.size:=by
  have e:(setBlock w1 r o).heap=w.heap.setIfInBounds r o:=by rcases hw1 with rfl|rfl<;>rfl
  rw[e,Array.size_setIfInBounds]
 have hos:(setBlock w1 r o).os=w.os/\(setBlock w1 r o).tape=w.tape/\(setBlock w1 r o).output=w.output/\w.drawn<=(setBlock w1 r o).drawn:=by
  rcases hw1 with rfl|rfl
  .exact⟨rfl,rfl,rfl,AD _⟩
  .exact⟨rfl,rfl,rfl,Nat.le_succ _⟩
 have he:Ext w I (setBlock w1 r o) I:=Ext.of_heap hh h.rC h.rO;have hm:HQ (setBlock w1 r o) I:=⟨λb o h'=>by rw[hsz];exact h.mem.1 b o h',λb h'=>by rw[hsz];exact h.mem.2.1 b h',h.mem.2.2.ext he⟩;have ha:After (·∈[r]) w I (setBlock w1 r o) I:=⟨he,λb _ hb=>hh b (by simpa using hb),oa,λ_ _ h=>.inl h,λ_ h=>.inl h,hm.1,hm.2.1,hos.1,hos.2.1,hos.2.2.1,hm.2.2⟩
 refine ⟨hm, h.aft.trans ha (fun b hb => .inr (by have : b = r := by simpa using hb
                                                  rw[this];exact h.rge)),h.defs,h.size,h.fix,λhd=>AM (h.drawn hd) hos.2.2.2,h.sh.aside hp he (λb hb=>hh b (λe=>h.rbs (e▸hb))),h.nod,h.bsub,h.ptr,h.rge,by rw[hsz];exact h.rlt,h.rbs,h.rC,h.rO⟩
def LoopI.body(h:LoopI P dr N inn wrs a0 w0 I0 bs d2 r a w I u bs')(A:∀t,EW t wrs=false->EW t wrsB=false)(z:EW d2 wrsB=false){y:TupR inn.sh}
 (D:MZ P dr N ⟨inn,[(.normal,inn)],wrsB,λ_=>none,[],none,none⟩ y a w I bs' e a' w'):
 e=.normal/\w'.heap[r]?=w.heap[r]? /\∃I' d,Ext w I w' I'/\LoopI P dr N inn wrs a0 w0 I0 bs d2 r a' w' I' y d:=by
 obtain⟨E,G,s,J,I',j,H⟩:=D;obtain⟨C,d,s1,K,x⟩:=H;refine⟨C,j.heap r h.rlt h.rbs,I',d,j.ext,⟨j.mem,h.aft.trans j h.bsub,E,G,λt p=>(s t (A t p)).trans (h.fix t p),λm=>AM (h.drawn m) (J m),s1,K,λc B=>?_,?_,h.rge,AO h.rlt j.size,λl=>?_,λo l=>?_,λl=>?_⟩⟩
 .rcases x c B with b|b
  .exact h.bsub c b
  .exact .inr (AM h.aft.size b)
 .exact(s d2 z).trans h.ptr
 .rcases x r l with b|b
  .exact h.rbs b
  .exact AA _ (AO h.rlt b)
 .rcases j.newC r o l with b|b|b
  .exact h.rC o b
  .exact AA _ (AO h.rlt b)
  .exact h.rbs b
 .rcases j.newO r l with b|b|b
  .exact h.rO b
  .exact AA _ (AO h.rlt b)
  .exact h.rbs b
end
structure RangeAt(N:Nat)(inn:Kp)(wrs wrsB:List Nat)(s d1 d2 d3 d4 d5 d6 rty:Nat)(mv rg nx ex o0 o1:Oper)(ops:Array Oper):Prop where
 mv:mv.op=.move (.tmp s)/\mv.dst=some d1/\mv.guard=none
 rg:rg.op=.range rty (.tmp d1)/\rg.dst=some d2/\rg.guard=none
 nx:nx.op=.next (.tmp d2) false/\nx.dst=some d3/\nx.guard=none
 ex:ex.op=.extract (.tmp d3) 0/\ex.dst=some d4/\ex.guard=none
 h0:ops[0]?=some o0
 h1:ops[1]?=some o1
 p0:o0.op=.entry (.tmp d2)/\o0.dst=some d5
 p1:o1.op=.extract (.tmp d5) 0/\o1.dst=some d6
 lt:d1<N/\d2<N/\d3<N/\d4<N
 wr:EW d1 wrs=true/\EW d2 wrs=true/\EW d3 wrs=true/\EW d4 wrs=true
 out:EW d1 inn.tm=false/\EW d2 inn.tm=false/\EW d3 inn.tm=false/\EW d4 inn.tm=false
 ne:d3≠d2/\d4≠d2
 sub:wrsB.all (λt=>EW t wrs)=true
 it:EW d2 wrsB=false
def CutOK.of_eq{s:CSpec}{c':Code}(h:CutOK P dr N s c)(e:c=c'):CutOK P dr N s c':=e▸h
def JB:Code->Array Oper
 | .region _ o _=>o
 |_=>#[]
end
section
variable{dr:Bool}
variable{P:Program}{fr:Fr}{w w':World}{G G':Gh}{I:Im}{Ω:Type}
noncomputable def A3U(E:Env)(ops:Array Oper)(C:Code)(n d5:Nat)(k v:Ty)(x:k.T×v.T)(st:St)(K:Ex->St->Option Ω):Option Ω:=
 bif L0 ops then none else
 PR E ops false st.n (ops.toList.drop 1) 1 {slots:=NP st.slots (some d5) (.tup (.scons (.val k x.1) (.scons (.val v x.2) .snil))),sto:=st.sto,n:=st.n} [] λst' _=>L1 E C n {slots:=st'.slots,sto:=st'.sto,n:=st.n+8*ops.size} K
noncomputable def uM(E:Env)(y:Nat)(ops:Array Oper)(C:Code)(n d5:Nat)(k v:Ty)(inn rk:Kp)(x:k.T×v.T)(u:TupR inn.sh):Option (Sum (TupR inn.sh) (TupR rk.sh)):=
 A3U E ops C n d5 k v x (I5 inn u) λe st=>outPut E.fs [(.normal,inn),(.ret,rk)] (match e with| .exit i=>bif Nat.beq i y then .normal else .exit i|e=>e) st
theorem AIB(Q:EnvOK P dr E)(J:P.follows .mixedOrders=true){y L d5:Nat}{C:Code}{rk:Kp}{k vt:Ty}{x:k.T×vt.T}{o0:Oper}
 (h0:ops[0]?=some o0)(p0:o0.op=.entry (.tmp L)/\o0.dst=some d5)
 (U:IE (J0 N wrs) (.seq (.region id ops false) C)=true)(hc:AllCuts P dr N (J0 N wrs) (ID E C n)){v:TupR inn.sh}{A:Sum (TupR inn.sh) (TupR rk.sh)}{key val:Value}
 (hm:HQ w I)(V:a.defers=[])(R:a.tmps.size=N)(h3:ShL P w I inn.sh v (inn.tm.map λt=>a.tmps.getD t undef) bs)(X:bs.Nodup)
 (h7:(Instr.entry (a.tmps.getD L undef)).run P w=.ok (.tuple #[key,val]) w)(hx:VRel w I k x.1 key)(h5:VRel w I vt x.2 val)(O:uM E y ops C n d5 k vt inn rk x v=some A):
 (Code.block y (.seq (.region id ops false) C)).wp P (MZ P dr N ⟨inn,[(.normal,inn),(.ret,rk)],wrs,λ_=>none,[],none,none⟩ A a w I bs) a w:=by
 have⟨G,z⟩:=uF (dr:=dr) (wrs:=wrs) hm V R h3 X;unfold uM A3U at O;cases hg:L0 ops with
 |true=>grind
 |false=>
 rw[hg]at O;simp only[A8]at O;simp only[IE,A5]at U;have m:∀(j:Nat) o d,ops[j]?=some o->o.dst=some d->d<N/\(RT dr wrs bs a w I).fx d=none:=by intro j o d hj ho;have D:=U.1;simp only[BT]at D;have:=D o (AH (by simpa using hj));rw[ho]at this;exact Y_ d this
 have W:GuardsOK ops:=A3M λhh=>oc;have Y:∀(j:Nat) o,ops[j]?=some o→o.guard=none:=by
  intro j o hj;cases x0:o.guard with
  |none=>rfl
  |some p=>grind[t_]
 have h2:1<=ops.size:=by have:=(B1.1 h0).1;omega
 have h9:=m 0 o0 d5 h0 p0.2;refine wp_block (wp_seq (wp_region ?_));rw[List.range_eq_range',show ops.size=(ops.size-1)+1 by omega,List.range'_succ,wpOps_cons];refine uL h0 (Y 0 o0 h0) (v:=.tuple #[key,val]) (w':=w) ?_ ?_
 .simp only[execOp,p0.1];rw[show a.eval (.tmp L)=a.tmps.getD L undef from rfl];simp_all
 rw[p0.2];have g5:∀t,(a.put (some d5) (.tuple #[key,val])).tmps.getD t undef=if d5=t then .tuple #[key,val]else a.tmps.getD t undef:=λt=>by rw[PX R (λd h=>oc)];simp
 have H:(ops.toList.drop 1).length=ops.size-1:=oh;have h4:∀t,SR P w G ((I5 inn v).slots t) (a.tmps.getD t undef):=by intro t;have h1:SlotOK P w G a ((I5 inn v).slots t) (a.tmps.getD t undef):=z.slots t;have h2:∀tk g s,(I5 inn v).slots t≠.grd tk g s:=z.nogrd t;generalize (I5 inn v).slots t=s at h1 h2;cases s<;>first|exact h1|grind
 have K:SimF P N (RT dr wrs bs a w I) (λk=>(I5 inn v).n+8*1<=k) (DS ops (λj=>decide (j<1))) (NP (I5 inn v).slots (some d5) (.tup (.scons (.val k x.1) (.scons (.val vt x.2) .snil)))) (I5 inn v).sto
  (a.put (some d5) (.tuple #[key,val])) w G:=by
  refine⟨λt=>?_,by assumption,by rw[fG];exact R,λt u h=>?_,λt tk g s h=>?_,z.mem.shrink λk hk=>oa,z.drawn⟩
  .rw[RR,g5];by_cases M:d5=t
   .rw[if_pos (by rw[M]),if_pos M];have⟨c1,q1,q2⟩:=hx.ext z.mem.after.ext;have⟨c2,q3,q4⟩:=h5.ext z.mem.after.ext;exact SR.slotOK ⟨[.tuple #[key,val]],rfl,#[key,val],rfl,key,[val],rfl,⟨c1,q1,q2⟩,val,[],rfl,⟨c2,q3,q4⟩,rfl⟩
   .rw[if_neg (λh=>M (A2 h)),if_neg M];exact(h4 t).slotOK
  .rw[g5,if_neg (λe=>oc)];exact z.fix t u h
  .rw[RR]at h;split at h
   .cases h
   .exact absurd h (z.nogrd t tk g s)
 have:=A39 Q W m (Q:=Exit.then (C.wp P (Exit.inBlock y (MZ P dr N ⟨inn,[(.normal,inn),(.ret,rk)],wrs,λ_=>none,[],none,none⟩ A a w I bs))) (Exit.inBlock y (MZ P dr N ⟨inn,[(.normal,inn),(.ret,rk)],wrs,λ_=>none,[],none,none⟩ A a w I bs)))
  (ops.toList.drop 1) 1 _ [] _ w G O rfl (by rw[H];omega) K (λx1 h8 a' w' G' l hn hK=>?_)
 .grind
 .refine YZ Q J Y_ C n _ a' w' G' _ A _ U.2 (YY hc) hK ⟨l.slots,l.defs,l.size,l.fix,λt tk g s h=>?_,l.mem,l.drawn⟩ λe h6 a2 w2 G2 Z b=>?_
  .obtain⟨q1,q2⟩:=l.toks t tk g s h;cases tk with
   |nil=>exact q1 rfl
   |cons p r=>have:=(q2 p AE).1;grind
  .have B:∀{e:Ex},outPut E.fs [(.normal,inn),(.ret,rk)] e h6=some A->MZ P dr N ⟨inn,[(.normal,inn),(.ret,rk)],wrs,λ_=>none,[],none,none⟩ A a w I bs (LM e) a2 w2:=λh=>Z0 (s:=⟨inn,[(.normal,inn),(.ret,rk)],wrs,λ_=>none,[],none,none⟩) (x:=A) Q Z h
   cases e with
   |normal=>exact B (e:=.normal) b
   |ret=>exact B (e:=.ret) b
   |exit i=>
    simp only at b;cases T:Nat.beq i y with
    |false=>rw[T]at b;cases b
    |true=>rw[T]at b;have:=A4 T;subst this;simp only[LM,Exit.inBlock,if_true];exact B (e:=.normal) b
def FF{α β γ:Type}(f:α->β->Option (Sum β γ)):List α->β->Option (Sum β γ)
 |[],u=>some (.inl u)
 |a::r,u=>(f a u).bind λz=>match z with
  | .inl v=>FF f r v
  | .inr c=>some (.inr c)
def uN{b:Type}{f:α->β->Option (Sum β b)}:∀{l r:List α} {u v:β},FF f l u=some (.inl v)->FF f (l++r) u=FF f r v:=by
 intro l;induction l with
 |nil=>intro r u v h;cases h;rfl
 |cons a l e=>intro r u v h;simp only[List.cons_append,FF]at h ⊢;cases d:f a u<;>grind
def AIC{b:Type}{f:α->β->Option (Sum β b)}{l r:List α}{z:α}{u v a:β}(h:FF f l u=some (.inl v))(d:f z v=some (.inl a)):FF f (l++z::r) u=FF f r a:=by simp_all[uN,FF]
def AID{a:Type}{f:α->β->Option (Sum β a)}{l r:List α}{z:α}{u v:β}{c:a}(h:FF f l u=some (.inl v))(b:f z v=some (.inr c)):FF f (l++z::r) u=some (.inr c):=by simp_all[uN,FF]
def TH:Sh->Bool
 | .val _=>true
 | .own _ _ _=>true
 | .omap _ _=>true
 | .pr a b=>TH a&&TH b
 |_=>false
def fM:Sh->Bool
 | .val _=>true
 | .own _ _ _=>true
 | .omap _ _=>true
 | .fz _=>true
 | .box c=>TH c
 |_=>false
def ShC.aside2:∀{s:Sh},TH s=true->∀{x:s.T} {cs:List Value} {bs:List Nat},ShC P w I s x cs bs->Ext w I w' I->(∀b∈bs,w'.heap[b]?=w.heap[b]?)->ShC P w' I s x cs bs:=by
 intro s;induction s with
 |val t=>intro j x cs bs h l m;exact ShC.aside (P:=P) (s:=.val _) rfl h l m
 |own a b c=>intro j x cs bs h l m;exact ShC.aside (P:=P) (s:=.own _ _ _) rfl h l m
 |omap a c=>intro j x cs bs h l m;obtain⟨p,M,b,ents,y,h1,z,A,B,E,K⟩:=h;exact⟨p,M,b,ents,y,h1,z,(m b (by rw[z];simp)).trans A,B,λi x e G hi=>⟨(E i x e G hi).1.ext l,(E i x e G hi).2.ext l⟩,K⟩
 |pr a b C D=>intro j x cs bs h l m;have j:(TH a&&TH b)=true:=j;rw[A5]at j;obtain⟨c,d,H,J,h1,z,A,B⟩:=h;exact⟨c,d,H,J,h1,z,C j.1 A l λc L=>m c oc,D j.2 B l λc L=>m c oc⟩
 |_=>intro j;cases j
def ShV.aside2(l:fM s=true){x:s.T}(h:ShV P w I s x v bs)(a:Ext w I w' I)(d:∀b∈bs,w'.heap[b]?=w.heap[b]?):ShV P w' I s x v bs:=by
 cases s<;>first|(cases l;done)|skip
 .exact⟨h.1.ext a,h.2⟩
 .exact ShC.aside (P:=P) (s:=.own _ _ _) rfl h a d
 .exact ShC.aside2 (P:=P) (s:=.omap _ _) rfl h a d
 .obtain⟨b,cells,el,e,h1,j,m,p,y,z⟩:=h;exact⟨b,cells,el,e,h1,j,(d b (by rw[j];simp)).trans m,p,ShC.aside2 (show TH _=true from l) y a (λc A=>d c oc),z⟩
 .exact⟨h.1.ext a,h.2⟩
def ShL.aside2:∀{l:List Sh},l.all fM=true->∀{x:TupR l} {vs:List Value} {bs:List Nat},ShL P w I l x vs bs->Ext w I w' I->(∀b∈bs,w'.heap[b]?=w.heap[b]?)->ShL P w' I l x vs bs:=by
 intro l;induction l with
 |nil=>intro _ x vs bs h _ _;exact h
 |cons a l C=>
  intro d x vs bs h m j;simp only[List.all_cons,A5]at d;cases l with
  |nil=>obtain⟨v,h1,e⟩:=h;exact⟨v,h1,ShV.aside2 d.1 e m j⟩
  |cons b r=>obtain⟨v,p,s,y,h1,e,z,A⟩:=h;refine⟨v,p,s,y,h1,e,ShV.aside2 d.1 z m λc B=>j c oc,C d.2 A m λc B=>j c oc⟩
structure LoopJ(P:Program)(dr:Bool)(N:Nat)(inn:Kp)(wrs:List Nat)(a0:Act)(w0:World)(I0:Im)(bs:List Nat)(d2 r:Nat)(a:Act)(w:World)(I:Im)(u:TupR inn.sh)(bs':List Nat):Prop where
 mem:HQ w I
 aft:After (·∈bs) w0 I0 w I
 defs:a.defers=[]
 size:a.tmps.size=N
 fix:∀t,EW t wrs=false->a.tmps.getD t undef=a0.tmps.getD t undef
 drawn:dr=true->w0.drawn<=w.drawn
 sh:ShL P w I inn.sh u (inn.tm.map λt=>a.tmps.getD t undef) bs'
 nod:bs'.Nodup
 bsub:∀c∈bs',c∈bs\/w0.heap.size<=c
 ptr:a.tmps.getD d2 undef=.pointer (some ⟨r,0,none⟩)
 rin:r∈bs
 rlt:r<w.heap.size
 rbs:r ∉ bs'
 rC:∀o,¬I.cell r o
 rO:¬I.obj r
section
variable{N d2 r:Nat}{inn:Kp}{wrs bs bs':List Nat}{a0 a:Act}{w0:World}{I0:Im}{u:TupR inn.sh}
def LoopJ.put(h:LoopJ P dr N inn wrs a0 w0 I0 bs d2 r a w I u bs'){d:Nat}(l:d<N)(m:EW d wrs=true)(hi:EW d inn.tm=false)(j:d≠d2)(v:Value):
 LoopJ P dr N inn wrs a0 w0 I0 bs d2 r (a.put (some d) v) w I u bs':=by
 have g:∀t,(a.put (some d) v).tmps.getD t undef=if d=t then v else a.tmps.getD t undef:=λt=>by rw[PX h.size (λ_ e=>oc)];simp
 refine⟨h.mem,h.aft,by rw[tZ];exact h.defs,by rw[fG];exact h.size,λt b=>?_,h.drawn,?_,h.nod,h.bsub,?_,h.rin,h.rlt,h.rbs,h.rC,h.rO⟩
 .rw[g,if_neg (λe=>oc)];exact h.fix t b
 .have e:(inn.tm.map λt=>(a.put (some d) v).tmps.getD t undef)=inn.tm.map λt=>a.tmps.getD t undef:=by apply List.map_congr_left;intro t b;rw[g,if_neg (λe=>by grind[OO])]
  rw[e];exact h.sh
 .rw[g,if_neg j];exact h.ptr
def LoopJ.iter(h:LoopJ P dr N inn wrs a0 w0 I0 bs d2 r a w I u bs')(hp:inn.sh.all fM=true){w1:World}(hw1:w1=w\/w1=w.drew)(o:Go.Obj):
 LoopJ P dr N inn wrs a0 w0 I0 bs d2 r a (setBlock w1 r o) I u bs':=by
 have hh:∀j,j≠r->(setBlock w1 r o).heap[j]?=w.heap[j]?:=by
  intro j hj;have e:(setBlock w1 r o).heap=w.heap.setIfInBounds r o:=by rcases hw1 with rfl|rfl<;>rfl
  rw[e,Array.getElem?_setIfInBounds,if_neg (λe=>hj e.symm)]
 have hsz:(setBlock w1 r o).heap.size=w.heap.size:=by
  have e:(setBlock w1 r o).heap=w.heap.setIfInBounds r o:=by rcases hw1 with rfl|rfl<;>rfl
  rw[e,Array.size_setIfInBounds]
 have hos:(setBlock w1 r o).os=w.os/\(setBlock w1 r o).tape=w.tape/\(setBlock w1 r o).output=w.output/\w.drawn<=(setBlock w1 r o).drawn:=by
  rcases hw1 with rfl|rfl
  .exact⟨rfl,rfl,rfl,AD _⟩
  .exact⟨rfl,rfl,rfl,Nat.le_succ _⟩
 have he:Ext w I (setBlock w1 r o) I:=Ext.of_heap hh h.rC h.rO;have hm:HQ (setBlock w1 r o) I:=⟨λb o h'=>by rw[hsz];exact h.mem.1 b o h',λb h'=>by rw[hsz];exact h.mem.2.1 b h',h.mem.2.2.ext he⟩;have ha:After (·∈[r]) w I (setBlock w1 r o) I:=⟨he,λb _ hb=>hh b (by simpa using hb),oa,λ_ _ h=>.inl h,λ_ h=>.inl h,hm.1,hm.2.1,hos.1,hos.2.1,hos.2.2.1,hm.2.2⟩
 refine ⟨hm, h.aft.trans ha (fun b hb => .inl (by have : b = r := by simpa using hb
                                                  rw[this];exact h.rin)),h.defs,h.size,h.fix,λhd=>AM (h.drawn hd) hos.2.2.2,h.sh.aside2 hp he (λb hb=>hh b (λe=>h.rbs (e▸hb))),h.nod,h.bsub,h.ptr,h.rin,by rw[hsz];exact h.rlt,h.rbs,h.rC,h.rO⟩
def LoopJ.body{rk:Kp}(h:LoopJ P dr N inn wrs a0 w0 I0 bs d2 r a w I u bs')(D:∀t,EW t wrs=false->EW t wrsB=false)(L:EW d2 wrsB=false){z:Sum (TupR inn.sh) (TupR rk.sh)}
 (O:MZ P dr N ⟨inn,[(.normal,inn),(.ret,rk)],wrsB,λ_=>none,[],none,none⟩ z a w I bs' e a' w'):
 match z with
 | .inl K=>e=.normal/\w'.heap[r]?=w.heap[r]? /\∃I' d,Ext w I w' I'/\LoopJ P dr N inn wrs a0 w0 I0 bs d2 r a' w' I' K d
 | .inr c=>e=.ret/\a'.defers=[]/\a'.tmps.size=N/\(∀t,EW t wrs=false->a'.tmps.getD t undef=a0.tmps.getD t undef)/\(dr=true->w0.drawn<=w'.drawn)/\
  ∃I',After (·∈bs) w0 I0 w' I'/\∃d,ShL P w' I' rk.sh c (rk.tm.map λt=>a'.tmps.getD t undef) d/\d.Nodup/\∀b∈d,b∈bs\/w0.heap.size<=b:=by
 obtain⟨E,G,B,J,I',m,H⟩:=O;have l:∀{d:List Nat},(∀b∈d,b∈bs'\/w.heap.size<=b)->∀c∈d,c∈bs\/w0.heap.size<=c:=by
  intro d s c M;rcases s c M with j|j
  .exact h.bsub c j
  .exact .inr (AM h.aft.size j)
 cases z with
 |inl K=>
  obtain⟨A,d,s1,C,s⟩:=H;refine⟨A,m.heap r h.rlt h.rbs,I',d,m.ext,⟨m.mem,h.aft.trans m h.bsub,E,G,λt y=>(B t (D t y)).trans (h.fix t y),λp=>AM (h.drawn p) (J p),s1,C,l s,?_,h.rin,AO h.rlt m.size,λx=>?_,λo x=>?_,λx=>?_⟩⟩
  .exact(B d2 L).trans h.ptr
  .rcases s r x with j|j
   .exact h.rbs j
   .exact AA _ (AO h.rlt j)
  .rcases m.newC r o x with j|j|j
   .exact h.rC o j
   .exact AA _ (AO h.rlt j)
   .exact h.rbs j
  .rcases m.newO r x with j|j|j
   .exact h.rO j
   .exact AA _ (AO h.rlt j)
   .exact h.rbs j
 |inr c=>obtain⟨A,d,s1,C,s⟩:=H;exact⟨A,E,G,λt y=>(B t (D t y)).trans (h.fix t y),λp=>AM (h.drawn p) (J p),I',h.aft.trans m h.bsub,d,s1,C,l s⟩
end
structure RangeAt2(N:Nat)(inn:Kp)(wrs wrsB:List Nat)(s d3 d4 d5:Nat)(nx ex o0:Oper)(ops:Array Oper):Prop where
 nx:nx.op=.next (.tmp s) false/\nx.dst=some d3/\nx.guard=none
 ex:ex.op=.extract (.tmp d3) 0/\ex.dst=some d4/\ex.guard=none
 h0:ops[0]?=some o0
 p0:o0.op=.entry (.tmp s)/\o0.dst=some d5
 lt:d3<N/\d4<N
 wr:EW d3 wrs=true/\EW d4 wrs=true
 out:EW d3 inn.tm=false/\EW d4 inn.tm=false
 ne:d3≠s/\d4≠s
 sub:wrsB.all (λt=>EW t wrs)=true
 it:EW s wrsB=false
def ZD(hE:EnvOK P dr E)(hmix:P.follows .mixedOrders=true){id2 id3 x y s q d3 d4 d5:Nat}{C:Code}{tm:List Nat}{k v:Ty}{b:Sh}{sh:List Sh}{rk:Kp}{nx ex o0:Oper}
 (A:RangeAt2 N ⟨q::tm,b::sh⟩ wrs wrsB s d3 d4 d5 nx ex o0 ops)
 (hdB:IE (J0 N wrsB) (.seq (.region id3 ops false) C)=true)(hcB:AllCuts P dr N (J0 N wrsB) (ID E C n))(hp:(b::sh).all fM=true)
 {f:k.T×v.T->TupR (b::sh)->Option (Sum (TupR (b::sh)) (TupR rk.sh))}(hF:∀kx u,uM E y ops C n d5 k v ⟨q::tm,b::sh⟩ rk kx u=f kx u):
 CutOK P dr N ⟨⟨s::q::tm,.it k v::b::sh⟩,[(.exit x,⟨q::tm,b::sh⟩),(.ret,rk)],wrs,λ_=>none,[],some ⟨k,v,λu o=>o.Perm (show List (k.T×v.T)from u.1),λu o=>FF f o u.2⟩,none⟩
  (.loop (.seq (.region id2 #[nx,ex] false) (.seq (.cond (.tmp d4) .skip (.exit x)) (.block y (.seq (.region id3 ops false) C))))):=by
 intro w0 I a0 u0 bs hm hda hN hal hsh hnd;show(∀o:List (k.T×v.T),o.Perm (show List (k.T×v.T)from u0.1)->∃z,FF f o u0.2=some z)->_;intro hall;obtain⟨vm,vs,b1,bs0,hvs,rfl,⟨r,it,rfl,rfl,hit,hat,hrO,hrC⟩,hrest⟩:=hsh;have hs0:a0.tmps.getD s undef=.pointer (some ⟨r,0,none⟩):=(List.cons.inj hvs).1;have hvs':(q::tm).map (λt=>a0.tmps.getD t undef)=vs:=(List.cons.inj hvs).2;have hB:∀t,EW t wrs=false->EW t wrsB=false:=by
  intro t ht;cases hh:EW t wrsB with
  |false=>rfl
  |true=>have:=BT.1 A.sub t (OO.1 hh);grind
 have hnd':r ∉ bs0/\bs0.Nodup:=AV.1 hnd
 have hL0:LoopJ P dr N ⟨q::tm,b::sh⟩ wrs a0 w0 I ([r]++bs0) s r a0 w0 I u0.2 bs0:=
  ⟨hm,After.refl hm,hda,hN,λ_ _=>rfl,λ_=>AD _,oc,hnd'.2,λc hc=>.inl (BP _ hc),hs0,oh,NU hit,hnd'.1,hrC,hrO⟩
 generalize hbs:[r]++bs0=bs at *
 have test:∀{a:Act} {w:World} {I':Im} {u:TupR (b::sh)} {bs':List Nat} {l:List Value} {t:Bool} {w1:World} {o:Go.Obj} {Q:Exit→Act→World→Prop},
  LoopJ P dr N ⟨q::tm,b::sh⟩ wrs a0 w0 I bs s r a w I' u bs'->(Instr.next (.pointer (some ⟨r,0,none⟩)) false nx.type).run P w=.ok (.tuple (.bool t::l).toArray) (if t then setBlock w1 r o else w)->(t=true->w1=w\/w1=w.drew)->
  (∀a',LoopJ P dr N ⟨q::tm,b::sh⟩ wrs a0 w0 I bs s r a' (if t then setBlock w1 r o else w) I' u bs'->a'.eval (.tmp d4)=.bool t->Q .normal a' (if t then setBlock w1 r o else w))->
  (Code.region id2 #[nx,ex] false).wp P Q a w:=by
  intro a w I' u bs' l t w1 o Q hL hrun hw1 hQ;refine wp_region ?_;rw[show List.range (#[nx,ex]:Array Oper).size=[0,1]from rfl,wpOps_cons];refine uL (o:=nx) rfl A.nx.2.2 (v:=.tuple (.bool t::l).toArray) (w':=if t then setBlock w1 r o else w) ?_ ?_
  .simp only[execOp,A.nx.1];rw[show a.eval (.tmp s)=.pointer (some ⟨r,0,none⟩)from hL.ptr];simp_all
  rw[wpOps_cons,A.nx.2.1];have h1:LoopJ P dr N ⟨q::tm,b::sh⟩ wrs a0 w0 I bs s r a (if t then setBlock w1 r o else w) I' u bs':=by
   cases t with
   |false=>exact hL
   |true=>exact hL.iter hp (hw1 rfl) o
  have h2:=h1.put A.lt.1 A.wr.1 A.out.1 A.ne.1 (.tuple (.bool t::l).toArray);have e3:(a.put (some d3) (.tuple (.bool t::l).toArray)).tmps.getD d3 undef=.tuple (.bool t::l).toArray:=by rw[PX hL.size (λ_ e=>by cases e;exact A.lt.1),if_pos rfl]
  refine uL (o:=ex) rfl A.ex.2.2 (v:=.bool t) (w':=if t then setBlock w1 r o else w) ?_ ?_
  .simp only[execOp,A.ex.1];rw[show(a.put (some d3) (.tuple (.bool t::l).toArray)).eval (.tmp d3)=.tuple (.bool t::l).toArray from e3];rfl
  rw[A.ex.2.1];refine hQ _ (h2.put A.lt.2 A.wr.2 A.out.2 A.ne.2 (.bool t)) ?_;show((a.put (some d3) (.tuple (.bool t::l).toArray)).put (some d4) (.bool t)).tmps.getD d4 undef=.bool t;rw[PX h2.size (λ_ e=>by cases e;exact A.lt.2),if_pos rfl]
 let Post:Exit->Act->World->Prop:=λe a' w'=>∃o z,o.Perm (show List (k.T×v.T)from u0.1)/\FF f o u0.2=some z/\
  MZ P dr N ⟨⟨s::q::tm,.it k v::b::sh⟩,[(.exit x,⟨q::tm,b::sh⟩),(.ret,rk)],wrs,λ_=>none,[],some ⟨k,v,λu o=>o.Perm (show List (k.T×v.T)from u.1),λu o=>FF f o u.2⟩,none⟩ z a0 w0 I bs e a' w'
 show(Code.loop _).wp P Post a0 w0
 have done:∀{a:Act} {w:World} {I':Im} {u:TupR (b::sh)} {bs':List Nat} {dn:List (k.T×v.T)} {R:Act->World->Prop},
  LoopJ P dr N ⟨q::tm,b::sh⟩ wrs a0 w0 I bs s r a w I' u bs'->FF f dn u0.2=some (.inl u)->dn.Perm (show List (k.T×v.T)from u0.1)->
  (Instr.next (.pointer (some ⟨r,0,none⟩)) false nx.type).run P w=.ok (.tuple #[.bool false]) w->
  (Code.seq (.region id2 #[nx,ex] false) (.seq (.cond (.tmp d4) .skip (.exit x)) (.block y (.seq (.region id3 ops false) C)))).wp P (Exit.then R Post) a w:=by
  intro a w I' u bs' dn R hL hfd hperm hrun;refine wp_seq (test (l:=[]) (t:=false) (w1:=w) (o:=default) hL hrun (λh=>oq) λa' hL' hv=>?_);refine wp_seq (wp_cond_false hv (wp_exit ?_));exact⟨dn,.inl u,hperm,hfd,hL'.defs,hL'.size,hL'.fix,hL'.drawn,I',hL'.aft,rfl,bs',hL'.sh,hL'.nod,hL'.bsub⟩
 obtain⟨m,hvm,⟨rfl,rfl⟩|⟨mb,ents,clock,rfl,rfl,hmb⟩⟩:=hat
 ·
  obtain⟨c,hc,p,hpe,r',rfl,hnone,hsome⟩:=hvm;have e1:[Value.map r']=[Value.map none]:=hc;have e2:=AC.1 e1;cases e2;have hes:p=[]:=hnone rfl;subst hes;refine wp_loop_rounds 1 ?_;rw[rounds_succ];refine done (dn:=[]) hL0 rfl hpe.1 ?_;simp only[Instr.next,getObj,Sem.run_bind,Sem.run,hit,Result.andThen];rfl
 .obtain⟨c,hc,p,hpe,r',rfl,hnone,hsome⟩:=hvm;have e1:[Value.map r']=[Value.map (some mb)]:=hc;have e2:=AC.1 e1;cases e2;have⟨hIb,ents',clock',hh',⟨hsize,hst⟩,hent⟩:=hsome mb rfl;rw[hmb]at hh';cases hh';have hsize:ents.size=p.length:=hsize
  have key:∀(m:Nat) {a:Act} {w:World} {I':Im} {u:TupR (b::sh)} {bs':List Nat} {dn:List (k.T×v.T)} {seen:Array Nat} {c0:Nat},
   LoopJ P dr N ⟨q::tm,b::sh⟩ wrs a0 w0 I bs s r a w I' u bs'->Ext w0 I w I'->FF f dn u0.2=some (.inl u)->(dn++M_ p ents.toList seen).Perm p->(M_ p ents.toList seen).length=m->
   w.heap[r]?=some (.mapIter (some mb) clock seen c0)->clock<=c0->w.heap[mb]?=some (.map ents clock)->
   Code.rounds P (.seq (.region id2 #[nx,ex] false) (.seq (.cond (.tmp d4) .skip (.exit x)) (.block y (.seq (.region id3 ops false) C)))) Post (m+1) a w:=by
   intro m;induction m with
   |zero=>
    intro a w I' u bs' dn seen c0 hL hx0 hfd hperm hlen hit hc0 hmbw;have hnil:=AF hlen;rw[hnil,CU]at hperm;rw[rounds_succ];refine done hL hfd (hperm.trans hpe.1) ?_;rcases run_next_at (P:=P) w nx.type r mb clock c0 seen ents clock hit hmbw hst.1 hc0 with⟨_,h⟩|⟨e,he,_⟩
    .exact h
    .obtain⟨i,z,_,_,_,hp'⟩:=A3T hsize.symm hst.2.1 he;simp_all
   |succ m ih=>
    intro a w I' u bs' dn seen c0 hL hx0 hfd hperm hlen hit hc0 hmbw;rw[rounds_succ];rcases run_next_at (P:=P) w nx.type r mb clock c0 seen ents clock hit hmbw hst.1 hc0 with⟨h0,_⟩|⟨e,he,w1,hw1,hrun⟩
    .grind[AI9]
    .obtain⟨i,z,hz,hei,hein,hp'⟩:=A3T hsize.symm hst.2.1 he;have hlen':(M_ p ents.toList (seen.push e.born)).length=m:=by have:=hp'.length_eq;rw[hlen]at this;simpa using this.symm
     have hperm':((dn++[z])++M_ p ents.toList (seen.push e.born)).Perm p:=by refine List.Perm.trans ?_ hperm;rw[C1];exact List.Perm.append_left dn hp'.symm
     obtain⟨u',hu'⟩:∃u',f z u=some u':=by have⟨zz,hzz⟩:=hall _ (hperm'.trans hpe.1);rw[C1,uN hfd]at hzz;grind[List.singleton_append,FF,Option.bind_eq_some_iff]
     refine wp_seq (test (l:=[e.key,e.val]) (t:=true) (w1:=w1) (o:=.mapIter (some mb) clock (seen.push e.born) clock) hL hrun (λ_=>hw1) λa' hL' hv=>?_);simp only[if_true]at hL' ⊢;have hne:mb≠r:=λe=>oc;have hheap:(setBlock w1 r (.mapIter (some mb) clock (seen.push e.born) clock)).heap=w.heap.setIfInBounds r (.mapIter (some mb) clock (seen.push e.born) clock):=by rcases hw1 with rfl|rfl<;>rfl
     generalize hw2:setBlock w1 r (.mapIter (some mb) clock (seen.push e.born) clock)=w2 at *;have hit2:w2.heap[r]?=some (.mapIter (some mb) clock (seen.push e.born) clock):=by rw[hheap,Array.getElem?_setIfInBounds,if_pos rfl,if_pos hL.rlt]
     have hmb2:w2.heap[mb]?=some (.map ents clock):=by rw[hheap,Array.getElem?_setIfInBounds,if_neg (λe=>hne e.symm)];exact hmbw
     refine wp_seq (wp_cond_true hv (wp_skip ?_));have hkey:VRel w2 I' k z.1 e.key:=by have⟨⟨cc,h1,h2⟩,_⟩:=hent i z e hz hei;exact VRel.ext ⟨cc,h1,h2⟩ hL'.aft.ext
     have hval:VRel w2 I' v z.2 e.val:=by have⟨_,⟨cc,h1,h2⟩⟩:=hent i z e hz hei;exact VRel.ext ⟨cc,h1,h2⟩ hL'.aft.ext
     have hentry:=run_entry_at (P:=P) w2 r mb clock seen ents clock e hit2 hmb2 hein hst.2.1;refine wp_mono (AIB hE hmix (n:=n) (y:=y) (k:=k) (vt:=v) (x:=z) (inn:=⟨q::tm,b::sh⟩) (rk:=rk) A.h0 A.p0 hdB hcB hL'.mem hL'.defs hL'.size hL'.sh hL'.nod (by rw[hL'.ptr];exact hentry) hkey hval ((hF z u).trans hu')) λe' a2 w3 hq=>?_;have hbd:=hL'.body hB A.it hq;cases u' with
     |inl u'=>obtain⟨rfl,h1,I2,bs2,h2,h3⟩:=hbd;have hIb':I'.obj mb:=(hL'.aft.ext.obj mb hIb).1;exact ih h3 h3.aft.ext (AIC hfd hu') hperm' hlen' (h1.trans hit2) (AD _) (((h2.obj mb hIb').2).trans hmb2)
     |inr c=>obtain⟨rfl,h1,h2,h3,h4,I2,h5,bs2,h6,h7,h8⟩:=hbd;exact⟨_,.inr c,hperm'.trans hpe.1,by rw[C1];exact AID hfd hu',h1,h2,h3,h4,I2,h5,rfl,bs2,h6,h7,h8⟩
  refine wp_loop_rounds (p.length+1) ?_;have hle:(M_ p ents.toList #[])=p:=AI8 (by simp[hsize]);exact key p.length (dn:=[]) (seen:=#[]) hL0 (Ext.refl _ _) rfl (by rw[hle,CZ]) (by rw[hle]) hit (AD _) hmb
end
section
variable{P:Program}{dr:Bool}{w:World}{I:Im}
def A3V:(t:Ty)->t.T->t.T->Prop
 | .map k v,x,y=>(show List (k.T×v.T)from x).Perm y
 |_,x,y=>x=y
def uO:(s:Sh)->s.T->s.T->Prop
 | .val t,x,y=>A3V t x y
 | .omap k v,x,y=>(show List (k.T×v.T)from x).Perm y
 |_,x,y=>x=y
def fN:(l:List Sh)->TupR l->TupR l->Prop
 |[],_,_=>True
 |[a],x,y=>uO a x y
 |a::b::r,x,y=>uO a x.1 y.1/\fN (b::r) x.2 y.2
def VM:(l:List (Ex×Kp))->H3 l->H3 l->Prop
 |[],x,_=>Empty.elim x
 |[o],x,y=>fN o.2.sh x y
 |o::p::r,x,y=>match(show Sum (TupR o.2.sh) (H3 (p::r))from x),(show Sum (TupR o.2.sh) (H3 (p::r))from y)with
  | .inl x,.inl y=>fN o.2.sh x y
  | .inr x,.inr y=>VM (p::r) x y
  |_,_=>False
def TyN:(t:Ty)->t.T->Prop
 | .map k v,x=>((show List (k.T×v.T)from x).map (·.1)).Nodup
 |_,_=>True
def uP:(s:Sh)->s.T->Prop
 | .val t,x=>TyN t x
 | .omap k v,x=>((show List (k.T×v.T)from x).map (·.1)).Nodup
 | .it k v,x=>((show List (k.T×v.T)from x).map (·.1)).Nodup
 |_,_=>True
def VN:(l:List Sh)->TupR l->Prop
 |[],_=>True
 |[a],x=>uP a x
 |a::b::r,x=>uP a x.1/\VN (b::r) x.2
def PE.congr{p x y:List (α×β)}(h:PE p x)(e:x.Perm y):PE p y:=⟨h.1.trans e,((e.map (·.1)).nodup_iff).1 h.2⟩
def Rel.congr{t:Ty}{x y:t.T}(h:Rel w I t x cs)(e:A3V t x y):Rel w I t y cs:=by
 cases t<;>first|exact(show x=y from e)▸h|skip
 obtain⟨p,a,h⟩:=h;exact⟨p,a.congr e,h⟩
def ShV.congr{x y:s.T}(h:ShV P w I s x v bs)(e:uO s x y):ShV P w I s y v bs:=by
 cases s<;>first|exact(show x=y from e)▸h|skip
 .obtain⟨⟨c,h1,a⟩,b⟩:=h;exact⟨⟨c,h1,a.congr e⟩,b⟩
 .obtain⟨p,d,h⟩:=h;exact⟨p,d.congr e,h⟩
def ShL.congr:∀{l:List Sh} {x y:TupR l} {vs:List Value} {bs:List Nat},ShL P w I l x vs bs->fN l x y->ShL P w I l y vs bs:=by
 intro l;induction l with
 |nil=>intro x y vs bs h _;exact h
 |cons a l A=>
  intro x y vs bs h e;cases l with
  |nil=>obtain⟨v,h1,d⟩:=h;exact⟨v,h1,d.congr e⟩
  |cons b r=>obtain⟨v,j,m,p,h1,d,s,z⟩:=h;exact⟨v,j,m,p,h1,d,s.congr e.1,A z e.2⟩
def Rel.nod{t:Ty}{x:t.T}(h:Rel w I t x cs):TyN t x:=by
 cases t<;>first|exact trivial|skip
 obtain⟨p,a,h⟩:=h;exact a.2
def ShV.nod{x:s.T}(h:ShV P w I s x v bs):uP s x:=by
 cases s<;>first|exact trivial|skip
 .obtain⟨⟨c,h1,a⟩,e⟩:=h;exact a.nod
 .obtain⟨p,d,h⟩:=h;exact d.2
 .obtain⟨r,o,_,_,_,⟨m,⟨c,_,b⟩,_⟩,_⟩:=h;exact b.nod
def ShL.nod:∀{l:List Sh} {x:TupR l} {vs:List Value} {bs:List Nat},ShL P w I l x vs bs->VN l x:=by
 intro l;induction l with
 |nil=>intro x vs bs h;trivial
 |cons a l m=>
  intro x vs bs h;cases l with
  |nil=>obtain⟨v,h1,d⟩:=h;exact d.nod
  |cons b r=>obtain⟨v,p,s,y,h1,d,e,j⟩:=h;exact⟨e.nod,m j⟩
def OutS.congr{m:Nat}:∀{l:List (Ex×Kp)} {x y:H3 l},OutS P w I a e m bs l x->VM l x y->OutS P w I a e m bs l y:=by
 intro l;induction l with
 |nil=>intro x;exact Empty.elim x
 |cons o l s=>
  intro x y h k;cases l with
  |nil=>obtain⟨h1,b,d,j⟩:=h;exact⟨h1,b,d.congr k,j⟩
  |cons p r=>
   cases x with
   |inl x=>
    cases y with
    |inl y=>obtain⟨h1,b,d,j⟩:=h;exact⟨h1,b,d.congr k,j⟩
    |inr y=>exact k.elim
   |inr x=>
    cases y with
    |inl y=>exact k.elim
    |inr y=>exact s (x:=x) (y:=y) h k
def CutOK.canon{F0 F:TupR inn.sh->Option (H3 outs)}{d:NdS inn outs}
 (h:CutOK P dr N ⟨inn,outs,wrs,F0,al,some d,none⟩ c)(H:∀v x,VN inn.sh v->F v=some x->∀o,d.S v o->∃z,d.F v o=some z/\VM outs z x):
 CutOK P dr N ⟨inn,outs,wrs,F,al,none,none⟩ c:=by
 intro w I a v bs K l J j b m x p;have L:=b.nod;have p:F v=some x:=p;refine wp_mono (h w I a v bs K l J j b m λo s=>?_) λe a' Q ⟨o,z,s,M,h1,y,A,B,I',C,D⟩=>?_
 .grind
 .obtain⟨O,E,G⟩:=H v x L p o s;have e:z=O:=A2 (M.symm.trans E);subst e;exact⟨h1,y,A,B,I',C,D.congr G⟩
end
end Go.Ev
