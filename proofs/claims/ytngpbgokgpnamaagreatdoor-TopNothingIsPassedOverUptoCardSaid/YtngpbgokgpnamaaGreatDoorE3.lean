/-
  The evaluator's functions: a function of the program keeps what the evaluator says.
-/
import Derived.Test.YtngpbgokgpnamaaGreatDoorE2
set_option linter.all false
set_option maxRecDepth 100000
namespace Go.Ev
variable{k n el b id j i ty:Nat}{o:Oper}{bs:List Nat}{t:Ty}{cs vs vals ds:List Value}{a:Act}{s:SV}{v rv vx vk:Value}{I' I:Im}{ow:Nat->Prop}{fs:Nat->Option FSpec}{m:String}{r:OpRes}{args:List SV}{u:Upd}{as:Array Operand}{ts:Array TypeId}{ents:Array MapEntry}{bss:List (List Nat)}{h:Option (List Nat)}
variable [Pins]
section
variable{P:Program}{fr:Fr}{free free':Nat->Prop}{self:Nat}{σ σ':SSo}{w w':World}{G G':Gh}{I:Im}
theorem GW(σ:SSo)(a b:List (Nat×Option Obj)):EF σ (a++b)=EF (EF σ b) a:=by induction a<;>simp_all[List.cons_append,EF]
theorem FP(σ:SSo)(k:Nat)(o:Option Obj)(j:Nat):EF σ [(k,o)] j=if j=k then o else σ j:=by simp_all[EF,CM,if_neg,Nat.beq,BW,A4]
theorem TB:∀(s:Sh) (x:s.T) (n:Nat),(E_ s x n).nx=n+s.cnt:=by intro s;induction s<;>grind[E_,Sh.cnt]
def MemS.add(s:MemS P fr free σ w G)(hk:free k){o:Obj}(l:G'.im=G.im)
 (E:∀j,j≠k->G'.box j=G.box j/\G'.ety j=G.ety j/\∀g,G'.val j g=G.val j g)
 (J:GLe w G w G'->ObjOK P fr w G' k o)(H:∀b,Bk G' k o b->∀j d,σ j=some d->¬Bk G j d b):
 GLe w G w G'/\MemS P fr (λj=>free j/\j≠k) (EF σ [(k,some o)]) w G':=by
 have I:=s.fresh k hk;have m:GLe w G w G':=by
  refine⟨l▸Ext.refl _ _,λj g v h=>?_,λj t h=>?_,λj b h=>?_⟩
  .grind
  .grind
  .grind
 have a:∀j d,σ j=some d->∀{b},Bk G' j d b<->Bk G j d b:=λj d h=>H6 (s.objs j d h) m;refine⟨m,λj d h=>?_,λi j B C b hi p x y=>?_,l▸s.after,λj p=>?_⟩
 .rw[FP]at h;by_cases e:j=k
  .grind
  .rw[if_neg e]at h;exact(s.objs j d h).keep m λb _=>⟨rfl,λ_ h=>l▸h,λh=>l▸h⟩
 .rw[FP]at hi p;by_cases z:i=k<;>by_cases A:j=k
  .rw[z,A]
  .grind
  .grind
  .rw[if_neg z]at hi;rw[if_neg A]at p;rw[a i B hi]at x;rw[a j C p]at y;exact s.sep i j B C b hi p x y
 .have D:=s.fresh j p.1;simp_all[FP,if_neg,trans]
def MemS.ghost(d:MemS P fr free σ w G)(hk:free k)(v:Value):
 GLe w G w (G.addVal k 0 v)/\MemS P fr (λj=>free j/\j≠k) σ w (G.addVal k 0 v):=by
 have z:=d.fresh k hk;have a:GLe w G w (G.addVal k 0 v):=by refine⟨Ext.refl _ _,λj g u h=>?_,λj t h=>h,λj b h=>h⟩;have:j≠k:=λe=>oc;simp only[Gh.addVal,this,DC,CL];exact h
 refine⟨a,λj o h=>(d.objs j o h).keep a λb _=>⟨rfl,λ_ h=>h,λh=>h⟩,λi j s x b hi p l m=>?_,d.after,λj p=>?_⟩
 .rw[H6 (d.objs i s hi) a]at l;rw[H6 (d.objs j x p) a]at m;exact d.sep i j s x b hi p l m
 .have y:=d.fresh j p.1;simp_all[Gh.addVal,DC,CL]
structure Made(P:Program)(fr:Fr)(free:Nat->Prop)(σ:SSo)(w:World)(G:Gh)(n m:Nat)(obs:List (Nat×Option Obj))(bs:List Nat)(G':Gh):Prop where
 le:GLe w G w G'
 im:G'.im=G.im
 mem:MemS P fr (λj=>free j/\¬(n<=j/\j<m)) (EF σ obs) w G'
 own:∀j o b,EF σ obs j=some o->Bk G' j o b->b∈bs\/∃j' o',σ j'=some o'/\Bk G j' o' b
theorem Made.none(d:MemS P fr free σ w G):Made P fr free σ w G n n [] bs G:=
 ⟨GLe.refl _ _,rfl,d.shrink λ_ h=>h.1,λj o b h1 a=>.inr ⟨j,o,h1,a⟩⟩
def e_{wr:Bool}{x:List t.T}(C:MemS P fr free σ w G)(h:ShC P w G.im (.own el t wr) x cs bs)
 (y:∀b∈bs,fr.owned b/\∀j o,σ j=some o->¬Bk G j o b)(m:∀k,n<=k->k<n+(Sh.own el t wr).cnt->free k):
 ∃G',Made P fr free σ w G n (n+(Sh.own el t wr).cnt) (E_ (.own el t wr) x n).obs bs G'/\CR P w G' (E_ (.own el t wr) x n).sv cs/\Fit (E_ (.own el t wr) x n).sv (Sh.own el t wr).ty:=by
 have M:=m n (AD _) (by simp[Sh.cnt]);have O:∃v,cs=[v]/\v.oneCell'=true/\SlOK fr w G.im el t x wr v/\∀b a len,v=.slice (some ⟨b,0,none⟩) len a->b∈bs:=by
  rcases h with⟨rfl,h1,A⟩|⟨b,a,cells,rfl,rfl,h1,A,E,H,I,J,K⟩
  .exact⟨_,rfl,rfl,.inl ⟨rfl,h1⟩,λb a len e=>by cases e⟩
  .exact⟨_,rfl,rfl,.inr ⟨b,a,cells,rfl,h1,A,E,H,(y b oh).1,I,J,K⟩,λD a len e=>by cases e;simp⟩
 obtain⟨v,rfl,B,z,Q⟩:=O;let G':Gh:=(G.addVal n 0 v).addEty n t
 have l:G'.val n 0=some v:=by simp[G',Gh.addVal,Gh.addEty]
 have s:∀b,Bk G' n (.sl el t x 0 wr) b->b∈bs:=by
  intro b p;simp only[Bk,l]at p;rcases z with⟨rfl,_⟩|⟨D,a,cells,rfl,_⟩
  .cases p
  .grind
 have⟨h1,A⟩:=C.add (G':=G') (o:=.sl el t x 0 wr) M rfl (λj d=>⟨rfl,by simp[G',Gh.addVal,Gh.addEty,d],λg=>by simp[G',Gh.addVal,Gh.addEty,d]⟩)
  (λL=>⟨by simp[G',Gh.addVal,Gh.addEty],v,l,z⟩) (λb p j o N=>(y b (s b p)).2 j o N)
 refine⟨G',⟨h1,rfl,A.shrink λj d=>⟨d.1,λe=>d.2 (by subst e;simp[Sh.cnt])⟩,λj o b d p=>?_⟩,⟨v,l,B,rfl⟩,rfl⟩;have d:EF σ [(n,some (.sl el t x 0 wr))] j=some o:=d;rw[FP]at d;by_cases e:j=n
 .grind
 .rw[if_neg e]at d;exact .inr ⟨j,o,d,by rw[<-H6 (C.objs j o d) h1];exact p⟩
def AGj{a b:Ty}{x:List (a.T×b.T)}(D:MemS P fr free σ w G)(h:ShC P w G.im (.omap a b) x cs bs)
 (B:∀b∈bs,fr.owned b/\∀j o,σ j=some o->¬Bk G j o b)(z:∀k,n<=k->k<n+1->free k):
 ∃G',Made P fr free σ w G n (n+1) (E_ (.omap a b) x n).obs bs G'/\CR P w G' (E_ (.omap a b) x n).sv cs/\Fit (E_ (.omap a b) x n).sv (Sh.omap a b).ty:=by
 have M:=z n (AD _) oa;obtain⟨p,O,bl,ents,s,rfl,rfl,h1,E,H,I,J⟩:=h;let G':Gh:=G.addVal n 0 (.map (some bl))
 have l:G'.val n 0=some (.map (some bl)):=by simp[G',Gh.addVal]
 have m:∀c,Bk G' n (.mp a b x true) c->c=bl:=by intro c y;simp only[Bk,l,AK]at y;exact y.symm
 have A:=B bl oh
 have⟨C,K⟩:=D.add (G':=G') (o:=.mp a b x true) M rfl (λj d=>⟨rfl,rfl,λg=>by simp[G',Gh.addVal,d]⟩)
  (λL=>⟨_,l,p,O,bl,ents,s,rfl,h1,E,H,⟨λ_=>I,λh=>oq⟩,J,A.1⟩) (λc y j o N=>by rw[m c y];exact A.2 j o N)
 refine⟨G',⟨C,rfl,K.shrink λj d=>⟨d.1,λe=>d.2 (by subst e;omega)⟩,λj o c d y=>?_⟩,⟨_,l,rfl,rfl⟩,rfl⟩;have d:EF σ [(n,some (.mp a b x true))] j=some o:=d;rw[FP]at d;by_cases e:j=n
 .rw[if_pos e]at d;cases d;subst e;exact .inl (by rw[m c y];simp)
 .rw[if_neg e]at d;exact .inr ⟨j,o,d,by rw[<-H6 (D.objs j o d) C];exact y⟩
theorem AGk{a b:Ty}{x:List (a.T×List b.T)}(H:MemS P fr free σ w G)(h:ShC P w G.im (.og id a b) x cs bs)(I:bs.Nodup)
 (z:∀b∈bs,fr.owned b/\∀j o,σ j=some o->¬Bk G j o b)(l:∀k,n<=k->k<n+2->free k):
 ∃G',Made P fr free σ w G n (n+2) (E_ (.og id a b) x n).obs bs G'/\CR P w G' (E_ (.og id a b) x n).sv cs/\Fit (E_ (.og id a b) x n).sv (Sh.og id a b).ty:=by
 obtain⟨bl,ents,s,A,rfl,rfl,h1,Q,R,N,T,U,V⟩:=h;have C:∀u∈A,∃v,u=HS v:=by intro u hu;have⟨i,hi⟩:=BN hu;have x1:i<A.length:=(A3.1 hi).1;obtain⟨y,hy⟩:∃y,(show List (a.T×List b.T)from x)[i]?=some y:=⟨_,A1 oa⟩;obtain⟨e,Y⟩:∃e,ents[i]?=some e:=⟨_,AU oa⟩;exact⟨_,(N i y e u hy Y hi).2.2⟩
 have⟨B,K⟩:=H.ghost (l (n+1) oa oa) (.tuple A.toArray);let G1:Gh:=G.addVal (n+1) 0 (.tuple A.toArray)
 have K:MemS P fr (λj=>free j/\j≠n+1) σ w G1:=K;have B:GLe w G w G1:=B;let G':Gh:=G1.addVal n 0 (.map (some bl))
 have p:G'.val n 0=some (.map (some bl)):=by simp[G',Gh.addVal]
 have J:G'.val (n+1) 0=some (.tuple A.toArray):=by simp[G',G1,Gh.addVal]
 have Z:G'.im=G.im:=rfl;have D:∀c,Bk G' n (.mg id a b x none (n+1)) c->c∈bl::A.filterMap ON:=by
  intro c m;rcases m with m|⟨x2,E,m⟩
  .grind
  .grind[List.mem_cons_of_mem,VI]
 have⟨E,W⟩:=K.add (G':=G') (o:=.mg id a b x none (n+1)) (k:=n) ⟨l n (AD _) oa,oa⟩ rfl (λj d=>⟨rfl,rfl,λg=>by simp[G',Gh.addVal,d]⟩)
  (λx0=>⟨_,A.toArray,p,J,bl,ents,s,rfl,h1,Q,by simpa using R,λi y e u L M q3=>by have⟨r1,r2,r3⟩:=N i y e u L M (by simpa using q3);refine⟨r1,.inr ⟨r2.own λc m=>(z c (AN _ ((VI C).2 ?_))).1,r3⟩⟩;grind,λi j c L M=>AGa C (AV.1 I).2 (by simpa using L) (by simpa using M),T,U,V,(z bl AE).1⟩)
  (λc m j o O X=>(z c (D c m)).2 j o O (by rw[<-H6 (H.objs j o O) B];exact X))
 refine⟨G',⟨B.trans E,rfl,W.shrink λj d=>⟨⟨d.1,λe=>d.2 (by subst e;omega)⟩,λe=>d.2 (by subst e;omega)⟩,λj o c d m=>?_⟩,⟨_,p,rfl,rfl⟩,rfl⟩;have d:EF σ [(n,some (.mg id a b x none (n+1)))] j=some o:=d;rw[FP]at d;by_cases e:j=n
 .grind
 .rw[if_neg e]at d;exact .inr ⟨j,o,d,by rw[<-H6 (H.objs j o d) (B.trans E)];exact m⟩
theorem A2l{ids:List Nat}{x:(E2 ids t).T}(E:MemS P fr free σ w G)(h:ShC P w G.im (.dp ids t) x cs bs)(H:bs.Nodup)
 (y:∀b∈bs,fr.owned b/\∀j o,σ j=some o->¬Bk G j o b)(d:∀k,n<=k->k<n+2->free k):
 ∃G',Made P fr free σ w G n (n+2) (E_ (.dp ids t) x n).obs bs G'/\CR P w G' (E_ (.dp ids t) x n).sv cs/\Fit (E_ (.dp ids t) x n).sv (Sh.dp ids t).ty:=by
 obtain⟨O,B⟩:=h;cases ids with
 |nil=>grind
 |cons id r=>
  have B:=B.own (ow':=fr.owned) λb C=>(y b C).1;have D:=B;obtain⟨v,rfl,I,_⟩:=D;have⟨m,J⟩:=E.ghost (d (n+1) oa oa) (.tuple (List.map IK bs).toArray);let G1:Gh:=G.addVal (n+1) 0 (.tuple (List.map IK bs).toArray)
  have J:MemS P fr (λj=>free j/\j≠n+1) σ w G1:=J;have m:GLe w G w G1:=m;let G':Gh:=(G1.addVal n 0 v).addEty n (E2 r t)
  have l:G'.val n 0=some v:=by simp[G',Gh.addVal,Gh.addEty]
  have A:G'.val (n+1) 0=some (.tuple (List.map IK bs).toArray):=by simp[G',G1,Gh.addVal,Gh.addEty]
  have M:G'.im=G.im:=rfl;have s:∀c,Bk G' n (.dp (id::r) t x (n+1) none true) c->c∈bs:=by rintro c ⟨_,Q,p,z⟩;rw[A]at p;cases p;exact(MV (bs:=bs) oh).1 z
  have⟨p,L⟩:=J.add (G':=G') (o:=.dp (id::r) t x (n+1) none true) (k:=n) ⟨d n (AD _) oa,oa⟩ rfl (λj a=>⟨rfl,by simp[G',Gh.addVal,Gh.addEty,a],λg=>by simp[G',Gh.addVal,Gh.addEty,a]⟩)
   (λN=>⟨ou,by simp[G',Gh.addVal,Gh.addEty],v,_,bs,l,A,oh,H,B,trivial⟩)
   (λc z j o K C=>(y c (s c z)).2 j o K (by rw[<-H6 (E.objs j o K) m];exact C))
  refine⟨G',⟨m.trans p,rfl,L.shrink λj a=>⟨⟨a.1,λe=>a.2 (by subst e;omega)⟩,λe=>a.2 (by subst e;omega)⟩,λj o c a z=>?_⟩,⟨_,l,I,rfl⟩,rfl⟩;have a:EF σ [(n,some (.dp (id::r) t x (n+1) none true))] j=some o:=a;rw[FP]at a;by_cases e:j=n
  .grind
  .rw[if_neg e]at a;exact .inr ⟨j,o,a,by rw[<-H6 (E.objs j o a) (m.trans p)];exact z⟩
theorem LL:∀{s:Sh} {x:s.T} {n:Nat} {free:Nat->Prop} {σ:SSo} {G:Gh} {cs:List Value} {bs:List Nat},MemS P fr free σ w G->ShC P w G.im s x cs bs->bs.Nodup->
 (∀b∈bs,fr.owned b/\∀j o,σ j=some o->¬Bk G j o b)->(∀k,n<=k->k<n+s.cnt->free k)->
 ∃G',Made P fr free σ w G n (n+s.cnt) (E_ s x n).obs bs G'/\CR P w G' (E_ s x n).sv cs/\Fit (E_ s x n).sv s.ty:=by
 intro s;induction s with
 |val t=>intro x n free σ G cs bs A h _ _ _;exact⟨G,Made.none A,h.1,rfl⟩
 |hof d c=>intro x n free σ G cs bs A h _ _ _;exact⟨G,Made.none A,h.2,rfl⟩
 |fn f=>intro x n free σ G cs bs A h _ _ _;exact⟨G,Made.none A,⟨#[],h.2,rfl⟩,rfl⟩
 |nilS=>intro x n free σ G cs bs A h _ _ _;exact⟨G,Made.none A,h.2,rfl⟩
 |nns e=>intro x n free σ G cs bs A h _ _ _;exact⟨G,Made.none A,h.2,rfl⟩
 |mns e=>intro x n free σ G cs bs A h _ _ _;exact⟨G,Made.none A,h.2,rfl⟩
 |any=>intro x n free σ G cs bs A h _ _ _;exact absurd h id
 |it a b=>intro x n free σ G cs bs A h _ _ _;exact absurd h id
 |tr s _=>intro x n free σ G cs bs A h _ _ _;exact absurd h id
 |bld el c=>
  intro x n free σ G cs bs A h E m l;obtain⟨b,cells,h8,p,q,X,rfl,rfl,h1,M,I,hp,J,h5,h6⟩:=h;have B:=AV.1 E;have Z:ShC P w G.im (.own el (.int .u8) true) x [q] X:=by
   rcases h6 with⟨rfl,k1,k2⟩|⟨g,h7,gc,rfl,k1,k2,k3,k4,k5,k6,k7⟩
   .exact .inl ⟨rfl,k1,k2⟩
   .exact .inr ⟨g,h7,gc,rfl,k1,k2,k3,k4,k5,(λ_=>k6),(λh=>oq),k7⟩
  have⟨G1,D,r1,f1⟩:=e_ (n:=n+1) A Z (λb C=>m b (AN _ C)) (λk h1 I=>l k oa (by simp only[Sh.cnt]at I ⊢;omega));let G2:Gh:=G1.addBox n b GS
  have y:G2.box n=some (b,GS):=by simp[G2,Gh.addBox]
  have L:=m b AE;have H:G2.im=G.im:=D.im;have x0:cells.size=2:=by rw[<-BG,I];rfl
  have⟨q1,q2⟩:=D.mem.add (G':=G2) (o:=.box GS (.pr (.slf n) (.obj (n+1) 0)) true) (k:=n) ⟨l n (AD _) (by simp only[Sh.cnt];omega),by simp only[Sh.cnt];omega⟩ rfl
   (λj z=>⟨by simp[G2,Gh.addBox,z],rfl,λ_=>rfl⟩)
   (λU=>⟨b,cells,h8,y,h1,x0,⟨_,_,rfl,rfl,f1⟩,⟨[p],[q],I,⟨b,GS,y,by rcases hp with rfl|rfl<;>simp⟩,r1.mono U⟩,⟨λ_ o=>by rw[H];exact J o,λh=>oq⟩,by rw[H];exact h5,L.1,λ_=>M⟩)
   (λO K j o Y T=>by
    simp only[Bk,y,BH,AK]at K;subst K;rcases D.own j o b Y T with h|⟨V,W,N,J⟩
    .exact B.1 h
    .exact L.2 V W N J)
  have Q:(E_ (.bld el c) x n).obs=[(n,some (.box GS (.pr (.slf n) (.obj (n+1) 0)) true))]++(E_ (.own el (.int .u8) true) x (n+1)).obs:=rfl;have R:(Sh.own el (.int .u8) true).cnt=1:=rfl;rw[R]at D;rw[R]at q2;refine⟨G2,⟨D.le.trans q1,H,?_,?_⟩,⟨b,GS,0,y,rfl,⟨GS,rfl,rfl⟩,rfl⟩,rfl⟩
  .rw[Q,GW];exact q2.shrink λj z=>⟨⟨z.1,λe=>z.2 ⟨oa,by simp only[Sh.cnt];omega⟩⟩,λe=>z.2 ⟨oa,by simp only[Sh.cnt];omega⟩⟩
  .intro j o O z C;rw[Q,GW,FP]at z;by_cases e:j=n
   .rw[if_pos e]at z;cases z;subst e;simp only[Bk,y,BH,AK]at C;subst C;exact .inl AE
   .rw[if_neg e]at z;rw[H6 (D.mem.objs j o z) q1]at C;rcases D.own j o O z C with h|h
    .exact .inl (AN _ h)
    .exact .inr h
 |own el t wr=>intro x n free σ G cs bs A h _ m l;exact e_ A h m l
 |io el t=>intro x n free σ G cs bs A h _ m l;exact e_ (wr:=true) A h m l
 |omap a b=>intro x n free σ G cs bs A h _ m l;exact AGj A h m l
 |og id a b=>intro x n free σ G cs bs A h E m l;exact AGk A h E m l
 |fz t=>intro x n free σ G cs bs A h _ _ _;exact⟨G,Made.none A,h.1,rfl⟩
 |dp x5 t=>intro x n free σ G cs bs A h E m l;exact A2l A h E m l
 |pr a b x1 x2=>
  intro x n free σ G cs bs A h E m l;obtain⟨c,d,x3,x4,rfl,rfl,h1,I⟩:=h;have B:=AY.1 E;have⟨G1,D,r1,f1⟩:=x2 (n:=n+a.cnt) A I B.2.1 (λb C=>m b (BP _ C)) (λk h1 I=>l k oa (by simp only[Sh.cnt];omega));obtain ⟨G2,m2,r2,f2⟩:=x1 (n:=n) (cs:=c) D.mem (by rw [D.im]; exact h1) B.1 (λb C=>⟨(m b (BV _ C)).1,λj o Y h9=>by
   rcases D.own j o b Y h9 with h|⟨V,W,N,J⟩
   .exact B.2.2 b C b h rfl
   .exact(m b (BV _ C)).2 V W N J⟩) (λk h1 I=>⟨l k h1 (by simp only[Sh.cnt];omega),oa⟩)
  have Q:(E_ (.pr a b) x n).obs=(E_ a x.1 n).obs++(E_ b x.2 (n+a.cnt)).obs:=by show(E_ a x.1 n).obs++(E_ b x.2 (E_ a x.1 n).nx).obs=_;rw[TB]
  have e2:(E_ (.pr a b) x n).sv=.pr (E_ a x.1 n).sv (E_ b x.2 (n+a.cnt)).sv:=by show SV.pr (E_ a x.1 n).sv (E_ b x.2 (E_ a x.1 n).nx).sv=_;rw[TB]
  refine⟨G2,⟨D.le.trans m2.le,m2.im.trans D.im,?_,?_⟩,?_,?_⟩
  .rw[Q,GW];refine m2.mem.shrink λj z=>⟨⟨z.1,λe=>z.2 ⟨oa,by simp only[Sh.cnt];omega⟩⟩,λe=>z.2 ⟨e.1,by simp only[Sh.cnt];omega⟩⟩
  .intro j o O z C;rw[Q,GW]at z;rcases m2.own j o O z C with h|⟨V,W,N,J⟩
   .exact .inl (BV _ h)
   .rcases D.own V W O N J with h|h
    .exact .inl (BP _ h)
    .exact .inr h
  .rw[e2];exact⟨c,d,rfl,r2,r1.mono m2.le⟩
  .rw[e2];exact⟨a.ty,b.ty,rfl,f2,f1⟩
 |box c ih=>
  intro x n free σ G cs bs A h E m l;obtain⟨b,cells,el,X,rfl,rfl,h1,I,N,J,h5,M⟩:=h;have B:=AV.1 E;have⟨G1,D,r1,f1⟩:=ih (n:=n+1) A N B.2 (λb C=>m b (AN _ C)) (λk h1 I=>l k oa (by simp only[Sh.cnt];omega));let G2:Gh:=G1.addBox n b c.ty
  have y:G2.box n=some (b,c.ty):=by simp[G2,Gh.addBox]
  have L:=m b AE;have H:G2.im=G.im:=D.im
  have⟨q1,q2⟩:=D.mem.add (G':=G2) (o:=.box c.ty (E_ c x (n+1)).sv true) (k:=n) ⟨l n (AD _) (by simp only[Sh.cnt];omega),oa⟩ rfl
   (λj z=>⟨by simp[G2,Gh.addBox,z],rfl,λ_=>rfl⟩)
   (λU=>⟨b,cells,el,y,h1,I,f1,r1.mono U,⟨λ_ o=>by rw[H];exact J o,λh=>oq⟩,by rw[H];exact h5,L.1,M⟩)
   (λO K j o Y T=>by
    simp only[Bk,y,BH,AK]at K;subst K;rcases D.own j o b Y T with h|⟨V,W,N,J⟩
    .exact B.1 h
    .exact L.2 V W N J)
  have Q:(E_ (.box c) x n).obs=[(n,some (.box c.ty (E_ c x (n+1)).sv true))]++(E_ c x (n+1)).obs:=rfl;refine⟨G2,⟨D.le.trans q1,H,?_,?_⟩,⟨b,c.ty,0,y,by cases c.ty<;>rfl,⟨c.ty,by cases c.ty<;>rfl,rfl⟩,rfl⟩,rfl⟩
  .rw[Q,GW];exact q2.shrink λj z=>⟨⟨z.1,λe=>z.2 ⟨oa,by simp only[Sh.cnt];omega⟩⟩,λe=>z.2 ⟨oa,by simp only[Sh.cnt];omega⟩⟩
  .intro j o O z C;rw[Q,GW,FP]at z;by_cases e:j=n
   .rw[if_pos e]at z;cases z;subst e;simp only[Bk,y,BH,AK]at C;subst C;exact .inl AE
   .rw[if_neg e]at z;rw[H6 (D.mem.objs j o z) q1]at C;rcases D.own j o O z C with h|h
    .exact .inl (AN _ h)
    .exact .inr h
theorem A2m{s:Sh}{x:s.T}(z:MemS P fr free σ w G)(h:ShV P w G.im s x v bs)(p:bs.Nodup)
 (m:∀b∈bs,fr.owned b/\∀j o,σ j=some o->¬Bk G j o b)(l:∀k,n<=k->k<n+s.cnt->free k):
 ∃G',Made P fr free σ w G n (n+s.cnt) (E_ s x n).obs bs G'/\SR P w G' (E_ s x n).sv v:=by
 cases s with
 |val t=>obtain⟨h1,rfl⟩:=h;exact⟨G,Made.none z,h1⟩
 |fz t=>obtain⟨h1,rfl⟩:=h;exact⟨G,Made.none z,h1⟩
 |pr a b=>exact absurd h id
 |own el t wr=>obtain⟨G',h1,y,_⟩:=LL (s:=.own el t wr) z h p m l;exact⟨G',h1,[v],rfl,y⟩
 |io el t=>obtain⟨G',h1,y,_⟩:=LL (s:=.io el t) z h p m l;exact⟨G',h1,[v],rfl,y⟩
 |omap a b=>obtain⟨G',h1,y,_⟩:=LL (s:=.omap a b) z h p m l;exact⟨G',h1,[v],rfl,y⟩
 |og id a b=>obtain⟨G',h1,y,_⟩:=LL (s:=.og id a b) z h p m l;exact⟨G',h1,[v],rfl,y⟩
 |dp B t=>obtain⟨G',h1,y,_⟩:=LL (s:=.dp B t) z h p m l;exact⟨G',h1,[v],rfl,y⟩
 |box c=>obtain⟨G',h1,y,_⟩:=LL (s:=.box c) z h p m l;exact⟨G',h1,[v],rfl,y⟩
 |hof nd d c=>obtain⟨G',h1,y,_⟩:=LL (s:=.hof nd d c) z h p m l;exact⟨G',h1,[v],rfl,y⟩
 |fn f=>obtain⟨G',h1,y,_⟩:=LL (s:=.fn f) z h p m l;exact⟨G',h1,[v],rfl,y⟩
 |nilS=>obtain⟨G',h1,y,_⟩:=LL (s:=.nilS) z h p m l;exact⟨G',h1,[v],rfl,y⟩
 |nns e=>obtain⟨G',h1,y,_⟩:=LL (s:=.nns e) z h p m l;exact⟨G',h1,[v],rfl,y⟩
 |mns e=>obtain⟨G',h1,y,_⟩:=LL (s:=.mns e) z h p m l;exact⟨G',h1,[v],rfl,y⟩
 |any=>exact⟨G,Made.none z,[v],rfl,trivial⟩
 |it a b=>exact⟨G,Made.none z,[v],rfl,trivial⟩
 |tr s=>
  obtain⟨D,cs,rfl,A,h⟩:=h;obtain⟨G',h1,y,C⟩:=LL (s:=s) (x:=x) (n:=n) z h p m l;cases s<;>first|(cases D;done)|skip
  rename_i a b;exact⟨G',h1,_,rfl,cs,rfl,⟨a.ty,b.ty,rfl,C⟩,A,y⟩
 |bld el c=>obtain⟨G',h1,y,_⟩:=LL (s:=.bld el c) z h p m l;exact⟨G',h1,[v],rfl,y⟩
def tN:∀{l:List Sh} {x:TupR l} {n:Nat} {free:Nat->Prop} {vs:List Value} {bs:List Nat},MemS P fr free σ w G->ShL P w G.im l x vs bs->bs.Nodup->
 (∀b∈bs,fr.owned b/\∀j o,σ j=some o->¬Bk G j o b)->(∀k,n<=k->k<n+GG l->free k)->
 ∃G',Made P fr free σ w G n (n+GG l) ((FE l x n).flatMap (·.obs)) bs G'/\vs.length=l.length/\(FE l x n).length=l.length/\
  ∀(j:Nat) (m:Mk) (v:Value),(FE l x n)[j]?=some m->vs[j]?=some v->SR P w G' m.sv v:=by
 intro l;induction l with
 |nil=>intro x n free vs bs H h _ _ _;obtain⟨rfl,rfl⟩:=h;exact⟨G,Made.none H,rfl,rfl,λj m v h=>by simp[FE]at h⟩
 |cons a l V=>
  intro x n free vs bs H h C y d;cases l with
  |nil=>
   obtain⟨v,rfl,h1⟩:=h;have⟨G',z,I⟩:=A2m (n:=n) H h1 C y (λk h1 z=>d k h1 (by assumption));refine⟨G',?_,rfl,rfl,λj m Q p M=>?_⟩
   .have E:(FE [a] x n).flatMap (·.obs)=(E_ a x n).obs:=by show([E_ a x n]:List Mk).flatMap (·.obs)=_;simp
    rw[E];exact z
   .cases j with
    |zero=>cases p;grind
    |succ j=>cases p
  |cons b l=>
   obtain⟨v,Y,R,T,rfl,rfl,h1,z⟩:=h;have s:=AY.1 C;have⟨G1,A,W,Z,X⟩:=V (x:=x.2) (n:=n+a.cnt) H z s.2.1 (λb B=>y b (BP _ B)) (λk h1 z=>d k oa (by grind[GG]));obtain ⟨G2,D,r2⟩:=A2m (s:=a) (x:=x.1) (n:=n) (v:=v) A.mem (by rw [A.im]; exact h1) s.1 (λb B=>⟨(y b (BV _ B)).1,λj o U J=>by rcases A.own j o b U J with h|⟨N,O,I,L⟩<;>grind⟩) (λk h1 z=>⟨d k h1 (by simp only[GG];omega),oa⟩)
   have e0:FE (a::b::l) x n=E_ a x.1 n::FE (b::l) x.2 (n+a.cnt):=by show E_ a x.1 n::FE (b::l) x.2 (E_ a x.1 n).nx=_;rw[TB]
   have E:(FE (a::b::l) x n).flatMap (·.obs)=(E_ a x.1 n).obs++(FE (b::l) x.2 (n+a.cnt)).flatMap (·.obs):=by rw[e0,List.flatMap_cons]
   refine⟨G2,⟨A.le.trans D.le,D.im.trans A.im,?_,?_⟩,by simp[W],oc,λj m Q p M=>?_⟩
   .rw[E,GW];exact D.mem.shrink λj p=>⟨⟨p.1,λe=>p.2 ⟨oa,by grind[GG]⟩⟩,λe=>p.2 ⟨e.1,by simp only[GG];omega⟩⟩
   .intro j o K p B;rw[E,GW]at p;rcases D.own j o K p B with h|⟨N,O,I,L⟩
    .grind
    .rcases A.own N O K I L with h|h<;>grind
   .rw[e0]at p;cases j with
    |zero=>grind
    |succ j=>exact(X j m Q (by simpa using p) (by simpa using M)).mono D.le
end
def OP:(a b:List Sh)->TupR (a++b)->TupR a×TupR b
 |[],_,x=>((),x)
 |[_],[],x=>(x,())
 |[_],_::_,x=>(x.1,x.2)
 |_::s::a,b,x=>((x.1,(OP (s::a) b x.2).1),(OP (s::a) b x.2).2)
section
variable{P:Program}{fr:Fr}{free free':Nat->Prop}{self:Nat}{σ σ':SSo}{w w':World}{G G':Gh}{I:Im}
def ShL.split:∀{a b:List Sh} {x:TupR (a++b)} {vs j:List Value} {bs:List Nat},vs.length=a.length->ShL P w I (a++b) x (vs++j) bs->
 ∃m p,bs=m++p/\ShL P w I a (OP a b x).1 vs m/\ShL P w I b (OP a b x).2 j p:=by
 intro a;induction a with
 |nil=>intro b x vs j bs y h;have:vs=[]:=AF y;subst this;exact⟨[],bs,rfl,⟨rfl,rfl⟩,h⟩
 |cons s a J=>
  intro b x vs j bs y h;cases vs with
  |nil=>cases y
  |cons v vs=>
   cases a with
   |nil=>
    have:vs=[]:=AF (by simpa using y);subst this;cases b with
    |nil=>
     obtain⟨l,h1,d⟩:=h;have z:j=[]/\v=l:=by have:v::j=[l]:=h1;injection this with h1 d;exact⟨d,h1⟩
     obtain⟨rfl,rfl⟩:=z;exact⟨bs,[],oh,⟨v,rfl,d⟩,⟨rfl,rfl⟩⟩
    |cons c b=>
     obtain⟨l,e,m,p,h1,d,A,B⟩:=h;have z:j=e/\v=l:=by have:v::j=l::e:=h1;injection this with h1 d;exact⟨d,h1⟩
     obtain⟨rfl,rfl⟩:=z;exact⟨m,p,d,⟨v,rfl,A⟩,B⟩
   |cons K a=>
    obtain⟨l,e,m,p,h1,d,A,B⟩:=h;have z:vs++j=e/\v=l:=by have:v::(vs++j)=l::e:=h1;injection this with h1 d;exact⟨d,h1⟩
    obtain⟨rfl,rfl⟩:=z;have⟨C,D,E,G,H⟩:=J (by simpa using y) B;exact⟨m++C,D,by rw[d,E,C1],⟨v,vs,m,C,rfl,rfl,A,G⟩,H⟩
def fA:∀{a b:List Sh} {x:TupR (a++b)} {n:Nat},FE (a++b) x n=FE a (OP a b x).1 n++FE b (OP a b x).2 (n+GG a):=by
 intro a;induction a with
 |nil=>intro b x n;rfl
 |cons s a e=>
  intro b x n;cases a with
  |nil=>
   cases b with
   |nil=>rfl
   |cons c b=>show E_ s x.1 n::FE (c::b) x.2 (E_ s x.1 n).nx=[E_ s x.1 n]++FE (c::b) x.2 (n+(s.cnt+0));rw[TB];rfl
  |cons d a=>show E_ s x.1 n::FE (d::a++b) x.2 (E_ s x.1 n).nx=(E_ s x.1 n::FE (d::a) _ (E_ s x.1 n).nx)++FE b _ (n+(s.cnt+GG (d::a)));rw[TB,e,<-CN];rfl
theorem PV{ks:List Nat}:EF σ (gone ks) j=if j∈ks then none else σ j:=by
 induction ks with
 |nil=>rfl
 |cons k ks a=>simp only[gone,EF,A_];by_cases h:j=k<;>simp_all
theorem TC{o:Obj}(h:ObjOK P fr w G k o)(d:Bk G k o b):fr.owned b:=by
 cases o with
 |box t c wr=>obtain⟨s,cs,el,h1,_,_,_,_,_,_,I⟩:=h;simp only[Bk,h1,BH,AK]at d;subst d;exact I.1
 |sl el t O g wr=>
  obtain⟨_,v,h1,l⟩:=h;simp only[Bk,h1]at d;rcases l with⟨rfl,_⟩|⟨s,D,cs,rfl,_,_,_,_,e,_⟩
  .cases d
  .cases d;exact e
 |mp a s A wr=>obtain⟨v,h1,p,M,C,ents,j,rfl,_,_,_,_,_,e⟩:=h;simp only[Bk,h1,AK]at d;subst d;exact e
 |mg id a t A tk E=>
  obtain⟨v,K,h1,l,e⟩:=h;rcases d with d|⟨z,m,d⟩
  .obtain⟨s,ents,j,rfl,_,_,_,_,_,_,_,_,B⟩:=e;rw[h1]at d;cases d;exact B
  .rw[l]at m;cases m;have⟨x,N,k1,J⟩:=e.own d;exact(k1.slice J).2.1
 |dp y t x E L wr=>
  obtain⟨rfl,z,m,d⟩:=d;cases y with
  |nil=>exact absurd h id
  |cons id r=>have⟨_,_,v,K,bs,h1,l,e,B,H⟩:=DpOK.inv h;rw[l]at m;cases m;exact(H.blk b ((MV e).1 d)).2.1
 |it a s A=>obtain⟨r,o,h1,_,_,_,_,e⟩:=h;simp only[Bk,h1,AK]at d;subst d;exact e
def MemS.sub(d:MemS P fr free σ w G)(a:∀k o,σ' k=some o->σ k=some o):MemS P fr free σ' w G:=
 ⟨λk o h=>d.objs k o (a k o h),λi j o l b h1 e=>d.sep i j o l b (a i o h1) (a j l e),d.after,λk hk=>by have⟨h1,e⟩:=d.fresh k hk;refine⟨?_,e⟩;cases h:σ' k<;>grind⟩
def MemS.called(p:MemS P fr free σ w G){ks:List Nat}(K:BlksOf σ G ks bs)(x:After (·∈bs) w G.im w' I'):
 GLe w G w' {G with im:=I'}/\MemS P fr free (EF σ (gone ks)) w' {G with im:=I'}:=by
 have z:GLe w G w' {G with im:=I'}:=⟨x.ext,λ_ _ _ h=>h,λ_ _ h=>h,λ_ _ h=>h⟩;have e:∀j o,EF σ (gone ks) j=some o->j ∉ ks/\σ j=some o:=by
  intro j o h;rw[PV]at h;by_cases D:j∈ks
  .grind
  .grind
 refine⟨z,λj o h=>?_,λi j o s b h1 L B C=>?_,?_,λj D=>?_⟩
 .obtain⟨D,A⟩:=e j o h;refine(p.objs j o A).keep z λb y=>?_;have E:=LK (p.objs j o A) y;have H:b ∉ bs:=λl=>by have⟨k,hk,s,a,m⟩:=K b l;have:=p.sep j k o s b A a y m;grind
  refine⟨x.heap b E H,λJ d=>?_,λd=>?_⟩
  .rcases x.newC b J d with h|h|h<;>grind
  .rcases x.newO b d with h|h|h<;>grind
 .obtain⟨_,A⟩:=e i o h1;have⟨_,a⟩:=e j s L;exact p.sep i j o s b A a B C
 .refine p.after.trans x λb l=>?_;have⟨k,hk,s,a,m⟩:=K b l;exact(TC (p.objs k s a) m).symm
 .have M:=p.fresh j D;grind[PV]
def MemS.back(m:MemS P fr free σ w G){c:SV}(d:G.box k=some (b,t)){wr:Bool}(H:ObjOK P fr w G k (.box t c wr))(E:∀j A,σ j=some A->¬Bk G j A b):
 MemS P fr free (EF σ [(k,some (.box t c wr))]) w G:=by
 have z:∀{a},Bk G k (.box t c wr) a->b=a:=by intro a h;simpa[Bk,d]using h
 refine⟨λj o h=>?_,λi j C D a hi l p s=>?_,m.after,λj l=>?_⟩
 .rw[FP]at h;by_cases e:j=k
  .grind
  .rw[if_neg e]at h;exact m.objs j o h
 .rw[FP]at hi l;by_cases x:i=k<;>by_cases y:j=k
  .rw[x,y]
  .grind
  .grind
  .rw[if_neg x]at hi;rw[if_neg y]at l;exact m.sep i j C D a hi l p s
 .have B:=m.fresh j l;refine⟨?_,B.2⟩;rw[FP,if_neg (λe=>?_)]<;>grind
def MemS.backO(d:MemS P fr free σ w G){o:Obj}(E:ObjOK P fr w G k o)(A:¬free k)(D:∀b,Bk G k o b->∀j l,σ j=some l->¬Bk G j l b):
 MemS P fr free (EF σ [(k,some o)]) w G:=by
 refine⟨λj l h=>?_,λi j B C y hi a m p=>?_,d.after,λj a=>?_⟩
 .rw[FP]at h;by_cases e:j=k
  .grind
  .rw[if_neg e]at h;exact d.objs j l h
 .rw[FP]at hi a;by_cases s:i=k<;>by_cases x:j=k
  .rw[s,x]
  .grind
  .grind
  .rw[if_neg s]at hi;rw[if_neg x]at a;exact d.sep i j B C y hi a m p
 .have z:=d.fresh j a;refine⟨?_,z.2⟩;rw[FP,if_neg (λe=>?_)]<;>grind
def BoxArgs(G:Gh):List Sh→List SV→List Value→Prop
 | .box c::ps,s::ss,v::vs=>(∃k u b,s=.ptr k [] u/\G.box k=some (b,c.ty)/\v=.pointer (some ⟨b,0,none⟩))/\BoxArgs G ps ss vs
 | .bld _ false::ps,s::ss,v::vs=>(∃k u b,s=.ptr k [] u/\G.box k=some (b,GS)/\v=.pointer (some ⟨b,0,none⟩))/\BoxArgs G ps ss vs
 | .io _ t::ps,s::ss,v::vs=>((∃k,s=.obj k 0/\G.val k 0=some v/\G.ety k=some t)\/(s=.nilS/\v=.slice none 0 0))/\BoxArgs G ps ss vs
 |_::ps,_::ss,_::vs=>BoxArgs G ps ss vs
 |_,_,_=>True
theorem AGl:∀{ps:List Sh} {ss:List SV} {vals:List Value} {r:TupR (ps.filter EU)} {n:Nat} {bs:List Nat} {free:Nat->Prop},MemS P fr free σ w G->ss.length=ps.length->vals.length=ps.length->
 BoxArgs G ps ss vals->ShL P w G.im (ps.filter EU) r (I7 ps vals) bs->bs.Nodup->
 (∀b∈bs,fr.owned b/\∀j o,σ j=some o->¬Bk G j o b)->(∀k,n<=k->k<n+GG (ps.filter EU)->free k)->
 ∃G',Made P fr free σ w G n (n+GG (ps.filter EU)) (IJ ps ss (FE (ps.filter EU) r n)) bs G':=by
 intro ps;induction ps with
 |nil=>
  intro ss vals r n bs free hm _ _ _ h _ _ _;obtain⟨_,rfl⟩:=h;have:IJ [] ss (FE ([]:List Sh) r n)=[]:=by cases ss<;>rfl
  refine⟨G,?_⟩;show Made P fr free σ w G n n (IJ [] ss (FE ([]:List Sh) r n)) [] G;grind[Made.none]
 |cons p ps ih=>
  intro ss vals r n bs free hm X Y h5 h h9 R l;cases ss with
  |nil=>cases X
  |cons s ss=>
   cases vals with
   |nil=>cases Y
   |cons v vals=>
    cases p with
    |box c=>
     obtain⟨⟨k,u,b,rfl,h6,rfl⟩,Q⟩:=h5
     have B:∃(x:c.T) (I:TupR (ps.filter EU)) (J O:List Nat),bs=J++O/\ShC P w G.im (.box c) x [.pointer (some ⟨b,0,none⟩)] J/\ShL P w G.im (ps.filter EU) I (I7 ps vals) O/\
      FE ((Sh.box c::ps).filter EU) r n=E_ (.box c) x n::FE (ps.filter EU) I (n+(c.cnt+1)):=by
      have h:ShL P w G.im ([Sh.box c]++ps.filter EU) r ([.pointer (some ⟨b,0,none⟩)]++I7 ps vals) bs:=h;obtain⟨J,O,z,h1,M⟩:=h.split rfl;obtain⟨v',W,H⟩:=h1;have W:Value.pointer (some ⟨b,0,none⟩)=v':=by injection W
      subst W;refine⟨_,_,J,O,z,H,M,?_⟩;exact fA (a:=[Sh.box c]) (b:=ps.filter EU) (x:=r) (n:=n)
     obtain⟨x,I,J,O,rfl,h1,M,H⟩:=B;have E:=AY.1 h9;have T:GG ((Sh.box c::ps).filter EU)=c.cnt+1+GG (ps.filter EU):=rfl;rw[T]at l ⊢;obtain⟨G1,C⟩:=ih (n:=n+(c.cnt+1)) hm (by simpa using X) (by simpa using Y) Q M E.2.1 (λb hb=>R b (BP _ hb)) (λk h1 M=>l k oa oa);obtain⟨L,cells,el,x0,z,rfl,q1,q2,q3,q4,q5,h7⟩:=h1;have x2:L=b:=by injection z with z _;injection z with z;injection z with z;injection z with z _ _;exact z.symm
     subst x2;have V:=AV.1 E.1;have U:∀d∈L::x0,fr.owned d/\∀j o,EF σ (IJ ps ss (FE (ps.filter EU) I (n+(c.cnt+1)))) j=some o->¬Bk G1 j o d:=λd a=>
      ⟨(R d (BV _ a)).1,λj o ho K=>by rcases C.own j o d ho K with h|⟨j',N,H,h4⟩<;>grind⟩
     obtain⟨G2,Z,r2,f2⟩:=LL (s:=c) (x:=x) (n:=n+1) C.mem (by rw[C.im];exact q3) V.2 (λd a=>U d (AN _ a)) (λk h1 M=>⟨l k oa oa,oa⟩);have x5:G2.im=G.im:=Z.im.trans C.im;have h8:=C.le.trans Z.le;have y:G2.box k=some (L,c.ty):=h8.box _ _ h6;have y0:∀j N,EF (EF σ (IJ ps ss (FE (ps.filter EU) I (n+(c.cnt+1))))) (E_ c x (n+1)).obs j=some N->¬Bk G2 j N L:=by
      intro j N ho K;rcases Z.own j N L ho K with h|⟨j',o2,H,h4⟩
      .exact V.1 h
      .grind
     have D:=Z.mem.back (wr:=true) (k:=k) (b:=L) (t:=c.ty) (c:=(E_ c x (n+1)).sv) y
      ⟨L,cells,el,y,q1,q2,f2,r2,⟨λ_ o=>oc,λh=>oq⟩,oc,(U L AE).1,h7⟩ y0
     have m:IJ (.box c::ps) (.ptr k [] u::ss) (FE ((Sh.box c::ps).filter EU) r n)=
      ([(k,some (.box c.ty (E_ c x (n+1)).sv true))]++(E_ c x (n+1)).obs)++IJ ps ss (FE (ps.filter EU) I (n+(c.cnt+1))):=by
      rw[H];rfl
     refine⟨G2,h8,x5,?_,?_⟩
     .rw[m,GW,GW];exact D.shrink λj A=>⟨⟨A.1,λe=>A.2 ⟨oa,oa⟩⟩,λe=>A.2 ⟨oa,oa⟩⟩
     .intro j o d A a;rw[m,GW,GW,FP]at A;by_cases e:j=k
      .rw[if_pos e]at A;cases A;subst e;simp only[Bk,y,BH,AK]at a;grind
      .rw[if_neg e]at A;rcases Z.own j o d A a with h|⟨j',N,H,h4⟩
       .grind
       .rcases C.own j' N d H h4 with h|h<;>grind
    |io el t=>
     obtain⟨hs,Q⟩:=h5
     have B:∃(x:List t.T) (I:TupR (ps.filter EU)) (J O:List Nat),bs=J++O/\ShC P w G.im (.io el t) x [v] J/\ShL P w G.im (ps.filter EU) I (I7 ps vals) O/\
      FE ((Sh.io el t::ps).filter EU) r n=E_ (.io el t) x n::FE (ps.filter EU) I (n+1):=by
      have h:ShL P w G.im ([Sh.io el t]++ps.filter EU) r ([v]++I7 ps vals) bs:=h;obtain⟨J,O,z,h1,M⟩:=h.split rfl;obtain⟨v',W,H⟩:=h1;have W:v=v':=by injection W
      subst W;exact⟨_,_,J,O,z,H,M,fA (a:=[Sh.io el t]) (b:=ps.filter EU) (x:=r) (n:=n)⟩
     obtain⟨x,I,J,O,rfl,h1,M,H⟩:=B;have E:=AY.1 h9;have T:GG ((Sh.io el t::ps).filter EU)=1+GG (ps.filter EU):=rfl;rw[T]at l ⊢;obtain⟨G1,C⟩:=ih (n:=n+1) hm (by simpa using X) (by simpa using Y) Q M E.2.1 (λb hb=>R b (BP _ hb)) (λk h1 M=>l k oa oa);have U:∀d∈J,fr.owned d/\∀j o,EF σ (IJ ps ss (FE (ps.filter EU) I (n+1))) j=some o->¬Bk G1 j o d:=λd a=>
      ⟨(R d (BV _ a)).1,λj o ho K=>by rcases C.own j o d ho K with h|⟨j',N,H,h4⟩<;>grind⟩
     rcases hs with⟨k,rfl,y5,y2⟩|⟨rfl,rfl⟩
     .have y1:=C.le.val _ _ _ y5;have x4:=C.le.ety _ _ y2;have y4:SlOK fr w G1.im el t x true v/\∀d,Bk G1 k (.sl el t x 0 true) d->d∈J:=by
       rw[C.im];rcases h1 with⟨z,W,rfl⟩|⟨d,x1,cells,z,rfl,q1,q2,q3,q4,q5,q6,q7⟩
       .have z:v=.slice none 0 0:=by injection z
        subst z;exact⟨.inl ⟨rfl,W⟩,λd a=>by grind[Bk]⟩
       .have z:v=.slice (some ⟨d,0,none⟩) x.length x1:=by injection z
        subst z;refine⟨.inr ⟨d,x1,cells,rfl,q1,q2,q3,q4,(U d oh).1,q5,q6,q7⟩,λy9 a=>?_⟩;grind[Bk,Option.some.injEq]
      have D:=C.mem.backO (k:=k) (o:=.sl el t x 0 true) ⟨x4,v,y1,y4.1⟩ (λhf=>by have:=(hm.fresh k hf.1).2.1;grind) (λd a j N y7=>(U d (y4.2 d a)).2 j N y7)
      have m:IJ (.io el t::ps) (.obj k 0::ss) (FE ((Sh.io el t::ps).filter EU) r n)=[(k,some (.sl el t x 0 true))]++IJ ps ss (FE (ps.filter EU) I (n+1)):=by rw[H];rfl
      refine⟨G1,C.le,C.im,?_,?_⟩
      .rw[m,GW];exact D.shrink λj A=>⟨A.1,λe=>A.2 ⟨oa,oa⟩⟩
      .intro j o d A a;rw[m,GW,FP]at A;by_cases e:j=k
       .grind
       .rw[if_neg e]at A;rcases C.own j o d A a with h|h<;>grind
     .have m:IJ (.io el t::ps) (.nilS::ss) (FE ((Sh.io el t::ps).filter EU) r n)=IJ ps ss (FE (ps.filter EU) I (n+1)):=by rw[H];rfl
      refine⟨G1,C.le,C.im,?_,?_⟩
      .rw[m];exact C.mem.shrink λj A=>⟨A.1,λe=>A.2 ⟨oa,oa⟩⟩
      .intro j o d A a;rw[m]at A;rcases C.own j o d A a with h|h<;>grind
    |bld el c0=>
     cases c0 with
     |true=>exact ih hm (by simpa using X) (by simpa using Y) h5 h h9 R l
     |false=>
     obtain⟨⟨k,u,b,rfl,h6,rfl⟩,Q⟩:=h5
     have B:∃(x:List Int) (I:TupR (ps.filter EU)) (J O:List Nat),bs=J++O/\ShC P w G.im (.bld el false) x [.pointer (some ⟨b,0,none⟩)] J/\ShL P w G.im (ps.filter EU) I (I7 ps vals) O/\
      FE ((Sh.bld el false::ps).filter EU) r n=E_ (.bld el false) x n::FE (ps.filter EU) I (n+2):=by
      have h:ShL P w G.im ([Sh.bld el false]++ps.filter EU) r ([.pointer (some ⟨b,0,none⟩)]++I7 ps vals) bs:=h;obtain⟨J,O,z,h1,M⟩:=h.split rfl;obtain⟨v',W,H⟩:=h1;have W:Value.pointer (some ⟨b,0,none⟩)=v':=by injection W
      subst W;refine⟨_,_,J,O,z,H,M,?_⟩;exact fA (a:=[Sh.bld el false]) (b:=ps.filter EU) (x:=r) (n:=n)
     obtain⟨x,I,J,O,rfl,h1,M,H⟩:=B;have E:=AY.1 h9;have T:GG ((Sh.bld el false::ps).filter EU)=2+GG (ps.filter EU):=rfl;rw[T]at l ⊢;obtain⟨G1,C⟩:=ih (n:=n+2) hm (by simpa using X) (by simpa using Y) Q M E.2.1 (λb hb=>R b (BP _ hb)) (λk h1 M=>l k oa oa);obtain⟨L,cells,y6,p,q,x0,z,rfl,q1,h7,q2,hp,q4,q5,q6⟩:=h1;have x2:L=b:=by injection z with z _;injection z with z;injection z with z;injection z with z _ _;exact z.symm
     subst x2;have V:=AV.1 E.1;have U:∀d∈L::x0,fr.owned d/\∀j o,EF σ (IJ ps ss (FE (ps.filter EU) I (n+2))) j=some o->¬Bk G1 j o d:=λd a=>
      ⟨(R d (BV _ a)).1,λj o ho K=>by rcases C.own j o d ho K with h|⟨j',N,H,h4⟩<;>grind⟩
     have y3:ShC P w G1.im (.own el (.int .u8) true) x [q] x0:=by
      rw[C.im];rcases q6 with⟨rfl,k1,k2⟩|⟨g,x1,gc,rfl,k1,k2,k3,k4,k5,k6,k7⟩
      .exact .inl ⟨rfl,k1,k2⟩
      .exact .inr ⟨g,x1,gc,rfl,k1,k2,k3,k4,k5,(λ_=>k6),(λh=>oq),k7⟩
     obtain ⟨G2,Z,r2,f2⟩:=e_ (n:=n+1) C.mem y3 (λd a=>U d (AN _ a)) (λk h1 M=>by have M:k<n+1+1:=M;grind)
     have x3:(Sh.own el (.int .u8) true).cnt=1:=rfl;rw[x3]at Z;have x5:G2.im=G.im:=Z.im.trans C.im;have h8:=C.le.trans Z.le;have y:G2.box k=some (L,GS):=h8.box _ _ h6;have y0:∀j N,EF (EF σ (IJ ps ss (FE (ps.filter EU) I (n+2)))) (E_ (.own el (.int .u8) true) x (n+1)).obs j=some N->¬Bk G2 j N L:=by
      intro j N ho K;rcases Z.own j N L ho K with h|⟨j',o2,H,h4⟩
      .exact V.1 h
      .grind
     have y8:cells.size=2:=by rw[<-BG,q2];rfl
     have D:=Z.mem.back (wr:=true) (k:=k) (b:=L) (t:=GS) (c:=.pr (.slf k) (.obj (n+1) 0)) y
      ⟨L,cells,y6,y,q1,y8,⟨_,_,rfl,rfl,f2⟩,⟨[p],[q],q2,⟨L,GS,y,by rcases hp with rfl|rfl<;>simp⟩,r2⟩,⟨λ_ o=>oc,λh=>oq⟩,oc,(U L AE).1,λ_=>h7⟩ y0
     have m:IJ (.bld el false::ps) (.ptr k [] u::ss) (FE ((Sh.bld el false::ps).filter EU) r n)=
      ([(k,some (.box GS (.pr (.slf k) (.obj (n+1) 0)) true))]++(E_ (.own el (.int .u8) true) x (n+1)).obs)++IJ ps ss (FE (ps.filter EU) I (n+2)):=by
      rw[H];rfl
     refine⟨G2,h8,x5,?_,?_⟩
     .rw[m,GW,GW];exact D.shrink λj A=>⟨⟨A.1,λe=>A.2 ⟨oa,oa⟩⟩,λe=>A.2 ⟨oa,oa⟩⟩
     .intro j o d A a;rw[m,GW,GW,FP]at A;by_cases e:j=k
      .rw[if_pos e]at A;cases A;subst e;simp only[Bk,y,BH,AK]at a;grind
      .rw[if_neg e]at A;rcases Z.own j o d A a with h|⟨j',N,H,h4⟩
       .grind
       .rcases C.own j' N d H h4 with h|h<;>grind
    |_=>exact ih hm (by simpa using X) (by simpa using Y) h5 h h9 R l
end
theorem DV.rel{w:World}(e:Ext w I w I'):∀{ids:List Nat} {x:(E2 ids t).T} {cs:List Value} {bs:List Nat},DV ow w I t ids x none cs bs->
 (∀b∈bs,∀s,I'.cell b s)->Rel w I' (E2 ids t) x cs:=by
 intro ids;induction ids with
 |nil=>intro x cs bs h _;exact Rel.ext e h.2
 |cons id r E=>
  intro x cs bs h z;obtain⟨v,rfl,h1,d⟩:=h;rcases d with⟨d,_⟩|⟨_,rfl,a,_⟩|⟨d,b,o,l,cells,bss,rfl,G,H,K,L,M,N,O,rfl,J⟩
  .cases d
  .have a:(show List (E2 r t).T from x)=[]:=a;refine⟨none,0,by rw[a];rfl,by rw[a];exact⟨AD _,AS _⟩,λ_=>⟨a,rfl⟩,λad h=>oq⟩
  .refine⟨some ⟨b,o,none⟩,l,rfl,G,(λh=>oq),λad m=>?_⟩;cases m;refine⟨λ_=>rfl,λi y D=>?_⟩;have A:=E (J i y D) λB p=>z B (AN _ (YV p));exact⟨_,⟨A.length,λj C=>⟨z b AE _,eP H j C⟩⟩,A⟩
theorem A2n:∀(a b:List Sh),GG (a++b)=GG a+GG b:=by
 intro a b;induction a with
 |nil=>simp[GG]
 |cons s a d=>simp only[List.cons_append,GG,d];omega
section
variable{P:Program}{fr:Fr}{free free':Nat->Prop}{self:Nat}{σ σ':SSo}{w w':World}{G G':Gh}{I:Im}
theorem BoxArgs.mono:∀{l:List Sh} {ss:List SV} {vs:List Value},BoxArgs G l ss vs->(∀k b,G.box k=some b->G'.box k=some b)->(∀k g v,G.val k g=some v->G'.val k g=some v)->(∀k t,G.ety k=some t->G'.ety k=some t)->BoxArgs G' l ss vs:=by
 intro l;induction l with
 |nil=>intro ss vs _ _ _ _;assumption
 |cons a l p=>
  intro ss vs h d j e;cases ss with
  |nil=>cases a<;>first|exact trivial|(rename_i w c0;cases c0<;>exact trivial)
  |cons s ss=>
   cases vs with
   |nil=>cases a<;>first|exact trivial|(rename_i w c0;cases c0<;>exact trivial)
   |cons v vs=>
    cases a with
    |box c=>obtain⟨⟨k,u,b,h1,m,x⟩,y⟩:=h;exact⟨⟨k,u,b,h1,d _ _ m,x⟩,p y d j e⟩
    |io el t=>obtain⟨h1,m⟩:=h;refine⟨h1.imp (λ⟨k,z,A,B⟩=>⟨k,z,j _ _ _ A,e _ _ B⟩) id,p m d j e⟩
    |bld el c=>
     cases c with
     |true=>exact p h d j e
     |false=>obtain⟨⟨k,u,b,h1,m,x⟩,y⟩:=h;exact⟨⟨k,u,b,h1,d _ _ m,x⟩,p y d j e⟩
    |_=>exact p h d j e
def AGm(hm:MemS P fr free σ w G):∀{l:List Sh} {svs:List SV} {x:TupR l} {vs:List Value},Q_ fs σ l svs=some x->
 (∀(j:Nat) (s:SV) (v:Value),svs[j]?=some s->vs[j]?=some v->SR P w G s v)->BoxArgs G l svs vs:=by
 intro l;induction l with
 |nil=>intro svs x vs _ _;cases svs<;>exact trivial
 |cons a l ih=>
  intro svs x vs h hs;cases svs with
  |nil=>cases a<;>first|exact trivial|(rename_i el0 c0;cases c0<;>exact trivial)
  |cons s svs=>
   cases vs with
   |nil=>cases a<;>first|exact trivial|(rename_i el0 c0;cases c0<;>exact trivial)
   |cons v vs=>
    have h0:=hs 0 s v rfl rfl;have hrest:BoxArgs G l svs vs:=by
     cases l with
     |nil=>cases svs<;>exact trivial
     |cons b l=>
      rw[eY]at h;split at h
      .rename_i x1 x2 h1 h2;exact ih h2 (λj s v h1 h2=>hs (j+1) s v oz (by simpa using h2))
      .cases h
    have hfirst:∃y,UW fs σ a s=some y:=by
     cases l with
     |nil=>
      cases svs with
      |nil=>exact⟨x,h⟩
      |cons _ _=>cases h
     |cons b l=>grind[eY]
    cases a with
    |box c=>
     refine⟨?_,hrest⟩;obtain⟨y,hy⟩:=hfirst;have hy:UV σ c s=some y:=hy;unfold UV at hy;split at hy
     .rename_i k u;split at hy
      .rename_i t cv hk;cases hts:t.same c.ty with
       |false=>grind
       |true=>
        have et:=Ty.same_eq hts;subst et;have⟨b,cells,el,k1,k2,_⟩:=hm.objs _ _ hk;obtain⟨cc,hc,b',t',o,j1,j2,_,j4⟩:=h0;rw[k1]at j1;cases j1;have ho:o=0:=by have:Ty.off c.ty []=some o:=j2;cases hc:c.ty<;>rw[hc]at this<;>exact(A2 this).symm
        subst ho;have hv:[v]=[Value.pointer (some ⟨b,0,none⟩)]:=(show cc=[v]from hc).symm.trans j4;grind
      .cases hy
     .cases hy
    |io el t=>
     refine⟨?_,hrest⟩;obtain⟨y,hy⟩:=hfirst;replace hy:LG σ el t true s=some y:=hy;unfold LG at hy;split at hy
     .rename_i k g;split at hy
      .rename_i id' t' xs g' w1 hk;cases hb:(Nat.beq g 0&&Nat.beq g g'&&(Nat.beq el id'&&(bif true then w1 else !w1)))with
       |false=>grind
       |true=>
        rw[hb]at hy;have hy:Ty.cast? (.slice t') (.slice t) xs=some y:=hy;simp only[A5]at hb;have e0:=A4 hb.1.1;have e1:=A4 hb.1.2;subst e0 e1;obtain⟨et,_⟩:=Ty.cast?_some hy;have et':t'=t:=by injection et
        subst et';have⟨k1,v',k2,_⟩:=hm.objs _ _ hk;grind[PT]
      .cases hy
     .obtain⟨cc,hc,h1⟩:=h0;have h1:cc=[.slice none 0 0]:=h1;have hv:v=.slice none 0 0:=AC.1 ((show cc=[v]from hc).symm.trans h1);grind
     .cases hy
    |bld el c=>
     cases c with
     |true=>exact hrest
     |false=>
     refine⟨?_,hrest⟩;obtain⟨y,hy⟩:=hfirst;replace hy:UU σ el s=some y:=hy;unfold UU at hy;split at hy
     .rename_i k u;split at hy
      .rename_i t cv hk;cases hts:t.same GS with
       |false=>grind
       |true=>have et:=Ty.same_eq hts;subst et;have⟨b,cells,el,k1,k2,_⟩:=hm.objs _ _ hk;obtain⟨cc,hc,b',t',o,j1,j2,_,j4⟩:=h0;rw[k1]at j1;cases j1;have ho:o=0:=(A2 j2).symm;subst ho;have hv:[v]=[Value.pointer (some ⟨b,0,none⟩)]:=(show cc=[v]from hc).symm.trans j4;grind
      .cases hy
     .cases hy
    |_=>exact hrest
def AGn{m:Mk}(h:MD vs rv)(a:vs.length=1)(d:∀(j:Nat) (b:Mk) (v:Value),[m][j]?=some b->vs[j]?=some v->SR P w G b.sv v):SR P w G m.sv rv:=by
 cases vs with
 |nil=>cases a
 |cons v vs=>have:vs=[]:=AF (by simpa using a);subst this;have h:rv=v:=h;rw[h];exact d 0 m v rfl rfl
def A2o{ms:List Mk}(h:MD vs rv)(b:vs.length=ms.length)(d:ms.length≠1)(e:∀(j:Nat) (m:Mk) (v:Value),ms[j]?=some m->vs[j]?=some v->SR P w G m.sv v):
 SR P w G (.tup (SV.ofList (ms.map (·.sv)))) rv:=by
 have a:rv=.tuple vs.toArray:=by
  cases vs with
  |nil=>exact h
  |cons v vs=>
   cases vs with
   |nil=>grind
   |cons _ _=>exact h
 rw[a];refine⟨_,rfl,vs.toArray,rfl,?_⟩;grind[tK]
def A2p(ms:List Mk):SV:=match ms with
 |[m]=>m.sv
 |_=>.tup (SV.ofList (ms.map (·.sv)))
theorem AGo{ms:List Mk}(h:MD vs rv)(a:vs.length=ms.length)(b:∀(j:Nat) (d:Mk) (v:Value),ms[j]?=some d->vs[j]?=some v->SR P w G d.sv v):SR P w G (A2p ms) rv:=by
 cases ms with
 |nil=>exact A2o h a oh b
 |cons m ms=>
  cases ms with
  |nil=>exact AGn h a b
  |cons e ms=>exact A2o h a oh b
def K5(σ:SSo)(G:Gh):Im:=
 ⟨λb o=>G.im.cell b o\/(∃ k t c,σ k=some (.box t c true)/\G.box k=some (b,t)/\o<t.sz)\/(∃ k id t xs g,σ k=some (.sl id t xs g true)/\Bk G k (.sl id t xs g true) b/\o<xs.length*t.sz)\/∃ k ids t x gk,σ k=some (.dp ids t x gk none true)/\Bk G k (.dp ids t x gk none true) b,
  λb=>G.im.obj b\/∃k a c es,σ k=some (.mp a c es true)/\Bk G k (.mp a c es true) b⟩
def L2(w:World):Ext w G.im w (K5 σ G):=⟨λ_ _ h=>⟨.inl h,rfl⟩,λ_ h=>⟨.inl h,rfl⟩⟩
theorem A2q{o:Nat}(h:(K5 σ G).cell b o):G.im.cell b o\/∃k d,σ k=some d/\Bk G k d b:=by
 rcases h with h|⟨k,t,c,h1,a,_⟩|⟨k,id,t,l,g,h1,a,_⟩|⟨k,e,t,x,j,h1,a⟩
 .exact .inl h
 .grind[Bk]
 .grind
 grind
def A2r(h:(K5 σ G).obj b):G.im.obj b\/∃k d,σ k=some d/\Bk G k d b:=by rcases h with h|⟨k,a,c,e,h1,j⟩<;>grind
def AGp(a:MemS P fr free σ w G):HQ w (K5 σ G):=by
 refine⟨λb o h=>?_,λb h=>?_,a.after.pins.ext (L2 w)⟩
 .rcases A2q h with h|⟨k,e,h1,d⟩
  .exact a.after.mem.1 b o h
  .exact LK (a.objs _ _ h1) d
 .rcases A2r h with h|⟨k,e,h1,d⟩
  .exact a.after.mem.2.1 b h
  .exact LK (a.objs _ _ h1) d
theorem A2s(A:MemS P fr free σ w G){g:Nat}{x:t.T}(h:YF σ k g t=some x)(z:G.val k g=some v):Rel w (K5 σ G) t x [v]:=by
 unfold YF at h;split at h
 .rename_i id e C g' wr hk;split at h
  .rename_i m;have d:=A4 m;subst d;have⟨_,N,h1,s⟩:=A.objs _ _ hk;rw[z]at h1;cases h1;cases wr with
   |false=>exact Rel.cast h ((VE s).ext (L2 w))
   |true=>
    refine Rel.cast h ?_;rcases s with⟨rfl,rfl⟩|⟨b,D,cs,rfl,K,L,M,B,q5,q6,q7,q8⟩
    .exact⟨none,0,rfl,⟨AD _,AS _⟩,λ_=>⟨rfl,rfl⟩,λad h=>oq⟩
    .refine⟨some ⟨b,0,none⟩,D,rfl,K,(λh=>oq),λad E=>?_⟩;cases E;refine⟨λ_=>rfl,λi y J=>⟨_,⟨?_,λj X=>?_⟩,(B i y J).ext (L2 w)⟩⟩
     .exact(B i y J).length
     .have hi:i<C.length:=(A3.1 J).1;have H:i*e.sz+j<C.length*e.sz:=by have:(i+1)*e.sz<=C.length*e.sz:=AT _ hi;rw[C8]at this;omega
      refine⟨.inr (.inr (.inl ⟨k,id,e,C,g,hk,by simp[Bk,z],by simpa using H⟩)),?_⟩;rw[B3,if_pos X,B9,<-L.cell];simp
  .cases h
 .rename_i a b T wr hk;split at h
  .rename_i m;have d:=A4 m;subst d;obtain⟨N,h1,p,Y,R,ents,l,rfl,K,L,M,B,_⟩:=A.objs _ _ hk;rw[z]at h1;cases h1;refine Rel.cast h ⟨p,Y,some R,rfl,(λh=>oq),λb2 I=>?_⟩;cases I;refine⟨?_,ents,l,K,L,λi x e Q O=>⟨(M i x e Q O).1.ext (L2 w),(M i x e Q O).2.ext (L2 w)⟩⟩;cases wr with
   |false=>exact .inl (B.2 rfl)
   |true=>exact .inr ⟨k,a,b,T,hk,by simp[Bk,z]⟩
  .cases h
 .rename_i id r e x' gk W wr hk;split at h
  .rename_i m;simp only[A5]at m;have d:=A4 m.1;subst d;cases wr with
   |false=>have⟨N,h1,s⟩:=A.objs _ _ hk;rw[z]at h1;cases h1;exact Rel.cast h (Rel.ext (L2 w) s)
   |true=>
    cases W with
    |some p=>cases m.2
    |none=>have⟨_,_,N,us,bs,h1,s,U,h4,V⟩:=DpOK.inv (A.objs _ _ hk);rw[z]at h1;cases h1;exact Rel.cast h (V.rel (L2 w) λb H Z=>Or.inr (Or.inr (Or.inr ⟨k,_,_,_,_,hk,rfl,us,s,(MV U).2 H⟩)))
  .cases h
 .cases h
def AGq(a:MemS P fr free σ w G){x:t.T}(h:s.asLR σ t=some x)(b:CR P w G s cs):Rel w (K5 σ G) t x cs:=by
 unfold SV.asLR at h;split at h
 .obtain⟨v,h1,_,rfl⟩:=b;exact A2s a h h1
 .exact(YQ (λk o h=>a.objs k o h) h b).ext (L2 w)
def A2t(m:MemS P fr free σ w G):∀{t:Ty} {s:SV} {x:t.T} {cs:List Value},s.asCR σ t=some x->CR P w G s cs->Rel w (K5 σ G) t x cs:=by
 intro t;induction t with
 |prod a b j l=>
  intro s x cs h e;simp only[SV.asCR]at h;split at h
  .split at h
   .rename_i u v h1 z;cases h;obtain⟨c,d,rfl,B,C⟩:=e;exact⟨c,d,rfl,j h1 B,l z C⟩
   .cases h
  .exact(YQ (λk o h=>m.objs k o h) h e).ext (L2 w)
 |agg p A=>
  intro s x cs h e;cases s with
  |val u y=>exact Rel.ext (L2 w) (show Rel w G.im p x cs from VF (p:=p) h e)
  |_=>exact A h e
 |_=>intro s x cs h e;exact AGq m h e
theorem A2u(p:MemS P fr free σ w G){x:t.T}(h:dV σ t s=some x)(B:SR P w G s v):VRel w (K5 σ G) t x v:=by
 unfold dV at h;split at h
 .rename_i e k u;split at h
  .rename_i A c hk;cases K:A.same e.bare with
   |false=>grind
   |true=>
    rw[K]at h;simp only[A6]at h;have M:=Ty.same_eq K;cases l:c.asCR σ e with
    |none=>grind
    |some y=>
     rw[l]at h;cases h;have⟨b,cells,el,k1,Y,E,T,H,_⟩:=p.objs _ _ hk;obtain⟨cc,d,V,Z,o,L,Q,_,R⟩:=B;rw[k1]at L;cases L;have O:o=0:=by have:Ty.off A []=some o:=Q;cases l:A<;>rw[l]at this<;>exact(A2 this).symm
     subst O;have C:A.sz=e.sz:=by rw[M,Ty.sz_bare]
     refine⟨cc,d,⟨b,0,none⟩,R,rfl,cells.toList,⟨by rw[BG,E,C],λj X=>?_⟩,A2t p l H⟩;refine⟨.inr (.inl ⟨k,A,c,hk,k1,oc⟩),?_⟩;grind[World.cell?]
  .cases h
 .rename_i k g;obtain⟨c,l,U,E,T,H⟩:=B;have:[v]=[U]:=(show c=[v]from l).symm.trans H;have D:=AC.1 this;subst D;have z:=A2s p h E;refine⟨[v],?_,z⟩;grind[YF,A1t,A1s,id,hk,E2]
 .rename_i u c;cases J:u.same t with
  |false=>grind
  |true=>rw[J]at h;have h:c.asCR σ t=some x:=h;have:=Ty.same_eq J;subst this;obtain⟨cc,d,m,h1,⟨a,b,rfl,I⟩,W,N⟩:=B;have D:v=.agg m.toArray:=AC.1 ((show cc=[v]from d).symm.trans h1);subst D;exact⟨m,rfl,A2t p h N⟩
 .obtain⟨c,h1,I⟩:=K0 (λk o h=>p.objs k o h) h B;exact⟨c,h1,I.ext (L2 w)⟩
def fB(I I1 I2:Im):Im:=⟨λb o=>I.cell b o\/(I2.cell b o/\¬I1.cell b o),λb=>I.obj b\/(I2.obj b/\¬I1.obj b)⟩
theorem After.lend{I1 I2:Im}(a:After (·∈bs) w I1 w' I2)(j:Ext w I w I1)(e:HQ w I):After (·∈bs) w I w' (fB I I1 I2):=
 have l:Ext w I w' (fB I I1 I2):=⟨λb o h=>⟨.inl h,(a.ext.cell b o (j.cell b o h).1).2⟩,λb h=>⟨.inl h,(a.ext.obj b (j.obj b h).1).2⟩⟩
 ⟨l,a.heap,a.size,λb o h=>h.imp id λ⟨h1,d⟩=>(a.newC b o h1).resolve_left d,λb h=>h.imp id λ⟨h1,d⟩=>(a.newO b h1).resolve_left d,
  λb o h=>h.elim (λh=>AO (e.1 b o h) a.size) λh=>a.inC b o h.1,λb h=>h.elim (λh=>AO (e.2.1 b h) a.size) λh=>a.inO b h.1,a.os,a.tape,a.output,
  e.2.2.ext l⟩
def A2v{x:t.T}(a:t.lit=true)(h:Rel w' I t x cs):Rel w' I' t x cs:=by
 cases t with
 |bool=>exact h
 |int k=>exact h
 |str=>exact h
 |_=>cases a
def AGr{s:List Nat}{I1 I2:Im}(E:After (·∈s) w I1 w' I2)(G:Ext w I w I1):∀{l:List Sh} {x:TupR l} {vs:List Value} {bs:List Nat},NO l=true->ShL P w' I2 l x vs bs->ShL P w' (fB I I1 I2) l x vs bs:=by
 have p:∀{a:Sh} {x:a.T} {v:Value} {bs:List Nat},NO [a]=true->ShV P w' I2 a x v bs->ShV P w' (fB I I1 I2) a x v bs:=by
  intro a x v bs d h;cases a with
  |val t=>simp only[NO,DK]at d;obtain⟨⟨c,h1,j⟩,m⟩:=h;exact⟨⟨c,h1,A2v d j⟩,m⟩
  |own el t wr=>
   simp only[NO,DK,A5]at d;obtain⟨rfl,d⟩:=d;rcases h with h|⟨b,z,cells,h1,j,m,A,B,K,L,O,D⟩
   .exact .inl h
   .refine .inr ⟨b,z,cells,h1,j,m,A,B,λi y M=>A2v d (K i y M),λ_ o e=>?_,(λh=>oq),λe=>?_⟩
    .rcases e with e|e
     .exact L rfl o (E.ext.cell _ _ (G.cell _ _ e).1).1
     grind
    .rcases e with e|e
     .exact D (E.ext.obj _ (G.obj _ e).1).1
     .exact D e.1
  |_=>cases d
 intro l;induction l with
 |nil=>intro x vs bs _ h;exact h
 |cons a l N=>
  intro x vs bs d h;have h1:NO [a]=true/\NO l=true:=by cases a<;>simp only[NO,A5,DK]at d ⊢<;>first|exact d|exact⟨⟨d.1,d.2.1⟩,d.2.2⟩|cases d
  cases l with
  |nil=>obtain⟨v,j,m⟩:=h;exact⟨v,j,p h1.1 m⟩
  |cons b l=>obtain⟨v,C,H,J,j,m,A,B⟩:=h;exact⟨v,C,H,J,j,m,p h1.1 A,N h1.2 B⟩
def AGs(a:MemS P fr free σ w G){x:t.T}(h:sC σ t s=some x)(b:SR P w G s v):VRel w (K5 σ G) t x v:=by
 unfold sC at h;split at h
 .grind[A2u]
 .exact(tM (λk o h=>a.objs k o h) h b).ext (L2 w)
def AGt(B:MemS P fr free σ w G):∀{l:List Sh} {ss:List SV} {x:TupR l} {vs:List Value},dW σ l ss=some x->ss.length=vs.length->
 (∀(j:Nat) (s:SV) (v:Value),ss[j]?=some s->vs[j]?=some v->SR P w G s v)->∀w' I',Ext w (K5 σ G) w' I'->ShL P w' I' l x vs []:=by
 intro l;induction l with
 |nil=>
  intro ss x vs h b _ w' I' _;cases ss with
  |nil=>exact⟨AF b.symm,rfl⟩
  |cons _ _=>cases h
 |cons a l C=>
  intro ss x vs h b e w' I' d;cases ss with
  |nil=>cases a<;>cases h
  |cons s ss=>
   cases vs with
   |nil=>cases b
   |cons v vs=>
    cases a<;>first|(cases h;done)|skip
    rename_i t;simp only[dW]at h;split at h
    .rename_i y z h1 m;have h:=A2 h;subst h;refine VK ⟨(AGs B h1 (e 0 s v rfl rfl)).ext d,rfl⟩ (C m (by simpa using b) (λj s v p A=>e (j+1) s v (by simpa using p) (by simpa using A)) w' I' d)
    .cases h
def AGu(E:MemS P fr free σ w G){cs:List SV}(D:cs.length=vs.length)(H:∀(j:Nat) (s:SV) (v:Value),cs[j]?=some s->vs[j]?=some v->SR P w G s v)
 {w':World}(C:Ext w (K5 σ G) w' I'):∀{n:Nat} {ps:List Sh} {d:Ty} {x:d.T} {v:TupR ps} {l:List Value},YG σ cs n ps d x=some v->ArgsV w' I' d x l->ShL P w' I' ps v (l++vs) []:=by
 intro n;induction n with
 |zero=>
  intro ps d x v l h A;cases ps with
  |nil=>cases h
  |cons a ps=>
   cases a<;>first|(cases h;done)|skip
   rename_i t;simp only[YG]at h;cases B:MU d with
   |true=>grind
   |false=>
    rw[B]at h;simp only[A8]at h;split at h
    .rename_i y z h1 m;have h:=A2 h;subst h;obtain⟨u,rfl,J⟩:=A.one (λa b e=>by subst e;cases B);exact VK ⟨VRel.cast h1 J,rfl⟩ (AGt E m D H w' I' C)
    .cases h
 |succ n K=>
  intro ps d x v l h A;cases ps with
  |nil=>cases h
  |cons a ps=>
   cases a<;>first|(cases h;done)|skip
   rename_i t;cases d<;>first|(cases h;done)|skip
   rename_i p q;simp only[YG]at h;split at h
   .rename_i y z h1 m;have h:=A2 h;subst h;obtain⟨u,r,rfl,k1,L⟩:=A;exact VK ⟨VRel.cast h1 k1,rfl⟩ (K m L)
   .cases h
def AGv(R:MemS P fr free σ w G)(L:∀f A,fs f=some A->FK P f/\FunOK P f A){d c:Ty}{v:SV}{F:d.T->Option c.T}(h:dX fs σ d c v=some F)(C:CR P w G v cs):
 ∃f vs,cs=[.func (.func f) #[] vs]/\HofD P (false=true) w (K5 σ G) d c F f vs:=by
 unfold dX at h;split at h
 .rename_i f j;split at h
  .rename_i A Q;cases a:(PM j&&US A.ps)with
   |false=>grind
   |true=>rw[a]at h;have h:=A2 h;subst h;simp only[A5]at a;obtain⟨vs,h1,D⟩:=C;have⟨O,p⟩:=L _ _ Q;have s:=A2h D a.1;refine⟨f,vs,h1,O,λw' I' m B x l V y z=>?_⟩;have⟨v,U,z⟩:=B6.1 z;have⟨r,C,z⟩:=B6.1 z;have⟨a1,J⟩:=A2f a.2;have E:=p w' I' v (l++vs.toList) [] B (AGu R s (A2g D oa) m U V) AW r C;rw[show(l++vs.toList).toArray=(l.toArray++vs:Array Value) by simp]at E;refine Calls.mono E λe h3 T=>?_;obtain⟨rv,Z,I',K,W,q2,X,Y,H,_,_,qd⟩:=T;rw[J,CU]at H;exact⟨rv,I',W,Y.mono (λb M=>by cases M),A2e z H X,λN=>by cases N⟩
  .cases h
 .cases h
def A2w(K:MemS P fr free σ w G){σ0:SSo}(l:∀k o,σ0 k=some o->σ k=some o)(X:∀f U,fs f=some U->FK P f/\FunOK P f U){s:Sh}{sv:SV}{x:s.T}(h:dY fs σ0 σ s sv=some x)(N:SR P w G sv v)
 (J:∀k∈QZ σ s sv,σ0 k=none):∃bs,ShV P w (K5 σ0 G) s x v bs/\bs.Nodup/\BlksOf σ G (QZ σ s sv) bs:=by
 have j:BlksOf σ G (QZ σ s sv) []:=λb z=>by cases z
 have A:=K.sub l;cases s with
 |val t=>exact⟨[],⟨A2u A h N,rfl⟩,AW,j⟩
 |own el t wr=>
  have h:LG σ el t wr sv=some x:=h;have m:CR P w G sv [v]:=N.cell λt y e=>by subst e;cases h
  have⟨bs,h1,W,O⟩:=VJ K h m;refine⟨bs,?_,W,O⟩;have Q:∀b∈bs,∀k p,σ0 k=some p->¬Bk G k p b:=by intro b z k p hk E;have⟨R,I,o',M,H⟩:=O b z;have:=K.sep R k o' p b M (l _ _ hk) H E;subst this;rw[J R I]at hk;cases hk
  have B:∀b∈bs,∀o,(K5 σ0 G).cell b o->G.im.cell b o:=by
   intro b z o a;rcases A2q a with a|⟨k,p,k1,Z⟩
   .exact a
   .grind
  have L:∀b∈bs,(K5 σ0 G).obj b->G.im.obj b:=by
   intro b z a;rcases A2r a with a|⟨k,p,k1,Z⟩
   .exact a
   .grind
  rcases h1 with h1|⟨b,D,cells,V,rfl,q1,q2,q3,q4,q5,T,q7⟩
  .exact .inl h1
  .exact .inr ⟨b,D,cells,V,rfl,q1,q2,q3,λi y Y=>(q4 i y Y).ext (L2 w),λC o a=>q5 C o (B b oh o a),λC o=>⟨λa=>.inl ((T C o).1 a),λa=>(T C o).2 (B b oh o a)⟩,λa=>q7 (L b oh a)⟩
 |hof nd d c=>
  cases nd with
  |true=>cases h
  |false=>
  have h:dX fs σ0 d c sv=some x:=h;have m:CR P w G sv [v]:=N.cell λt y e=>by subst e;cases h
  exact⟨[],⟨rfl,AGv A X h m⟩,AW,j⟩
 |_=>cases h
theorem AGw{σ0:SSo}{a b:Sh}{r:List Sh}{v:SV}{vs:List SV}:V4 fs σ0 σ (a::b::r) (v::vs)=(match dY fs σ0 σ a v,V4 fs σ0 σ (b::r) vs with
 |some x,some y=>some (x,y)
 |_,_=>none):=rfl
theorem AGx(C:MemS P fr free σ w G){σ0:SSo}(m:∀k o,σ0 k=some o->σ k=some o)(I:∀f J,fs f=some J->FK P f/\FunOK P f J):∀{l:List Sh} {d:List SV} {x:TupR l} {vs:List Value},V4 fs σ0 σ l d=some x->d.length=vs.length->
 (∀(j:Nat) (s:SV) (v:Value),d[j]?=some s->vs[j]?=some v->SR P w G s v)->(GL σ l d).Nodup->(∀k∈GL σ l d,σ0 k=none)->
 d.length=l.length/\∃bs,ShL P w (K5 σ0 G) l x vs bs/\bs.Nodup/\BlksOf σ G (GL σ l d) bs:=by
 intro l;induction l with
 |nil=>
  intro d x vs h z D _ _;cases d with
  |nil=>exact⟨rfl,[],⟨AF z.symm,rfl⟩,AW,λb L=>by cases L⟩
  |cons _ _=>cases h
 |cons a l M=>
  intro d x vs h z D p e;cases d with
  |nil=>cases l<;>cases h
  |cons s d=>
   cases vs with
   |nil=>cases z
   |cons v vs=>
    have h0:=D 0 s v rfl rfl;cases l with
    |nil=>
     cases d with
     |nil=>have:vs=[]:=AF oc;subst this;obtain⟨bs,h1,A,B⟩:=A2w C m I h h0 (λk hk=>e k (by simpa[GL]using hk));exact⟨rfl,bs,⟨v,rfl,h1⟩,A,by simpa[GL]using B⟩
     |cons _ _=>cases h
    |cons b l=>
     rw[AGw]at h;split at h
     .rename_i X Y h1 A;cases h;have hk:GL σ (a::b::l) (s::d)=QZ σ a s++GL σ (b::l) d:=rfl;rw[hk]at p e ⊢;have y:=AY.1 p;obtain⟨E,p1,N,O⟩:=A2w C m I h1 h0 (λk hk=>e k (BV _ hk));obtain⟨Q,H,R,T,U⟩:=M A (by simpa using z) (λj s v B K=>D (j+1) s v (by simpa using B) (by simpa using K)) y.2.1 (λk hk=>e k (BP _ hk));obtain⟨V,W⟩:=O.append C U N T p;exact⟨by simp[Q],E++H,⟨v,vs,E,H,rfl,rfl,p1,R⟩,V,W⟩
     .cases h
def AGy:∀{l:List Sh},YH l=true->l.filter EU=[]/\(∀vs,I7 l vs=[])/\∀b vs,BoxArgs G l b vs:=by
 intro l;induction l with
 |nil=>intro _;exact⟨rfl,λvs=>by cases vs<;>rfl,λb vs=>by cases b<;>exact trivial⟩
 |cons a l m=>
  intro h;simp only[YH,A5,BE]at h;have⟨h1,d,j⟩:=m h.2;refine⟨oc,λvs=>?_,λb vs=>?_⟩
  .cases vs with
   |nil=>cases a<;>first|rfl|(rename_i e c0;cases c0<;>rfl)
   |cons v vs=>cases a<;>first|exact d vs|(cases h.1;done)|(rename_i e c0;cases c0<;>first|exact d vs|(cases h.1;done))
  .cases b with
   |nil=>cases a<;>first|exact trivial|(rename_i e c0;cases c0<;>exact trivial)
   |cons s b=>
    cases vs with
    |nil=>cases a<;>first|exact trivial|(rename_i e c0;cases c0<;>exact trivial)
    |cons v vs=>cases a<;>first|exact j b vs|(cases h.1;done)|(rename_i e c0;cases c0<;>first|exact j b vs|(cases h.1;done))
def ShL.nil_any{l:List Sh}(a:l=[]){x:TupR l}(h:ShL P w' I l x vs bs):ShL P w' I' l x vs bs:=by subst a;exact h
def AGz:∀{l:List Nat},LH l=true->l.Nodup:=by
 intro l;induction l with
 |nil=>simp
 |cons k r a=>intro h;simp only[LH,A5,BE]at h;grind[List.nodup_cons,EW,OO]
theorem A2x(E:MemS P fr free σ w G)(Z:∀k o,σ' k=some o->σ k=some o)(d:∀k,self<=k->k<self+8->free k){s:FSpec}(h6:args.length=vals.length)(T:args.length=s.ps.length)
 (V:BoxArgs G s.ps args vals)(p3:BlksOf σ' G (GL σ' s.ps args) bs)(h5:GG s.rs+GG (s.ps.filter EU)<=8){y:TupR (s.rs++s.ps.filter EU)}{N O:List Nat}
 (h8:vs.length=s.rs.length)(h7:MD vs rv)(H:After (·∈bs) w G.im w' I')(r1:ShL P w' I' s.rs (OP s.rs (s.ps.filter EU) y).1 vs N)(r2:ShL P w' I' (s.ps.filter EU) (OP s.rs (s.ps.filter EU) y).2 (I7 s.ps vals) O)
 (K:(N++O).Nodup)(x:∀b∈N++O,b∈bs\/w.heap.size<=b):Res P fr free self σ w G (sD σ' self s args y) rv w':=by
 have D:BlksOf σ G (GL σ' s.ps args) bs:=λb l=>let ⟨k,h1,o,R,h3⟩:=p3 b l;⟨k,h1,o,Z k o R,h3⟩
 have⟨g1,g2⟩:=E.called D H;have p:=AY.1 K;have J:∀b∈N++O,fr.owned b/\∀j o,EF σ (gone (GL σ' s.ps args)) j=some o->¬Bk {G with im:=I'} j o b:=by
  intro b l;refine⟨?_,λj o M W=>?_⟩
  .rcases x b l with h|h
   .obtain⟨k,_,o,M,z⟩:=D b h;exact TC (E.objs k o M) z
   .exact .inl (AM E.after.size h)
  .have B:j ∉ GL σ' s.ps args/\σ j=some o:=by
    rw[PV]at M;by_cases X:j∈GL σ' s.ps args
    .grind
    .grind
   have m:Bk G j o b:=by rw[<-H6 (E.objs j o B.2) g1];exact W
   rcases x b l with h|h
   .obtain⟨k,hk,o2,Y,z⟩:=D b h;have:=E.sep j k o o2 b B.2 Y m z;grind
   .have:=LK (E.objs j o B.2) m;omega
 obtain ⟨G2,Q⟩:=AGl (ps:=s.ps) (ss:=args) (vals:=vals) (n:=self+GG s.rs) g2 T oa (by exact V.mono (λk b h=>h) (λk g v h=>h) (λk t h=>h)) r2 p.2.1 (λb l=>J b (BP _ l)) (λk h1 R=>d k oa oa)
 obtain ⟨G3,m3,e1,e2,e3⟩:=tN (l:=s.rs) (n:=self) Q.mem (by rw [Q.im]; exact r1) p.1 (λb l=>⟨(J b (BV _ l)).1,λj o M U=>by rcases Q.own j o b M U with h|⟨j',o',h3,h4⟩<;>grind⟩) (λk h1 R=>⟨d k h1 oa,oa⟩)
 have a:=fA (a:=s.rs) (b:=s.ps.filter EU) (x:=y) (n:=self);have C:(FE (s.rs++s.ps.filter EU) y self).take s.rs.length=FE s.rs (OP s.rs (s.ps.filter EU) y).1 self:=by rw[a,List.take_left' e2]
 have A:(FE (s.rs++s.ps.filter EU) y self).drop s.rs.length=FE (s.ps.filter EU) (OP s.rs (s.ps.filter EU) y).2 (self+GG s.rs):=by rw[a,List.drop_left' e2]
 refine⟨G3,(g1.trans Q.le).trans m3.le,?_,?_⟩
 .show MemS P fr _ (EF σ ((((FE (s.rs++s.ps.filter EU) y self).take s.rs.length).flatMap (·.obs))++(IJ s.ps args ((FE (s.rs++s.ps.filter EU) y self).drop s.rs.length)++gone (GL σ' s.ps args)))) w' G3;rw[C,A,GW,GW];refine m3.mem.shrink λj X=>?_;have L:¬(self<=j/\j<self+8):=λh=>by have:=X.2;grind[JQ,Bool.and_eq_false_iff,Nat.ble_eq_true_of_le,Nat.blt]
  exact⟨⟨X.1,λe=>L ⟨oa,oa⟩⟩,λe=>L ⟨oa,oa⟩⟩
 .show SR P w' G3 (A2p ((FE (s.rs++s.ps.filter EU) y self).take s.rs.length)) rv;grind[AGo]
def AH0(hE:∀f d,fs f=some d->FK P f/\FunOK P f d)(hD:fr.dr=true->∀f d,fs f=some d->d.dr=true)(Y:MemS P fr free σ w G)(V:∀k o,σ' k=some o->σ k=some o)(R:∀k,self<=k->k<self+8->free k)
 {f:Nat}(A:args.length=vals.length)(hs:∀(j:Nat) (s:SV) (v:Value),args[j]?=some s->vals[j]?=some v->SR P w G s v)
 (L:sE fs σ' self f args=some r)(hu:Gives r u):
 FK P f/\Calls P f vals.toArray w λe w'=>∃v,e=.returned v/\Res P fr free self σ w G u v w'/\(fr.dr=true->w.drawn<=w'.drawn):=by
 unfold sE at L;split at L
 .rename_i d U;have⟨E,H⟩:=hE _ _ U
  .split at L
   .rename_i v h5;have h3:Nat.ble (GG (d.rs++d.ps.filter EU)) 8=true/\R0 fs σ' d.ps args=some v:=by
     cases W:Nat.ble (GG (d.rs++d.ps.filter EU)) 8 with
     |false=>grind
     |true=>grind
    obtain⟨W,N⟩:=h3;have p:=CJ W;rw[A2n]at p;cases L;obtain⟨y,hy,rfl⟩:=hu.may_inv;have B:=Y.sub V;have⟨bs,p1,p2,p3⟩:=eZ B hE N A hs;have Z:Q_ fs σ' d.ps args=some v:=by
     unfold R0 at N;cases hd:LH (GL σ' d.ps args)with
     |false=>grind
     |true=>grind
    have h4:=AGm B Z hs;have T:∀{l:List Sh} {m:List SV} {x:TupR l},Q_ fs σ' l m=some x->m.length=l.length:=by
     intro l;induction l with
     |nil=>intro m x h;cases m with
      |nil=>rfl
      |cons _ _=>cases h
     |cons a l ih=>
      intro m x h;cases m with
      |nil=>cases l<;>cases h
      |cons s m=>
       cases l with
       |nil=>cases m with
        |nil=>rfl
        |cons _ _=>cases h
       |cons b l=>grind[eY]
    have X:=T Z;refine⟨E,Calls.mono (H w G.im v vals bs Y.after.mem p1 p2 y hy) λe w' hq=>?_⟩;obtain⟨rv,vs,I',h2,rfl,D,M,z,C,J,K,qd⟩:=hq;refine⟨rv,rfl,?_,λh=>qd (hD h _ _ U)⟩;obtain⟨b1,b2,rfl,r1,r2⟩:=C.split D;grind[A2x]
   .split at L
    .rename_i v N;cases L;obtain⟨y,hy,rfl⟩:=hu.may_inv;unfold A1k at N;cases W:(NO d.rs&&(YH d.ps&&(Nat.ble (GG (d.rs++d.ps.filter EU)) 8&&LH (GL σ' d.ps args))))with
     |false=>grind
     |true=>
      rw[W]at N;have N:V4 fs (EF σ' (gone (GL σ' d.ps args))) σ' d.ps args=some v:=N;have O:∀k o,EF σ' (gone (GL σ' d.ps args)) k=some o->σ' k=some o/\k ∉ GL σ' d.ps args:=by
       intro k o hk;rw[PV]at hk;by_cases e:k∈GL σ' d.ps args
       .grind
       .grind
      simp only[A5]at W;obtain⟨c1,c2,c3,c4⟩:=W;have p:=CJ c3;rw[A2n]at p;have B:=Y.sub V;have⟨X,bs,p1,p2,p3⟩:=AGx B (λk o h=>(O k o h).1) hE N A hs (AGz c4) (λk hk=>by rw[PV,if_pos hk]);have⟨n1,n2,n3⟩:=AGy (G:=G) c2;refine⟨E,Calls.mono (H w (K5 (EF σ' (gone (GL σ' d.ps args))) G) v vals bs (AGp (B.sub λk o h=>(O k o h).1)) p1 p2 y hy) λe w' hq=>?_⟩;obtain⟨rv,vs,I',h2,rfl,D,M,z,C,J,K,qd⟩:=hq;refine⟨rv,rfl,?_,λh=>qd (hD h _ _ U)⟩;have Q:=z.lend (L2 w) Y.after.mem;obtain⟨b1,b2,rfl,r1,r2⟩:=C.split D;exact A2x Y V R A X (n3 _ _) p3 p D M Q (AGr z (L2 w) c1 r1) (r2.nil_any n1) J K
    .cases L
 .cases L
def tO{d:Operand}(p:o.op=.call ⟨.value d,as,ts⟩){f:Nat}{b:Array Value}(m:a.eval d=.func (.func f) #[] b)(l:FK P f):
 (execOp a.eval o).run P w=.ok (.enter f (as.map a.eval++b)) w:=by
 obtain⟨fn,c,h1,e,j⟩:=l;have h:fn.name≠"runtime.NumGoroutine" :=by simpa using e
 have:(callFunc f (as.map a.eval++b)).run P w=.ok (.enter f (as.map a.eval++b)) w:=by simp[callFunc,h1,h,j]
 grind[execOp,resolve,Deferred.ofValue,invoke]
def AH1:∀{l:SV} {vs:List Value},CR P w G l vs->l.list.length<=vs.length->∀(j:Nat) (s:SV) (v:Value),l.list[j]?=some s->vs[j]?=some v->SR P w G s v:=by
 intro l;induction l with
 |scons a b A B=>
  intro vs h y j s v d z;obtain⟨C,r,rfl,⟨c,p,x⟩,D⟩:=h;cases j with
  |zero=>
   have e:a=s:=by simpa[SV.list]using d
   have m:C=v:=by simpa using z
   subst e m;exact⟨c,p,x⟩
  |succ j=>grind[SV.list]
 |_=>intro vs h y j s v d;simp[SV.list]at d
def AH2:∀{l:SV} {vs:List Value},CR P w G l vs->PM l=true->l.list.length=vs.length:=by
 intro l;induction l with
 |snil=>intro vs h _;have h:vs=[]:=h;rw[h];rfl
 |scons a b j d=>intro vs h hk;obtain⟨m,r,rfl,_,e⟩:=h;simp[SV.list,d e hk]
 |_=>intro vs h hk;cases hk
def A2y{σ:SSo}(C:∀k o,σ k=some o->ObjOK P fr w G k o):∀{d:Ty} {l:List SV} {x:d.T} {vs:List Value},YI σ d l=some x->l.length=vs.length->
 (∀(j:Nat) (s:SV) (v:Value),l[j]?=some s->vs[j]?=some v->SR P w G s v)->ArgsV w G.im d x vs:=by
 have B:∀{d:Ty} {l:List SV} {x:d.T} {vs:List Value},(match l with|[s]=>s.asV σ d|_=>none)=some x->l.length=vs.length->
  (∀(j:Nat) (s:SV) (v:Value),l[j]?=some s->vs[j]?=some v->SR P w G s v)->∃v,vs=[v]/\VRel w G.im d x v:=by
  intro d l x vs h e m;rcases l with _|⟨s,_|⟨_,_⟩⟩<;>first|(cases h;done)|skip
  rcases vs with _|⟨v,_|⟨_,_⟩⟩<;>first|(cases e;done)|skip
  exact⟨v,rfl,K0 C h (m 0 s v rfl rfl)⟩
 intro d;induction d with
 |prod a b D A=>
  intro l x vs h e m;cases l with
  |nil=>cases h
  |cons s r=>
   cases vs with
   |nil=>cases e
   |cons v vs=>
    simp only[YI]at h;split at h
    .rename_i y z h1 p;cases h;exact⟨v,vs,rfl,K0 C h1 (m 0 s v rfl rfl),A p (by simpa using e) λj s v h1 p=>m (j+1) s v oz (by simpa using p)⟩
    .cases h
 |_=>intro l x vs h e m;refine B ?_ e m;rcases l with _|⟨s,_|⟨_,_⟩⟩<;>exact h
def AH3:∀{c:Ty} {y:c.T} {vs:List Value},ArgsV w G.im c y vs->CR P w G (rD c y) vs:=by
 intro c;induction c with
 |prod a b l e=>intro y vs h;obtain⟨v,r,rfl,⟨cs,h1,d⟩,j⟩:=h;exact⟨v,r,rfl,⟨cs,h1,d⟩,e j⟩
 |_=>intro y vs h;obtain⟨v,rfl,cs,h1,d⟩:=h;exact⟨v,[],rfl,⟨cs,h1,d⟩,rfl⟩
def tP{c:Ty}{y:c.T}(h:RetV w G.im c y rv):SR P w G (cW c y) rv:=by
 cases c<;>first|exact h|skip
 obtain⟨vs,rfl,h⟩:=h;exact⟨_,rfl,vs,rfl,AH3 h⟩
theorem AH4(Z:Pins.P=P)(hE:∀f sp,fs f=some sp->FK P f/\FunOK P f sp)(hD:fr.dr=true->∀f sp,fs f=some sp->sp.dr=true){dr:Bool}(W:fr.dr=true->dr=true)(O:MemS P fr free σ w G)(T:∀k o,σ' k=some o->σ k=some o)(M:∀k,self<=k->k<self+8->free k)
 {H:Operand}(ho:o.op=.call ⟨.value H,as,ts⟩){sf:SV}(R:SR P w G sf (a.eval H))
 (p:args.length=as.toList.length)(hs:∀(j:Nat) (s:SV) (x:Operand),args[j]?=some s->as.toList[j]?=some x->SR P w G s (a.eval x))(m:sF dr fs σ' self sf args=some r)(hu:Gives r u):
 Done P fr.dr o a w (Res P fr free self σ w G u):=by
 unfold sF at m;split at m
 .rename_i f E;cases hk:PM E with
  |false=>rw[hk]at m;cases m
  |true=>
   rw[hk]at m;obtain⟨cc,D,vs,h1,K⟩:=R;have X:a.eval H=.func (.func f) #[] vs:=AC.1 ((show cc=[a.eval H]from D).symm.trans h1);have h3:=AH2 K hk;have V:∀(j:Nat) (s:SV) (v:Value),(args++E.list)[j]?=some s->(as.toList.map a.eval++vs.toList)[j]?=some v->SR P w G s v:=by
    intro j s v J l;by_cases N:j<args.length
    .rw[BJ N]at J;rw[BJ (by rw[B2,<-p];exact N),AX]at l;cases B:as.toList[j]? with
     |none=>rw[B]at l;cases l
     |some x=>rw[B]at l;cases l;exact hs j s x J B
    .have Y:args.length<=j:=D1 N;rw[BC Y]at J;rw[BC (by rw[B2,<-p];exact Y),B2,<-p]at l;exact AH1 K oa _ s v J l
   obtain⟨U,C⟩:FK P f/\Calls P f (as.toList.map a.eval++vs.toList).toArray w λe w'=>∃v,e=.returned v/\Res P fr free self σ w G u v w'/\(fr.dr=true->w.drawn<=w'.drawn):=by simp only[A6]at m;exact AH0 hE hD O T M (vals:=as.toList.map a.eval++vs.toList) (by simp[p,h3]) V m hu
   refine Done.enter (tO ho X U) ?_;have e:(as.toList.map a.eval++vs.toList).toArray=as.map a.eval++vs:=by apply C6;simp
   rw[e]at C;exact C
 .rename_i nd d c F;cases A:(!dr||nd)with
  |false=>rw[A]at m;cases m
  |true=>
  rw[A]at m;simp only[A6]at m;split at m
  .rename_i x B;cases m;obtain⟨y,hy,rfl⟩:=hu.may_inv;obtain⟨cc,D,f,vs,h1,U,K⟩:=R;have X:a.eval H=.func (.func f) #[] vs:=AC.1 ((show cc=[a.eval H]from D).symm.trans h1);have l:=A2y (λk o h=>O.objs k o (T k o h)) B (vs:=as.toList.map a.eval) (by simp [p]) (λj s v J l=>by
    rw[AX]at l;cases B:as.toList[j]? with
    |none=>rw[B]at l;cases l
    |some x=>rw[B]at l;cases l;exact hs j s x J B)
   refine Done.enter (tO ho X U) ?_;have z:as.map a.eval++vs=(as.toList.map a.eval).toArray++vs:=by apply C6;simp
   rw[z];refine Calls.mono (K w G.im (Ext.refl _ _) O.after.mem x _ l y hy) λe w' hq=>?_;obtain⟨rv,I',rfl,ha,Q,qd⟩:=hq;have⟨g1,g2⟩:=O.called (ks:=[]) (bs:=[]) (λb L=>by cases L) (ha.mono λb L=>absurd L id);exact⟨rv,rfl,⟨_,g1,g2.shrink λ_ h=>h.1,tP Q⟩,λh=>qd (by have:=W h;subst this;simpa using A)⟩
  .cases m
 .rename_i d c q;cases A:(!dr)with
  |false=>rw[A]at m;cases m
  |true=>
  rw[A]at m;simp only[A6]at m;split at m
  .rename_i x B;cases m;obtain⟨y,hy,rfl⟩:=hu.may_inv;have⟨F,hF,hy⟩:=B6.1 hy;have hF:q=some F:=hF;subst hF;obtain⟨cc,D,h1⟩:=R;have⟨f,vs,h1,U,K⟩:=A1p h1;rw[Z]at U K;have X:a.eval H=.func (.func f) #[] vs:=AC.1 ((show cc=[a.eval H]from D).symm.trans h1);have l:=A2y (λk o h=>O.objs k o (T k o h)) B (vs:=as.toList.map a.eval) (by simp [p]) (λj s v J l=>by
    rw[AX]at l;cases B:as.toList[j]? with
    |none=>rw[B]at l;cases l
    |some x=>rw[B]at l;cases l;exact hs j s x J B)
   refine Done.enter (tO ho X U) ?_;have z:as.map a.eval++vs=(as.toList.map a.eval).toArray++vs:=by apply C6;simp
   rw[z];refine Calls.mono (K w G.im (Ext.refl _ _) O.after.mem x _ l y hy) λe w' hq=>?_;obtain⟨rv,I',rfl,ha,Q,_⟩:=hq;have⟨g1,g2⟩:=O.called (ks:=[]) (bs:=[]) (λb L=>by cases L) (ha.mono λb L=>absurd L id);exact⟨rv,rfl,⟨_,g1,g2.shrink λ_ h=>h.1,tP Q⟩,λh=>by have:=W h;subst this;cases A⟩
  .cases m
 .cases m
theorem AH5{r:Operand}(x:o.op=.call ⟨.invoke r m,as,ts⟩)(b:as.toList=[])(y:a.eval r=.iface id v)
 {f:Nat}(s:(method (P.types.size+Made.depth) id v m).run P w=.ok (f,v) w)(l:FK P f):(execOp a.eval o).run P w=.ok (.enter f #[v]) w:=by
 obtain⟨fn,c,h1,e,j⟩:=l;have h:fn.name≠"runtime.NumGoroutine" :=by simpa using e
 have p:(callFunc f #[v]).run P w=.ok (.enter f #[v]) w:=by simp[callFunc,h1,h,j]
 have d:as= #[]:=by apply C6;simpa using b
 simp_all[callMethod,Sem.run_bind,run_program,Result.andThen_ok,execOp,resolve,invoke]
theorem AH6(N:∀f s,fs f=some s->FK P f/\FunOK P f s){D:Prop}(M:D->∀f s,fs f=some s->s.dr=true){mt:Nat->Option Nat}
 (O:∀id f,mt id=some f->∀(v:Value) (w:World),(method (P.types.size+Made.depth) id v m).run P w=.ok (f,v) w){c:Ty}(V:HQ w G.im):
 ∀{u:Ty} {F:u.T->Option c.T} {x:u.T} {y:c.T} {v:Value},dZ fs mt c u=some F->F x=some y->Rel w G.im u x [v]->
 ∃id d f,v=.iface id d/\(method (P.types.size+Made.depth) id d m).run P w=.ok (f,d) w/\FK P f/\
  Calls P f #[d] w λe w'=>∃rv I',e=.returned rv/\After VC w G.im w' I'/\RetV w' I' c y rv/\(D->w.drawn<=w'.drawn):=by
 intro u;induction u with
 |inil=>intro F x y v h A _;cases h;cases A
 |ialt id t r _ B=>
  intro F x y v h A C;unfold dZ at h;split at h
  .rename_i f T;cases p:MU t with
   |true=>grind
   |false=>
   rw[p]at h;simp only[A8]at h;split at h
   .rename_i F1 F2 h1 L;cases h;cases x with
    |inl z=>
     obtain⟨d,cs,E,H,J⟩:=C;have U:=eX (P:=P) (w:=w) (G:=G) (fr:=⟨VC,w,G.im,λ_=>none,false⟩) (σ:=λ_=>none) (D:=D) (λk o h=>oq) N (λh=>.inr ⟨M h,λ_ _ _ _ R=>by cases R⟩) h1 (cs:=[.func (.func f) #[] #[]]) ⟨#[],rfl,rfl⟩;obtain⟨X,W,K,l,j⟩:=U;cases K;have Q:ArgsV w G.im t z [d]:=by
      have:∃v,[d]=[v]/\VRel w G.im t z v:=⟨d,rfl,cs,H,J⟩;cases t with
      |prod a b=>cases p
      |_=>exact this
     have:=j w G.im (Ext.refl _ _) V z [d] Q y A;exact⟨id,d,f,AC.1 E,O id f T d w,l,this⟩
    |inr z=>exact B L A C.2
   .cases h
  .cases h
 |_=>intro F x y v h;cases h
theorem AH7(O:∀f p,fs f=some p->FK P f/\FunOK P f p)(N:fr.dr=true->∀f p,fs f=some p->p.dr=true){mt:String->Nat->Option Nat}
 (Q:∀m id f,mt m id=some f->∀(v:Value) (w:World),(method (P.types.size+Made.depth) id v m).run P w=.ok (f,v) w)(J:MemS P fr free σ w G)
 {E:Operand}(T:o.op=.call ⟨.invoke E m,as,ts⟩)(z:as.toList=[])(V:SR P w G s (a.eval E)){c:Ty}
 (j:sG fs mt c m s=some r)(W:Gives r u):Done P fr.dr o a w (Res P fr free self σ w G u):=by
 unfold sG at j;split at j
 .rename_i ut x;split at j
  .rename_i F H;cases j;obtain⟨y,Y,rfl⟩:=W.may_inv;obtain⟨cs,h1,M⟩:=V;have B:cs=[a.eval E]:=by
    cases ut with
    |ialt _ _ _=>exact h1
    |inil=>exact h1
    |_=>cases H
   subst B;have⟨h3,v',f,X,C,l,d⟩:=AH6 O N (Q m) J.after.mem H Y M;refine Done.enter (AH5 T z X C l) ?_;refine Calls.mono d λe w' U=>?_;obtain⟨rv,I',rfl,R,D,Z⟩:=U;have⟨K,L⟩:=J.called (ks:=[]) (bs:=[]) (λb A=>by cases A) (R.mono λb A=>absurd A id);exact⟨rv,rfl,⟨_,K,L.shrink λ_ h=>h.1,tP D⟩,Z⟩
  .cases j
 .cases j
theorem Done.calm(e:MemS P fr free σ w G)(h:u.wr=[]/\∃z,(execOp a.eval o).run P w=.ok (.value z) w/\SR P w G u.sv z):Done P fr.dr o a w (Res P fr free self σ w G u):=by obtain⟨h1,z,b,d⟩:=h;obtain⟨sv,wr⟩:=u;have h1:wr=[]:=h1;subst h1;exact Done.value b (Res.same e d)
def Done.makes(h:∃z w',(execOp a.eval o).run P w=.ok (.value z) w'/\Res P fr free self σ w G u z w'):Done P fr.dr o a w (Res P fr free self σ w G u):=by obtain⟨z,w',b,d⟩:=h;exact Done.value b d
def Done.writes(h:∃w',(execOp a.eval o).run P w=.ok .skip w'/\Res P fr free self σ w G u undef w'):Done P fr.dr o a w (Res P fr free self σ w G u):=by obtain⟨w',b,d⟩:=h;exact Done.skip b d
end
open Go.MapKept
section
variable{P:Program}{fr:Fr}{free free':Nat->Prop}{self:Nat}{σ σ':SSo}{w w':World}{G G':Gh}{I:Im}
def fC{eq:t.T->t.T->Bool}(h:NM t=some eq)(x y:t.T):eq x y=true<->x=y:=by
 cases t<;>simp only[NM]at h<;>first|(cases h;done)|skip
 .have h:=A2 h;subst h;exact(CI (α:=Bool) (a:=x) (b:=y))
 .have h:=A2 h;subst h;exact(CI (α:=Int) (a:=x) (b:=y))
 .have h:=A2 h;subst h;exact(CI (α:=DL) (a:=x) (b:=y))
theorem fD(k:Nat):JQ k (k+1)=true:=by simp_all[JQ,Nat.blt,A5,CC]
def A2z{k v:Ty}{eq:k.T->k.T->Bool}{d:TypeDesc}(hk:KeyAt P w I k eq d){x:k.T}(C:VRel w I k x vx):∀(b:List (k.T×v.T)) (ents:List MapEntry) (i:Nat),EntsOK w I k v b ents->
 (Instr.findNow d vx ents i=some none/\DW eq x b=none/\(∀z,EB eq x z b=b++[(x,z)])/\(∀q∈b,eq x q.1=false)/\∀e∈ents,e.key≠vx)\/
 (∃j e q,Instr.findNow d vx ents i=some (some (i+j,e.val))/\ents[j]?=some e/\b[j]?=some q/\eq x q.1=true/\DW eq x b=some q.2/\Instr.sameBits 10000 e.key vx=true/\(∀z,EB eq x z b=b.set j (x,z))/\e.key=vx):=by
 intro b;induction b with
 |nil=>intro ents i h;have:ents=[]:=AF h.1;subst this;exact .inl ⟨rfl,rfl,λz=>rfl,λq a=>(by cases a),λ_ h=>oq⟩
 |cons q b D=>
  intro ents i h;cases ents with
  |nil=>cases h.1
  |cons e ents=>
   have⟨h1,s⟩:=h.2 0 q e rfl rfl;have⟨s1,A,E⟩:=hk.same _ _ _ _ C h1;cases a:eq x q.1 with
   |true=>rw[a]at s1;exact .inr ⟨0,e,q,by simp[Instr.findNow,s1],rfl,rfl,a,by simp[DW,a],(A a).1,λz=>by simp[EB,a],(A a).2⟩
   |false=>
    rw[a]at s1;rcases D ents (i+1) ⟨by simpa using h.1,λj y e h1 s=>h.2 (j+1) y e oz (by simpa using s)⟩with⟨a1,a2,a3,a4,a8⟩|⟨j,l,y,a1,a2,a3,a4,a5,a6,a7,a8⟩
    .exact .inl ⟨by simp[Instr.findNow,s1,a1],by simp[DW,a,a2],λz=>by simp[EB,a,a3],λp B=>(A_.1 B).elim (λh=>h▸a) (a4 p),λl m=>(A_.1 m).elim (λh=>h▸E a) (a8 l)⟩
    .exact .inr ⟨j+1,l,y,by grind[Instr.findNow],by simpa using a2,by simpa using a3,a4,by simp[DW,a,a5],a6,λz=>by simp[EB,a,a7],a8⟩
theorem AH8{k e:Ty}(L:Lay P (.map k (.slice e)) id)(A:MemS P fr free σ w G)(m:free self)(d:free (self+1)){r:Option Value}(D:∀x,r=some x->∃I n,x=.int I n):
 ∃z w',(Instr.makeMap id r).run P w=.ok z w'/\Res P fr free self σ w G ⟨.obj self 0,[(self,some (.mg el k e [] none (self+1)))]⟩ z w':=by
 obtain⟨a,b,O,_,_⟩:=L.map;have y:(Instr.makeMap id r).run P w=.ok (.map (some w.heap.size)) (w.alloc (.map #[] 0)):=by
  cases r with
  |none=>rfl
  |some x=>obtain⟨I,n,rfl⟩:=D x rfl;simp[Instr.makeMap,run_underlying O,asInt,asIntOf]
 have⟨B,H⟩:=A.ghost d (.tuple #[]);let G0:Gh:=G.addVal (self+1) 0 (.tuple #[])
 have H:MemS P fr (λj=>free j/\j≠self+1) σ w G0:=H;have B:GLe w G w G0:=B;let G':Gh:=G0.addVal self 0 (.map (some w.heap.size))
 have l:G'.val self 0=some (.map (some w.heap.size)):=by simp[G',Gh.addVal]
 have E:G'.val (self+1) 0=some (.tuple #[]):=by simp[G',G0,Gh.addVal]
 have p:∀c,Bk G' self (.mg el k e [] none (self+1)) c->c=w.heap.size:=by
  intro c C;rcases C with C|⟨Q,R,C⟩
  .grind
  .grind
 have⟨J,K⟩:=H.new (w':=w.alloc (.map #[] 0)) (G':=G') (o':=.mg el k e [] none (self+1)) (self:=self) ⟨m,oa⟩ rfl rfl rfl rfl (λ_ _ h=>h) (λ_ _ h=>.inl h) rfl
  (λj s=>⟨rfl,rfl,λg=>by simp [G',Gh.addVal,s]⟩) (λN M=>⟨⟨_,#[],l,E,w.heap.size,#[],0,rfl,N,⟨rfl,stamped_empty 0⟩,rfl,λi x e u h=>by simp at h,
   λi j c h=>by simp at h,AW,λh=>absurd (A.after.inO _ h) (AA _),λo h=>absurd (A.after.inC _ _ h) (AA _),A.owned_new⟩,p⟩)
 exact ⟨_,_,y,G',B.trans J,K.shrink λj s=>⟨⟨s.1,λe=>by have:=s.2;grind[fD]⟩,s.2⟩,_,rfl,_,l,rfl,rfl⟩
def MemS.swapG(m:MemS P fr free σ w G){o o':Obj}(hk:σ k=some o)(D:ObjOK P fr w G k o')(z:∀b,Bk G k o' b->Bk G k o b):
 MemS P fr free (EF σ [(k,some o')]) w G:=by
 refine⟨λj p h=>?_,λi j A B y hi a d l=>?_,m.after,λj a=>?_⟩
 .rw[FP]at h;by_cases e:j=k
  .grind
  .rw[if_neg e]at h;exact m.objs j p h
 .rw[FP]at hi a;by_cases s:i=k<;>by_cases x:j=k
  .rw[s,x]
  .rw[if_pos s]at hi;rw[if_neg x]at a;cases hi;subst s;exact m.sep i j o B y hk a (z _ d) l
  .rw[if_neg s]at hi;rw[if_pos x]at a;cases a;subst x;exact m.sep i j A o y hi hk d (z _ l)
  .rw[if_neg s]at hi;rw[if_neg x]at a;exact m.sep i j A B y hi a d l
 .have C:=m.fresh j a;refine⟨?_,C.2⟩;rw[FP,if_neg (λe=>?_)]<;>grind
theorem A30{k:Ty}(H:Lay P (.map k (.slice t)) id){e:Nat}(z:w.heap[b]?=some (.map ents e)){d:TypeDesc}{C D:Nat}(j:P.underlying id=some (.map C D))(A:P.underlying C=some d)
 (s:IsKey d vk){a:Option (Nat×Value)}(G:Instr.findNow d vk ents.toList 0=some a):
 (Instr.lookup id (.map (some b)) vk false).run P w=.ok (match a with|some p=>p.2|none=>.slice none 0 0) w:=by
 have m:=run_checkKey (P:=P) (w:=w) A s ents.isEmpty 9999;obtain⟨K,L,h,I,x⟩:=H.map;rw[j]at h;cases h;have y:(zeroValue D).run P w=.ok (.slice none 0 0) w:=by
  have⟨i,v,h1,M,N,E,l⟩:=K4 x.inf;have J:v=.slice none 0 0:=by
   simp only[zv]at l;split at l
   .cases l
   .unfold PS at l;split at l
    .rename_i y;simp only[zc]at y;grind
    .cases l
  subst J;simp[zeroValue,typeInfo,h1,E]
 have B:=run_findKey (P:=P) (w:=w) A G;cases a with
 |none=>simp[Instr.lookup,run_underlying j,MapKept.run_getObj_map z,m,B,y]
 |some p=>simp[Instr.lookup,run_underlying j,MapKept.run_getObj_map z,m,B]
def VL{m:Value}{g:Nat}(a:SR P w G (.obj j g) m):G.val j g=some m:=by obtain⟨c,h,d,e,_,b⟩:=a;have:[m]=[d]:=(show c=[m]from h).symm.trans b;grind
theorem AH9(hl:Lay P t id)(hm:MemS P fr free σ w G)(z1:∀k o,σ' k=some o->σ k=some o)(R:free self)(I:free (self+1)){m:SV}{vm:Value}
 (H:dP σ' self t m s=some r)(hu:Gives r u)(y8:SR P w G m vm)(hs:SR P w G s vk):
 ∃z,(Instr.lookup id vm vk false).run P w=.ok z w/\Res P fr free self σ w G u z w:=by
 unfold dP at H;split at H
 .rename_i k v;split at H
  .rename_i j g;split at H
   .rename_i el J p y gk hk;cases D:(Nat.beq g 0&&(J.same k&&(Ty.slice p).same v))with
    |false=>rw[D]at H;cases H
    |true=>
     rw[D]at H;simp only[A6]at H;simp only[A5]at D;have hg:=A4 D.1;have e1:=Ty.same_eq D.2.1;have e2:=Ty.same_eq D.2.2;subst hg e1 e2;split at H
     .rename_i eq a x0 ha;cases H;rw[hu.pure_inv];have E:=z1 _ _ hk;have⟨cv,W,q1,q2,h9⟩:=hm.objs _ _ E;have z3:=h9;have x2:=h9;obtain⟨bl,ents,M,rfl,p1,p2,p3,p4,p5,p6,p7,p8,p9⟩:=h9;obtain⟨_,_,_,y4,hh,h6⟩:=x2.ents;cases y4;rw[p1]at hh;cases hh;have y2:=VL y8;rw[q1]at y2;cases y2;obtain⟨ka,va,x5,y7,a8⟩:=hl.map;have h4:VRel w G.im J a vk:=KK ha hs;have⟨d,hd,Q⟩:=key_ok (P:=P) (w:=w) (I:=G.im) y7 x0;have x1:∀{i},free i->i≠j:=λ{i} hi e=>by have h1:=(hm.fresh i hi).1;rw[e,E]at h1;cases h1
      obtain⟨z,B,hz,T,y1,y9⟩:∃z B,(Instr.lookup id (.map (some bl)) vk false).run P w=.ok z w/\SlOK fr w G.im el p ((DW eq a y).getD []) false z/\
       MgOK fr w G.im el J p y (some a) B (.map (some bl))/\((∀c,Value.map (some c)∈B->Value.map (some c)∈W.toList/\HS z≠.map (some c))/\∀c,HS z=.map (some c)->Value.map (some c)∈W.toList):=by
       rcases A2z (P:=P) (v:=.slice p) Q h4 y ents.toList 0 h6.1 with⟨a1,a2,Z,a4,_⟩|⟨i,e,q,a1,a2,Z,a4,a5,a6,a7,_⟩
       .refine⟨_,W.toList,A30 hl p1 x5 hd (Q.key _ _ h4) a1,?_,⟨bl,ents,M,rfl,p1,p2,p3,λi x e u h1 h2 h3=>?_,p5,p6,p7,p8,p9⟩,λc l=>⟨l,λh=>oq⟩,λc h=>oq⟩
        .have a2:DW eq a y=(none:Option (List p.T)):=a2;rw[a2];exact .inl ⟨rfl,rfl⟩
        .obtain⟨b1,K⟩:=p4 i x e u h1 h2 h3;rcases K with⟨K,_⟩|K
         .cases K
         .exact⟨b1,.inr K⟩
       .have C:i<W.toList.length:=by rw[p3];exact(A3.1 Z).1
        have⟨b1,K⟩:=p4 i q e _ Z (by rw[<-B4];exact a2) (A1 C);rcases K with⟨K,_⟩|⟨K,b3⟩
        .cases K
        have hq:a=q.1:=(fC x0 _ _).1 a4;have Z:y[i]?=(some q:Option (J.T×List p.T)):=Z;have a5:DW eq a y=(some q.2:Option (List p.T)):=a5;refine⟨e.val,W.toList.set i (Value.map none),A30 hl p1 x5 hd (Q.key _ _ h4) a1,by rw[a5];exact K,⟨bl,ents,M,rfl,p1,p2,by simpa using p3,λV x e' u h1 h2 h3=>?_,λi1 i2 c h1 h2=>?_,p6,p7,p8,p9⟩,λc l=>?_,λc l=>?_⟩
        .by_cases A:i=V
         .subst A;rw[Z]at h1;cases h1;rw[BU C]at h3;cases h3;have⟨b4,L⟩:=p4 i q e' _ Z h2 (A1 C);refine⟨b4,.inl ⟨by rw[hq],rfl,?_⟩⟩;rcases L with⟨_,_,L⟩|⟨L,_⟩
          .exact L
          .exact⟨_,rfl,VE L⟩
         .rw[BZ A]at h3;have⟨b4,L⟩:=p4 V x e' u h1 h2 h3;rcases L with⟨L,_⟩|L
          .cases L
          .exact⟨b4,.inr L⟩
        .have x3:∀V:Nat,(W.toList.set i (Value.map none))[V]?=some (Value.map (some c))->W.toList[V]?=some (Value.map (some c)):=by
          intro V h;by_cases A:i=V
          .subst A;rw[BU C]at h;cases h
          .rw[BZ A]at h;exact h
         exact p5 i1 i2 c (x3 _ h1) (x3 _ h2)
        .obtain⟨V,O⟩:=BN l;by_cases A:i=V
         .subst A;rw[BU C]at O;cases O
         .rw[BZ A]at O;refine⟨AH O,λh=>A ?_⟩;exact p5 i V c (by rw[A1 C,b3,h]) O
        .rw[<-l,<-b3];exact AL C
      obtain⟨Y,y0⟩:=y9;refine⟨z,hz,?_⟩;have⟨g0,m0⟩:=hm.ghost I (.tuple B.toArray);let G0:Gh:=G.addVal (self+1) 0 (.tuple B.toArray)
      have m0:MemS P fr (λj=>free j/\j≠self+1) σ w G0:=m0;have g0:GLe w G w G0:=g0;have X:G0.val j 0=some (.map (some bl)):=g0.val _ _ _ q1;have N:G0.val (self+1) 0=some (.tuple B.toArray):=by simp[G0,Gh.addVal]
      have z9:self+1≠j:=x1 I;have z4:self≠j:=x1 R;have x4:∀c,Bk G0 j (.mg el J p y (some a) (self+1)) c->Bk G0 j (.mg el J p y none gk) c:=by
       intro c l;rcases l with l|⟨z2,h8,l⟩
       .exact .inl l
       .rw[N]at h8;cases h8;exact .inr ⟨W,g0.val _ _ _ q2,(Y c (by simpa using l)).1⟩
      have m1:=m0.swapG E (o':=.mg el J p y (some a) (self+1)) ⟨_,B.toArray,X,N,(by simpa using y1:MgOK fr w G.im el J p y (some a) B.toArray.toList (.map (some bl)))⟩ x4;let G':Gh:=(G0.addVal self 0 z).addEty self p
      have U:G'.val self 0=some z:=by simp[G',Gh.addVal,Gh.addEty]
      have h5:∀c,Bk G' self (.sl el p ((DW eq a y).getD []) 0 false) c->HS z=.map (some c):=by
       intro c l;simp only[Bk,U]at l;split at l
       .rename_i ad _ _ he;cases he;cases l;rfl
       .cases l
      have y5:free self/\self≠self+1:=⟨R,oa⟩
      have⟨g1,m2⟩:=m1.add (G':=G') (o:=.sl el p ((DW eq a y).getD []) 0 false) (k:=self) y5 rfl (λi hi=>⟨rfl,by simp[G',Gh.addVal,Gh.addEty,hi],λg=>by simp[G',Gh.addVal,Gh.addEty,hi]⟩)
       (λa0=>⟨by simp[G',Gh.addVal,Gh.addEty],z,U,T⟩)
       (λc l i o' hi D=>by
        have l:=h5 c l;have y6:=y0 c l;by_cases h7:i=j
        .subst h7;rw[FP,if_pos rfl]at hi;cases hi;rcases D with D|⟨z2,h8,D⟩
         .rw[X]at D;cases D;have⟨_,_,y3,cells,_,fz,a5,_⟩:=T.slice l;rw[p1]at a5;cases a5
         .rw[N]at h8;cases h8;exact(Y c (by simpa using D)).2 l
        .rw[FP,if_neg h7]at hi;exact h7 (m0.sep i j o' _ c hi E D (.inr ⟨W,g0.val _ _ _ q2,y6⟩)))
      refine⟨G',g0.trans g1,?_,_,rfl,z,U,?_,rfl⟩
      .have e3:EF σ [(self,some (.sl el p ((DW eq a y).getD []) 0 false)),(j,some (.mg el J p y (some a) (self+1)))]=EF (EF σ [(j,some (.mg el J p y (some a) (self+1)))]) [(self,some (.sl el p ((DW eq a y).getD []) 0 false))]:=
        GW σ [(self,some (.sl el p ((DW eq a y).getD []) 0 false))] [(j,some (.mg el J p y (some a) (self+1)))]
       show MemS P fr (JA free self) (EF σ [(self,some (.sl el p ((DW eq a y).getD []) 0 false)),(j,some (.mg el J p y (some a) (self+1)))]) w G';rw[e3];exact m2.shrink λi hi=>⟨⟨hi.1,λe=>by
        have:=hi.2;subst e;rw[fD]at this;cases this⟩,λe=>by
        have:=hi.2;subst e;rw[eV]at this;cases this⟩
      .rcases T with⟨rfl,_⟩|⟨b,y3,cs,rfl,_⟩<;>rfl
     .cases H
   .cases H
  .cases H
 .cases H
def MgOK.put{fr:Fr}{w w':World}{k:Ty}{eq:k.T->k.T->Bool}(C:NM k=some eq){l:List (k.T×List t.T)}{tk:Option k.T}{B:List Value}{bl y:Nat}
 (h:MgOK fr w I el k t l tk B (.map (some bl)))(Z:w.heap[bl]?=some (.map ents y)){a:k.T}{xs:List t.T}(hx:SlOK fr w I el t xs false vx)(x1:tk=none\/tk=some a)
 (h9:∀c,HS vx=.map (some c)->Value.map (some c) ∉ B)(e:Ext w I w' I)(hw:∀N,N≠bl->w'.heap[N]?=w.heap[N]?){b:Array MapEntry}{d:Nat}(hh:w'.heap[bl]?=some (.map b d)){en:MapEntry}(hk:VRel w I k a en.key)(M:en.val=vx)(D:Stamped b d)
 (hp:(EB eq a xs l=l++[(a,xs)]/\(∀q∈l,eq a q.1=false)/\b.toList=ents.toList++[en])\/(∃j q,l[j]?=some q/\eq a q.1=true/\EB eq a xs l=l.set j (a,xs)/\b.toList=ents.toList.set j en)):
 ∃E,MgOK fr w' I el k t (EB eq a xs l) none E (.map (some bl))/\∀c,Value.map (some c)∈E->Value.map (some c)∈B\/HS vx=.map (some c):=by
 have z:∀{X:List t.T} {v:Value},SlOK fr w I el t X false v->SlOK fr w' I el t X false v:=by intro X v hs;refine hs.keep e λc T=>⟨hw c λec=>?_,λ_ h=>h,λh=>h⟩;have⟨_,_,h7,cells,_,fz,Y,_⟩:=hs.slice T;rw[ec,Z]at Y;cases Y
 obtain⟨h6,R,K,h0,p1,⟨p2,_⟩,p3,p4,p5,p6,p7,p8,p9⟩:=h;cases h0;rw[Z]at p1;cases p1;have x0:∀i:Nat,ents[i]?=ents.toList[i]?:=λi=>by rw[B4]
 have h5:∀(i:Nat) (x:k.T×List t.T) (p:MapEntry) (u:Value),l[i]?=some x->ents[i]?=some p->B[i]?=some u->x.1≠a->
  VRel w' I k x.1 p.key/\SlOK fr w' I el t x.2 false p.val/\u=HS p.val:=by
  intro i x p u h1 m s x2;have⟨b1,G⟩:=p4 i x p u h1 m s;rcases G with⟨G,_⟩|⟨G,b3⟩
  .grind
  .exact⟨b1.ext e,z G,b3⟩
 rcases hp with⟨H,O,J⟩|⟨j,q,H,O,J,c4⟩
 .have h8:∀q∈l,q.1≠a:=λq L Q=>by have:=O q L;rw[Q,(fC C a a).2 rfl]at this;cases this
  refine⟨B++[HS vx],⟨bl,b,d,rfl,hh,⟨?_,D⟩,oc,λi x p u h1 m s=>?_,λi1 i2 c h1 m=>?_,?_,p7,p8,p9⟩,λc T=>?_⟩
  .grind[Array.length_toList]
  .rw[H]at h1;rw[<-B4,J]at m;by_cases W:i<l.length
   .grind
   .have V:l.length<=i:=D1 W;rw[BC V]at h1;rw[BC oc,BG,p2]at m;rw[BC oa,p3]at s;have h0:i-l.length=0:=by have:=(A3.1 h1).1;simp at this;omega
    rw[h0]at h1 m s;cases h1;cases m;cases s;exact⟨hk.ext e,.inr ⟨M▸z hx,by rw[M]⟩⟩
  .grind
  .grind
  grind
 .have L:a=q.1:=(fC C _ _).1 O;have hj:j<l.length:=(A3.1 H).1;have h4:∀(i:Nat) (x:k.T×List t.T),l[i]?=some x->i≠j->x.1≠a:=by
   intro i x hi A Q;have h1:(l.map (·.1))[i]?=some a:=by rw[AX,hi,<-Q];rfl
   have m:(l.map (·.1))[j]?=some a:=by rw[AX,H,L];rfl
   have U:i<(l.map (·.1)).length:=(A3.1 h1).1;exact A ((List.getElem?_inj U p6).1 (h1.trans m.symm))
  refine⟨B.set j (HS vx),⟨bl,b,d,rfl,hh,⟨?_,D⟩,oc,λi x p u h1 m s=>?_,λi1 i2 c h1 m=>?_,?_,p7,p8,p9⟩,λc T=>?_⟩
  .grind[Array.length_toList]
  .rw[J]at h1;rw[<-B4,c4]at m;by_cases A:j=i
   .subst A;rw[BU hj]at h1;rw[BU oc]at m;rw[BU oa]at s;cases h1;cases m;cases s;exact⟨hk.ext e,.inr ⟨M▸z hx,by rw[M]⟩⟩
   grind
  .grind
  .rw[J,List.map_set,L];have:(l.map (·.1)).set j q.1=l.map (·.1):=by
    apply BR;intro n;by_cases hn:j=n
    .grind
    .rw[BZ hn]
   grind
  grind
theorem AHA(hl:Lay P t id)(O:MemS P fr free σ w G)(z2:∀k o,σ' k=some o->σ k=some o)(U:free (self+1)){m sx:SV}{vm:Value}
 (D:r_ σ' self t m s sx=some r)(hu:Gives r u)(b9:SR P w G m vm)(hs:SR P w G s vk)(c2:SR P w G sx vx):
 ∃w',(Instr.mapUpdate id vm vk vx).run P w=.ok () w'/\Res P fr free self σ w G u undef w':=by
 unfold r_ at D;split at D
 .rename_i k v;split at D
  .rename_i j g i h;split at D
   .rename_i el K t' C tk gk c5 Q E h2 b0 a9;cases hb:(Nat.beq g 0&&((K.same k&&(Ty.slice t').same v)&&(Nat.beq h 0&&(Nat.beq h2 0&&(Nat.beq el c5 && !(Nat.beq i j))))))with
    |false=>rw[hb]at D;cases D
    |true=>
     rw[hb]at D;simp only[A6]at D;simp only[A5,BE]at hb;obtain⟨b1,⟨b2,b3⟩,b4,b5,b6,b7⟩:=hb;have e1:=A4 b1;have e2:=Ty.same_eq b2;have e3:=Ty.same_eq b3;have e4:=A4 b4;have e5:=A4 b5;have e6:=A4 b6;subst e1 e2 e3 e4 e5 e6;have a0:i≠j:=λe=>by rw[e,CM]at b7;cases b7
     split at D
     .rename_i eq a ys h4 ha c4;obtain⟨ety,ey⟩:=Ty.cast?_some c4;injection ety with ety;subst ety;cases ey;have V:tk=none\/tk=some a->∃w',(Instr.mapUpdate id vm vk vx).run P w=.ok () w'/\Res P fr free self σ w G ⟨.undef,[(j,some (.mg el K Q (EB eq a E C) none (self+1))),(i,none)]⟩ undef w':=by
       intro c3;have A:=z2 _ _ b0;have J:=z2 _ _ a9;have⟨cv,us,q1,q2,h5⟩:=O.objs _ _ A;have⟨_,d0,x1,x2⟩:=O.objs _ _ J;have y8:=VL c2;rw[x1]at y8;cases y8;obtain⟨bl,ents,x,z9,W,h3⟩:=h5.ents;subst z9;have y7:=VL b9;rw[q1]at y7;cases y7;have y3:=h5;obtain⟨c6,z4,z3,h0,p1,p2,p3,p4,p5,p6,p7,p8,p9⟩:=y3;cases h0;rw[W]at p1;cases p1;obtain⟨ka,va,y5,b8,c8⟩:=hl.map;have T:VRel w G.im K a vk:=KK ha hs;have⟨d,hd,X⟩:=key_ok (P:=P) (w:=w) (I:=G.im) b8 h4;have x0:=run_checkKey (P:=P) (w:=w) hd (X.key _ _ T) false 9999;have y4:=λo'=>heap_set (o':=o') W;have h9:∀c,HS vx=.map (some c)->Bk G i (.sl el Q E 0 false) c:=by intro c M;have⟨_,_,c7,cells,e1,_⟩:=x2.slice M;simp only[Bk,x1,e1]
       have z:∀c,HS vx=.map (some c)->Value.map (some c) ∉ us.toList:=λc M I=>a0 (O.sep i j _ _ c J A (h9 c M) (.inr ⟨us,q2,I⟩))
       have h7:∀(l:Array MapEntry) (b:Nat) (en:MapEntry),VRel w G.im K a en.key->en.val=vx->Stamped l b->
        ((EB eq a E C=C++[(a,E)]/\(∀q∈C,eq a q.1=false)/\l.toList=ents.toList++[en])\/(∃j q,C[j]?=some q/\eq a q.1=true/\EB eq a E C=C.set j (a,E)/\l.toList=ents.toList.set j en))->
        Res P fr free self σ w G ⟨.undef,[(j,some (.mg el K Q (EB eq a E C) none (self+1))),(i,none)]⟩ undef {w with heap:=w.heap.setIfInBounds bl (.map l b)}:=by
        intro l b en x4 x5 c1 hp;have⟨s1,s2⟩:=y4 (.map l b);have m0:=O.drop i;have x3:∀y o,EF σ [(i,none)] y=some o->y≠i/\σ y=some o:=by
         intro y o B;rw[FP]at B;by_cases e:y=i
         .rw[if_pos e]at B;cases B
         .rw[if_neg e]at B;exact⟨e,B⟩
        have y1:GLe w G {w with heap:=w.heap.setIfInBounds bl (.map l b)} G:=GLe.of_heap (b:=bl) (λZ z=>s2 Z z) p8 p7;have⟨L,y2,y6⟩:=h5.put h4 W x2 c3 z y1.ext (w':={w with heap:=w.heap.setIfInBounds bl (.map l b)}) (λZ z=>s2 Z z) s1 x4 x5 c1 hp;have⟨g1,m1⟩:=m0.ghost U (.tuple L.toArray);let G0:Gh:=G.addVal (self+1) 0 (.tuple L.toArray)
        have m1:MemS P fr (λj=>free j/\j≠self+1) (EF σ [(i,none)]) w G0:=m1;have g1:GLe w G w G0:=g1;have Y:G0.val (self+1) 0=some (.tuple L.toArray):=by simp[G0,Gh.addVal]
        have y0:GLe w G0 {w with heap:=w.heap.setIfInBounds bl (.map l b)} G0:=GLe.of_heap (b:=bl) (λZ z=>s2 Z z) p8 p7
        have m2:=m1.change (w':={w with heap:=w.heap.setIfInBounds bl (.map l b)}) (G':=G0) (b:=bl) (k:=j) (o':=some (.mg el K Q (EB eq a E C) none (self+1))) (free':=JA free self) y0
         (λy o B p H=>by have⟨z1,p⟩:=x3 y o p;exact B (O.sep y j o _ bl p A (by rw[<-H6 (O.objs y o p) g1];exact H) (.inl q1)))
         (λZ _ z=>s2 Z z) oh (by simpa using NU W) p9 (λ_ _ h=>.inl h) (λ_ h=>.inl h) rfl rfl rfl
         (λo ho=>by
          cases ho;refine⟨⟨_,L.toArray,g1.val _ _ _ q1,Y,(by simpa using y2:MgOK fr {w with heap:=w.heap.setIfInBounds bl (.map l b)} G.im el K Q (EB eq a E C) none L.toArray.toList (.map (some bl)))⟩,λc M=>?_⟩;rcases M with M|⟨c9,h8,M⟩
          .rw[g1.val _ _ _ q1]at M;cases M;exact .inl rfl
          .rw[Y]at h8;cases h8;refine .inr λy oy B p H=>?_;have⟨z1,p⟩:=x3 y oy p;rw[H6 (O.objs y oy p) g1]at H;rcases y6 c (by simpa using M)with h|h
           .exact B (O.sep y j oy _ c p A H (.inr ⟨us,q2,h⟩))
           .exact z1 (O.sep y i oy _ c p J H (h9 c h)))
         (λy B=>by
          have N:=O.fresh y B.1;have y9:y≠self+1:=λe=>by have:=B.2;rw[e,fD]at this;cases this
          exact⟨λe=>(by rw[e,A]at N;cases N.1),⟨B.1,y9⟩,N.2.1,N.2.2.1,λg=>by simp only[G0,Gh.addVal,y9,DC,CL];exact N.2.2.2 g⟩)
        refine⟨G0,g1.trans y0,?_,_,rfl,trivial⟩
        have e3:EF σ [(j,some (.mg el K Q (EB eq a E C) none (self+1))),(i,none)]=EF (EF σ [(i,none)]) [(j,some (.mg el K Q (EB eq a E C) none (self+1)))]:=
         GW σ [(j,some (.mg el K Q (EB eq a E C) none (self+1)))] [(i,none)]
        show MemS P fr (JA free self) (EF σ [(j,some (.mg el K Q (EB eq a E C) none (self+1))),(i,none)]) _ G0;rw[e3];exact m2
       rcases A2z (P:=P) (v:=.slice Q) X T C ents.toList 0 h3.1 with⟨a1,a2,a3,a4,a8⟩|⟨i',e,q,a1,a2,a3,a4,a5,a6,a7,a8⟩
       .have N:=run_findKey (P:=P) (w:=w) hd a1;refine⟨_,?_,h7 (ents.push {key:=vk,val:=vx,born:=x}) (x+1) {key:=vk,val:=vx,born:=x} T rfl (stamped_push p2.2 a8) (.inl ⟨a3 E,a4,Array.toList_push⟩)⟩;simp[Instr.mapUpdate,run_underlying y5,MapKept.run_getObj_map W,x0,N,run_setObj_map _ W]
       .have N:=run_findKey (P:=P) (w:=w) hd a1;rw[BO]at N;have R:ents[i']?=some e:=by rw[<-B4];exact a2
        refine⟨_,?_,h7 (ents.modify i' λe=>{e with key:=vk,val:=vx}) x {e with key:=vk,val:=vx} T rfl (stamped_modify p2.2 i' _ (λ_ _=>rfl) (λe' _ h=>by rw[R]at h;cases h;exact a8.symm)) (.inr ⟨i',q,a3,a4,a7 E,?_⟩)⟩
        .simp[Instr.mapUpdate,run_underlying y5,MapKept.run_getObj_map W,x0,N,R,Instr.keyThatStays,a6,run_setObj_map _ W]
        .apply BR;intro n;rw[B4,Array.getElem?_modify];by_cases I:i'=n
         .subst I;rw[if_pos rfl,R,BU (by have:=(B1.1 R).1;simpa using this)];rfl
         .rw[if_neg I,BZ I,B4]
      cases tk with
      |none=>cases D;rw[hu.pure_inv];exact V (.inl rfl)
      |some q=>
       cases D;obtain⟨y,B,rfl⟩:=hu.may_inv;have h6:eq q a=true:=by
        cases h6:eq q a with
        |true=>rfl
        |false=>rw[h6]at B;cases B
       exact V (.inr (by rw[(fC h4 _ _).1 h6]))
     .cases D
   .cases D
  .cases D
 .cases D
def fE{c:List Nat}(h:i<bss.length):(bss.set i c).flatten=(bss.take i).flatten++(c++(bss.drop (i+1)).flatten):=by rw[List.set_eq_take_append_cons_drop,if_pos h];simp
def tQ(h:i<bss.length):bss.flatten=(bss.take i).flatten++(bss.getD i []++(bss.drop (i+1)).flatten):=by have:=fE (c:=bss.getD i []) h;simp_all
def tR{c:List Nat}(h:i<bss.length):(bss.set i c).getD j []=if i=j then c else bss.getD j []:=by grind
theorem tS:VD none i=none:=rfl
theorem tT:VD (some [j]) i=if j=i then some []else none:=by simp_all[VD,CM,if_neg,Nat.beq,BW,A4]
theorem DV.inv1{xs:List t.T}(h:DV ow w I t [id] xs none [v] bs):
 (v=.slice none 0 0/\xs=[]/\bs=[])\/∃b o a cells,v=.slice (some ⟨b,o,none⟩) xs.length a/\bs=[b]/\IS xs.length a/\RowAt w b cells id/\o+a*t.sz<=cells.size/\ow b/\
  (∀c,¬I.cell b c)/\¬I.obj b/\RowsOK w I t xs (cells.toList.drop o):=by
 have h0:=h;obtain⟨E,h1,_,d⟩:=h0;have e:v=E:=AC.1 h1;subst e;rcases d with⟨d,_⟩|⟨_,j,m,p⟩|⟨_,b,o,a,_,_,l,_⟩
 .cases d
 .exact .inl ⟨j,m,p⟩
 .obtain⟨cells,j,s,y,z,A,B,C,D,H⟩:=h.leaf l;exact .inr ⟨b,o,a,cells,l,D,s,y,z,A,B,C,λi x G=>by simp_all⟩
theorem DV.mk1{o cap:Nat}{xs:List t.T}{cells:Array Value}(a:IS xs.length cap)(d:RowAt w b cells id)(e:o+cap*t.sz<=cells.size)(j:ow b)
 (l:∀c,¬I.cell b c)(m:¬I.obj b)(p:RowsOK w I t xs (cells.toList.drop o)):DV ow w I t [id] xs none [.slice (some ⟨b,o,none⟩) xs.length cap] [b]:=
 DV.mkleaf a d e j l m λi x h=>by have:=p i x h;simp_all
def AHB{free:Nat->Prop}{self:Nat}(h:JA free self j):free j/\¬(self<=j/\j<self+2):=by
 have b:=h.2;refine⟨h.1,λa=>?_⟩;have:JQ self j=true:=by simp only[JQ,Nat.blt,A5];exact⟨CC a.1,CC oa⟩
 grind
theorem MemS.mk_dp(z:MemS P fr free σ w G)(l:free self)(d:free (self+1)){r:List Nat}{x:(E2 (id::r) t).T}
 (s:DV fr.owned w G.im t (id::r) x none [v] bs)(e:bs.Nodup)(a:∀b∈bs,∀j o,σ j=some o->¬Bk G j o b):
 ∃G',GLe w G w G'/\MemS P fr (JA free self) (EF σ [(self,some (.dp (id::r) t x (self+1) none true))]) w G'/\SR P w G' (.obj self 0) v:=by
 obtain ⟨G',h1,m,_⟩:=A2l (n:=self) z (ids:=id::r) (t:=t) (x:=x) (cs:=[v]) ⟨(by intro h; cases h),s.own λ_ _=>trivial⟩ e (λb p=>⟨(s.blk b p).2.1,a b p⟩) (λk h1 m=>by grind)
 exact⟨G',h1.le,h1.mem.shrink λj y=>AHB y,[v],rfl,m⟩
theorem OQ{r:List Nat}{x:(E2 (id::r) t).T}{d:Nat}{a:Array Value}(e:G.val d 0=some (.tuple a))(j:a.toList=List.map IK bs):
 Bk G k (.dp (id::r) t x d h true) b<->b∈bs:=by
 constructor
 .rintro⟨_,l,m,p⟩;grind[MV]
 .intro h;exact⟨rfl,a,e,(MV j).2 h⟩
def MemS.touch(s:MemS P fr free σ w G)(H:¬free k)(D:∀j o,j≠k->σ j=some o->¬Bk G j o b)(B:∀o,¬G.im.cell b o)(C:¬G.im.obj b)(p:fr.owned b)
 (A:∀a,a<w.heap.size->a≠b->w'.heap[a]?=w.heap[a]?)(z:w.heap.size<=w'.heap.size)(x:b<w'.heap.size)
 (y:w'.os=w.os)(d:w'.tape=w.tape)(m:w'.output=w.output):
 GLe w G w' G/\MemS P fr free (EF σ [(k,none)]) w' G:=by
 have l:GLe w G w' G:=by
  refine⟨⟨λa o h=>⟨h,?_⟩,λa h=>⟨h,?_⟩⟩,λ_ _ _ h=>h,λ_ _ h=>h,λ_ _ h=>h⟩
  .have:a≠b:=λe=>B o (e▸h);simp only[World.cell?,A a (s.after.inC a o h) this]
  .exact A a (s.after.inO a h) (λe=>C (e▸h))
 refine⟨l,s.change (b:=b) (o':=none) l D A z x p (λ_ _ h=>.inl h) (λ_ h=>.inl h) y d m (λo h=>oq) λj E=>?_⟩;have I:=s.fresh j E;grind
def tU{o:Obj}(a:MemS P fr free σ w G)(hk:σ k=some o):¬free k:=λh=>by have:=(a.fresh k h).1;grind
theorem AHC{e':Ty}{gk:Nat}(hl:Lay P (.slice e') id)(hel:∀x,P.underlying id=some (.slice x)->el=x)(hm:MemS P fr free σ w G)(hself:free self)(hself1:free (self+1))
 {xs ys zs:List e'.T}(hkσ:σ k=some (.dp [el] e' xs gk none true))(hs:SR P w G (.obj k 0) v)(hv0:VH P w G.im e' id ys vx)(hz:app? (24*e'.sz) xs ys=some zs):
 ∃z w',(Builtin.append_ #[id,id] ty #[v,vx]).run P w=.ok z w'/\Res P fr free self σ w G ⟨.obj self 0,[(self,some (.dp [el] e' zs (self+1) none true)),(k,none)]⟩ z w':=by
 have hnk:=tU hm hkσ;have⟨_,hety,v',us,bs,k1,k2,k3,k4,k5⟩:=DpOK.inv (hm.objs _ _ hkσ);have hv:=VL hs;rw[k1]at hv;cases hv;have hbk:∀b,Bk G k (.dp [el] e' xs gk none true) b<->b∈bs:=λb=>OQ k2 k3;obtain⟨el',hun,hle,hpos⟩:=hl.slice;have:=hel _ hun;subst this;have⟨hB,hzs⟩:=tF hz;subst hzs;have⟨i,z,h1,h2',h3,h4,h5,h6⟩:=PU (P:=P) (w:=w) (I:=G.im) hle;have hvs:=hv0;obtain⟨news,s1,s2,s3⟩:=hvs;rw[<-h2']at s1
 have fin:∀{w':World} {b o cap:Nat} {cells:Array Value},(∀j ob,j≠k->σ j=some ob->¬Bk G j ob b)->(∀c,¬G.im.cell b c)->¬G.im.obj b->fr.owned b->
  (∀b',b'<w.heap.size->b'≠b->w'.heap[b']?=w.heap[b']?)->w.heap.size<=w'.heap.size->w'.os=w.os->w'.tape=w.tape->w'.output=w.output->
  IS (xs++ys).length cap->RowAt w' b cells el->o+cap*e'.sz<=cells.size->RowsOK w G.im e' (xs++ys) (cells.toList.drop o)->
  Res P fr free self σ w G ⟨.obj self 0,[(self,some (.dp [el] e' (xs++ys) (self+1) none true)),(k,none)]⟩ (.slice (some ⟨b,o,none⟩) (xs++ys).length cap) w':=by
  intro w' b o cap cells a1 a2 a3 a4 a5 a6 a7 a8 a9 a10 a11 a12 a13;have⟨g1,m1⟩:=hm.touch (w':=w') hnk a1 a2 a3 a4 a5 a6 a11.lt a7 a8 a9;obtain ⟨G',g2,m2,m3⟩:=m1.mk_dp hself hself1 (id:=el) (r:=[]) (t:=e') (x:=(xs++ys:List e'.T)) (DV.mk1 (id:=el) (t:=e') a10 a11 a12 a4 a2 a3 (a13.ext g1.ext)) oh (λb' hb' j ob hj hbj=>by
   have:b'=b:=by simpa using hb'
   subst this;rw[FP]at hj;by_cases e:j=k
   .rw[if_pos e]at hj;cases hj
   .rw[if_neg e]at hj;exact a1 j ob e hj hbj)
  exact ⟨G',g1.trans g2,by show MemS P fr (JA free self) (EF σ ([(self,some (.dp [el] e' (xs++ys) (self+1) none true))]++[(k,none)])) w' G';rw[GW];exact m2,m3⟩
 have hnew:(∀j ob,j≠k->σ j=some ob->¬Bk G j ob w.heap.size)/\(∀c,¬G.im.cell w.heap.size c)/\¬G.im.obj w.heap.size:=
  ⟨λj ob _ hj hbj=>absurd (LK (hm.objs j ob hj) hbj) (AA _),λc h=>absurd (hm.after.inC _ _ h) (AA _),λh=>absurd (hm.after.inO _ h) (AA _)⟩
 have grow:∀{base:Option Addr} {cap:Nat} {olds:List Value},cap<xs.length+ys.length->(Builtin.firstCells e'.sz xs.length (.slice base xs.length cap)).run P w.drew=.ok olds.toArray w.drew->
  olds.length=xs.length*e'.sz->RowsOK w G.im e' xs olds->∃z w',(Builtin.append_ #[id,id] ty #[.slice base xs.length cap,vx]).run P w=.ok z w'/\
  Res P fr free self σ w G ⟨.obj self 0,[(self,some (.dp [el] e' (xs++ys) (self+1) none true)),(k,none)]⟩ z w':=by
  intro base cap olds hcap hold hol hor;have hbig:(xs.length+ys.length)*i.bytes<=140737488355328:=by have:(xs.length+ys.length)*i.bytes<=(xs.length+ys.length)*(24*e'.sz):=C7 _ h3;have hB:(xs.length+ys.length)*(24*e'.sz)<=70368744177664:=hB;omega
  have hB:(xs.length+ys.length)*(24*e'.sz)<=70368744177664:=hB;have h63:xs.length+ys.length<=70368744177664:=by have:(xs.length+ys.length)*1<=(xs.length+ys.length)*(24*e'.sz):=C7 _ oa;omega
  have hrun:=run_append_grow_src w id id ty el i z hun h1 h4 base xs.length cap olds (by rw[h2'];exact hold) vx ys.length news s1 hcap oa (growslice_fits hcap hbig);have hge:=grownCap_ge w (xs.length+ys.length) cap el;have hzs:z.cells.size=e'.sz:=by have:=h6.length;simpa using this
  have:=fin (w':=w.drew.alloc (.cells ((olds++news).toArray++Builtin.zeroCells z.cells (grownCap w (xs.length+ys.length) cap el-(xs.length+ys.length))) el)) (b:=w.heap.size) (o:=0)
   (cap:=grownCap w (xs.length+ys.length) cap el) (cells:=((olds++news).toArray++Builtin.zeroCells z.cells (grownCap w (xs.length+ys.length) cap el-(xs.length+ys.length))))
   hnew.1 hnew.2.1 hnew.2.2 hm.owned_new (λb' h _=>by show(w.heap.push _)[b']?=_;rw[DJ h,AU h]) (by show _<=(w.heap.push _).size;simp) rfl rfl rfl
   (by rw[AI];exact⟨hge,oa⟩) ⟨(0,0),by show(w.heap.push _)[_]?=_;rw[D2],.inl (AD _)⟩
   (by rw[BO,Array.size_append,size_zeroCells,hzs,B7,AI,hol,s2,<-CP,<-CP];refine AT _ ?_;omega)
   (by rw[DG,Array.toList_append,C1];exact RowsOK.append hor s3 hol s2)
  rw[AI]at this;exact⟨_,_,hrun,this⟩
 rcases k5.inv1 with⟨rfl,hx0,hb0⟩|⟨b,o,cap,cells,rfl,hb0,hcap,hrow,hsz,hown,hC,hO,hrows⟩
 .have hx0:xs=([]:List e'.T):=hx0;subst hx0;by_cases h0:ys.length=0
  .have hy:ys=[]:=AF h0;subst hy;have hn:news=[]:=AF (by simpa using s2);subst hn;have m0:=hm.drop k;have⟨G',g2,m2,m3⟩:=m0.mk_dp hself hself1 (id:=el) (r:=[]) (t:=e') (x:=([]:List e'.T)) (v:=.slice none 0 0) (bs:=[]) ⟨_,rfl,rfl,.inr (.inl ⟨ou,rfl,rfl,rfl⟩)⟩ AW (λb hb=>by cases hb);refine⟨.slice none 0 0,w,?_,G',g2,?_,m3⟩
   .have hl1:=s1.len w;have hc1:=s1.cells;simp at hc1;rcases s1.kind with⟨e',hk⟩|hk<;>simp[Builtin.append_,run_underlying hun,run_underlying hk,sizeOf,typeInfo,h1,hl1,hc1]
   .show MemS P fr (JA free self) (EF σ ([(self,some (.dp [el] e' [] (self+1) none true))]++[(k,none)])) w G';rw[GW];exact m2
  .exact grow (base:=none) (cap:=0) (olds:=[]) ot (run_firstCells_none _ _ _ _ _) oh (λi x hx=>by simp at hx)
 .have hbin:∀j ob,j≠k->σ j=some ob->¬Bk G j ob b:=λj ob hj ho hbj=>hj (hm.sep j k ob _ b ho hkσ hbj ((hbk b).2 (by rw[hb0];simp)));have hle2:xs.length*e'.sz<=cap*e'.sz:=AT _ hcap.1;have hfull:o+xs.length*e'.sz<=cells.size:=oa;have hcell:∀o,w.cell? ⟨b,o,none⟩=cells.toList[o]?:=hrow.cell;have hB':(xs.length+ys.length)*(24*e'.sz)<=70368744177664:=hB;by_cases hroom:xs.length+ys.length<=cap
  .have hroom2:(xs.length+ys.length)*e'.sz<=cap*e'.sz:=AT _ hroom;rw[CP]at hroom2;have hfit:o+xs.length*e'.sz+news.length<=cells.size:=by rw[s2];omega
   have⟨fz,hb1,hfz⟩:=(show RowAt w b cells el from hrow);have hst:=eT P b (o+xs.length*e'.sz) el fz news 0 cells w hb1 (hfz.imp (λh=>h) And.left) oa s1.one
   have hrun:(Builtin.append_ #[id,id] ty #[.slice (some ⟨b,o,none⟩) xs.length cap,vx]).run P w=
    .ok (.slice (some ⟨b,o,none⟩) (xs.length+ys.length) cap) (w.setRow b (EY cells.toList (o+xs.length*e'.sz) news).toArray):=by
    have hl1:=s1.len w;have hc1:=s1.cells;rw[h2']at hc1;simp only[CE]at hst;rcases s1.kind with⟨e',hk2⟩|hk2<;>simp[Builtin.append_,run_underlying hun,run_underlying hk2,sizeOf,typeInfo,h1,h2',hl1,hroom,hc1,Addr.add_lit,hst,EY]
   have hspl:(EY cells.toList (o+xs.length*e'.sz) news).length=cells.size:=by rw[MB (by simpa using hfit)];simp
   have:=fin (w':=w.setRow b (EY cells.toList (o+xs.length*e'.sz) news).toArray) (b:=b) (o:=o) (cap:=cap) (cells:=(EY cells.toList (o+xs.length*e'.sz) news).toArray)
    hbin hC hO hown (λb' _ hne=>setRow_other w b b' _ hne) oh rfl rfl rfl
    (by rw[AI];have h63:(xs.length+ys.length)*1<=(xs.length+ys.length)*(24*e'.sz):=C7 _ oa;exact⟨hroom,oa⟩) (hrow.set (by rw[B7,hspl])) (by rw[B7,hspl];exact hsz)
    (by show RowsOK w G.im e' (xs++ys) ((EY cells.toList (o+xs.length*e'.sz) news).drop o);rw[A29 (by simpa using hfit)];exact RowsOK.append (RowsOK.take hrows (AD _)) s3 ot s2)
   rw[AI]at this;exact⟨_,_,hrun,this⟩
  .exact grow (base:=some ⟨b,o,none⟩) (cap:=cap) (olds:=(cells.toList.drop o).take (xs.length*e'.sz)) oa
    (run_firstCells_some _ _ _ _ _ _ _ (by simp; omega) (λj u hj=>by
     rw[World.cell?_drew,Addr.add_lit,hcell];rw[B3]at hj;split at hj
     .rw[B9]at hj;exact hj
     .cases hj)) ot (RowsOK.take hrows (AD _))
theorem AHD(hl:Lay P t id)(hm:MemS P fr free σ w G)(hσ:∀k o,σ' k=some o->σ k=some o)(hself:free self)(hself1:free (self+1))
 {lo hi:Option SV}{vlo vhi:Option Value}(hr:YB σ' self t s lo hi=some r)(hu:Gives r u)(hs:SR P w G s v)(hlo:LJ P w G lo vlo)(hhi:LJ P w G hi vhi):
 ∃z,(Instr.sliceAt id v vlo vhi none).run P w=.ok z w/\Res P fr free self σ w G u z w:=by
 have key:∀{k el:Nat} {e:Ty} {xs:List e.T} {ob:Obj} {bs:List Nat},t=.slice e->σ k=some ob->G.val k 0=some v->DV fr.owned w G.im e [el] xs none [v] bs->(∀b∈bs,Bk G k ob b)->dT self k el e xs lo hi=some r->
  ∃z,(Instr.sliceAt id v vlo vhi none).run P w=.ok z w/\Res P fr free self σ w G u z w:=by
  intro k el e xs ob bs ht hkσ hval hdv hbk hr2;subst ht;obtain⟨el',hun,hle,_⟩:=hl.slice;have⟨inf,z0,hinf,hisz,_,_,_⟩:=K4 hle.inf;have hc2:P.cellsOf el'=e.sz:=by simp[Program.cellsOf,hinf,hisz]
  unfold dT at hr2;split at hr2
  .rename_i l h' hbl hbh;cases hr2;obtain⟨y,hy,rfl⟩:=hu.may_inv;obtain⟨h1,h2,h3,h4⟩:=cut?_some hy;have hylen:y.length=h'.toNat-l.toNat:=by rw[h4];simp only[C9,BQ];omega
   have m0:=hm.drop k
   have fin:∀{z:Value} {bs':List Nat},DV fr.owned w G.im e [el] y none [z] bs'->bs'.Nodup->(∀b∈bs',b∈bs)->
    Res P fr free self σ w G ⟨.obj self 0,[(self,some (.dp [el] e y (self+1) none true)),(k,none)]⟩ z w:=by
    intro z bs' d1 d2 d3;obtain ⟨G',g2,m2,m3⟩:=m0.mk_dp hself hself1 (id:=el) (r:=[]) (t:=e) (x:=(y:List e.T)) d1 d2 (λb hb j o hj hbj=>by
     rw[FP]at hj;by_cases e:j=k
     .grind
     .rw[if_neg e]at hj;exact e (hm.sep j k o ob b hj hkσ hbj (hbk b (d3 b hb))))
    exact ⟨G',g2,by assumption,m3⟩
   rcases hdv.inv1 with⟨rfl,rfl,_⟩|⟨b,o,cap,cells,rfl,hb0,hcap,hrow,hsz,hown,hC,hO,hrows⟩
   .have hsb:=YU (P:=P) (w:=w) (isS:=true) (len:=0) (cap:=0) (OM hbl hlo) (OM hbh hhi) h1 h2 (by simpa using h3);have hh0:h'.toNat=0:=by simp at h3;omega
    have hl0:l.toNat=0:=oa;have hy0:y=[]:=AF oa;subst hy0;refine⟨.slice none 0 0,?_,fin (bs':=[]) ⟨_,rfl,rfl,.inr (.inl ⟨ou,rfl,rfl,rfl⟩)⟩ AW (λb hb=>by cases hb)⟩;simp only[Instr.sliceAt,Sem.run_bind,run_underlying hun,Result.andThen_ok,Instr.slice,hsb,run_sizeOf w hinf,hc2,hh0,hl0];rfl
   .have hcap1:=hcap.1;have hsb:=YU (P:=P) (w:=w) (isS:=true) (len:=xs.length) (cap:=cap) (OM hbl hlo) (OM hbh hhi) h1 h2 oa
    have hrun:(Instr.sliceAt id (.slice (some ⟨b,o,none⟩) xs.length cap) vlo vhi none).run P w=
     .ok (.slice (if cap=l.toNat then some ⟨b,o,none⟩else some ⟨b,o+l.toNat*e.sz,none⟩) (h'.toNat-l.toNat) (cap-l.toNat)) w:=by
     simp only[Instr.sliceAt,Sem.run_bind,run_underlying hun,Result.andThen_ok,Instr.slice,hsb,run_sizeOf w hinf,hc2,BH,MC];rfl
    have hmul:l.toNat*e.sz<=cap*e.sz:=AT _ oa;refine⟨_,hrun,?_⟩;rw[<-hylen];by_cases hcl:cap=l.toNat
    .rw[if_pos hcl];have hy0:y=[]:=AF oa;subst hy0;exact fin (DV.mk1 (xs:=([]:List e.T)) ⟨AS _,AS _⟩ hrow oc hown hC hO (λi x hx=>by simp at hx)) oh (λb' hb'=>oc)
    .rw[if_neg hcl];refine fin (DV.mk1 ⟨oa,by have:=hcap.2;omega⟩ hrow (by rw[Nat.sub_mul];omega) hown hC hO (λi x hx=>?_)) oh (λb' hb'=>oc);have hx':xs[l.toNat+i]?=some x:=by
      rw[h4,B9,B3]at hx;split at hx
      .exact hx
      .cases hx
     have:=hrows _ _ hx';grind[List.drop_drop,Nat.add_mul,Nat.add_assoc]
  .cases hr2
 unfold YB at hr;split at hr
 .rename_i e k g;split at hr
  .rename_i el e' xs gk hk;cases hb:(Nat.beq g 0&&e'.same e)with
   |false=>grind
   |true=>rw[hb]at hr;simp only[A5]at hb;have e1:=A4 hb.1;have e3:=Ty.same_eq hb.2;subst e1 e3;have hkσ:=hσ _ _ hk;have⟨_,hety,v',us,bs,k1,k2,k3,k4,k5⟩:=DpOK.inv (hm.objs _ _ hkσ);have hv:=VL hs;rw[k1]at hv;cases hv;exact key rfl hkσ k1 k5 (λb hb=>(OQ k2 k3).2 hb) hr
  .rename_i el e' xs g' hk;cases hb:(Nat.beq g 0&&(Nat.beq g' 0&&e'.same e))with
   |false=>grind
   |true=>rw[hb]at hr;simp only[A5]at hb;have e1:=A4 hb.1;have e2:=A4 hb.2.1;have e3:=Ty.same_eq hb.2.2;subst e1 e2 e3;have hkσ:=hσ _ _ hk;have⟨_,v',k1,k2⟩:=hm.objs _ _ hkσ;have hv:=VL hs;rw[k1]at hv;cases hv;have⟨bs,d1,d2,d3⟩:=SlOK.dv k2;refine key rfl hkσ k1 d1 (λb hb=>?_) hr;have⟨_,_,cap,cells,e1,_⟩:=k2.slice (d3 b hb);grind[Bk]
  .cases hr
 .cases hr
def MemS.grow1(e:MemS P fr free σ w G)(a:∀b,b<w.heap.size->w'.heap[b]?=w.heap[b]?)(l:w.heap.size<=w'.heap.size)(y:w'.os=w.os)(m:w'.tape=w.tape)(s:w'.output=w.output):
 GLe w G w' G/\MemS P fr free σ w' G:=by
 have d:Ext w G.im w' G.im:=⟨λb o h=>⟨h,by simp only[World.cell?,a b (e.after.inC b o h)]⟩,λb h=>⟨h,a b (e.after.inO b h)⟩⟩;have p:GLe w G w' G:=⟨d,λ_ _ _ h=>h,λ_ _ h=>h,λ_ _ h=>h⟩;refine⟨p,λj o h=>(e.objs j o h).keep p λb x=>⟨a b (LK (e.objs j o h) x),λ_ h=>h,λh=>h⟩,e.sep,?_,e.fresh⟩
 exact e.after.trans (gv':=VC) ⟨d,λb x _=>a b x,l,λ_ _ h=>.inl h,λ_ h=>.inl h,λb o h=>AO (e.after.inC b o h) l,λb h=>AO (e.after.inO b h) l,
  y,m,s,e.after.pins.ext d⟩ (λb h=>h.elim)
def AHE{z:Value}(h:i<n):((madeCells #[z] n).toList.drop i).take 1=[z]:=by simp_all[BD,size_madeCells,madeCells,Nat.mod_one]
def AHF{e:Ty}(a:Lay P (.slice e) el):∃i,P.info? el=some i/\i.size=1/\i.bytes<=24/\i.zero=some (.slice none 0 0):=by
 have⟨i,v,h1,b,d,j,h⟩:=K4 a.inf;have l:v=.slice none 0 0:=by
  simp only[zv]at h;split at h
  .cases h
  .unfold PS at h;split at h
   .rename_i m;simp only[zc]at m;grind
   .cases h
 subst l;exact⟨i,h1,b,d,j⟩
theorem AHG{ids:List Nat}(V:Lay P t id)(E:MemS P fr free σ w G)(A:free self)(s:free (self+1)){a b:Int}(U:FZ .i64 b)
 (z:V6 self n ids t a b=some r)(hu:Gives r u)(d:∃l,ids=(match P.underlying id with|some (.slice x)=>x|_=>0)::l):
 ∃v w',(Instr.makeSlice id (.int .i64 a) (.int .i64 b)).run P w=.ok v w'/\Res P fr free self σ w G u v w':=by
 unfold V6 at z;split at z
 .rename_i el m q;split at z
  .rename_i lf _;cases I:(E2 (el::m::q) lf).same t with
   |false=>grind
   |true=>
    rw[I]at z;have ht:=Ty.same_eq I;subst ht;cases z;obtain⟨zs,hz,rfl⟩:=hu.may_inv;have V:Lay P (.slice (E2 (m::q) lf)) id:=V;obtain⟨L,J,W,Z⟩:=V.slice;obtain⟨l,d⟩:=d;rw[J]at d;injection d with y _;have y:el=L:=y;subst y;obtain⟨h0,M,hB,rfl⟩:=A2E hz;have⟨i,h1,h2,h3,h4⟩:=AHF (P:=P) (e:=E2 q lf) W;have Q:(i.bytes:Int)*b<=281474976710656:=by
     have O:b=(b.toNat:Int):=oa;have hh:i.bytes*b.toNat<=281474976710656:=by
      have:i.bytes*b.toNat<=b.toNat*24:=by rw[CY];exact C7 _ h3
      omega
     rw[O,<-Int.natCast_mul];exact Int.ofNat_le.2 hh
    have R:b<=9223372036854775807:=U.2;have e:=run_make (P:=P) w id el i _ J h1 h4 .i64 .i64 a b h0 M Q R;rw[h2,CS]at e;have p:(Value.slice none 0 0).cells= #[.slice none 0 0]:=rfl;rw[p]at e;obtain ⟨C,m1⟩:=E.grow1 (w':=w.alloc (.cells (madeCells #[.slice none 0 0] b.toNat) el)) (λK h=>by show(w.heap.push _)[K]?=_;grind) oh rfl rfl rfl
    have H:RowAt (w.alloc (.cells (madeCells #[.slice none 0 0] b.toNat) el)) w.heap.size (madeCells #[.slice none 0 0] b.toNat) el:=
     ⟨(0,0),by show(w.heap.push _)[_]?=_;simp,.inl (AD _)⟩
    have B:a.toNat<=b.toNat:=oa
    have⟨G',g2,m2,m3⟩:=m1.mk_dp A s (id:=el) (r:=m::q) (t:=lf) (x:=(List.replicate a.toNat (E2 (m::q) lf).dflt:List (E2 (m::q) lf).T)) (v:=.slice (some ⟨w.heap.size,0,none⟩) a.toNat b.toNat) (bs:=[w.heap.size])
     ⟨_,rfl,rfl,.inr (.inr ⟨(by intro h; cases h),w.heap.size,0,b.toNat,_,List.replicate a.toNat [],by rw [B8],by rw [B8]; exact ⟨B,oa⟩,H,
      by rw[size_madeCells,BO];exact Nat.le_of_eq (CS _),E.owned_new,λc h=>absurd (E.after.inC _ _ h) (AA _),λh=>absurd (E.after.inO _ h) (AA _),
      by rw[B8,B8],by rw[A2A],λi x X=>by
       have D:=lt_of_getElem? X;rw[B8]at D;have Y:x=([]:List (E2 q lf).T):=by rw[D3,if_pos D]at X;exact(A2 X).symm
       subst Y;refine⟨.slice none 0 0,?_,rfl,.inr (.inl ⟨ou,rfl,rfl,?_⟩)⟩
       .show((madeCells #[.slice none 0 0] b.toNat).toList.drop (0+i*1)).take 1=_;rw[BO,CS];exact AHE oa
       grind⟩)⟩ oh
     (λK N j o hj T=>by
      have:K=w.heap.size:=by simpa using N
      subst this;exact absurd (LK (E.objs j o hj) T) (AA _))
    exact⟨_,_,e,G',C.trans g2,m2,m3⟩
  .cases z
 .cases z
def MemS.ghostE(d:MemS P fr free σ w G)(hk:free' k)(t:Ty)(B:G.ety k=none)(z:∀j,free j->j≠k:=by first|assumption|exact λj h=>h.2):
 GLe w G w (G.addEty k t)/\MemS P fr free σ w (G.addEty k t):=by
 have a:GLe w G w (G.addEty k t):=by refine⟨Ext.refl _ _,λj g u h=>h,λj u h=>?_,λj b h=>h⟩;have:j≠k:=λe=>oc;simp only[Gh.addEty,if_neg this];exact h
 refine⟨a,λj o h=>(d.objs j o h).keep a λb _=>⟨rfl,λ_ h=>h,λh=>h⟩,λi j s x y hi p l m=>?_,d.after,λj p=>?_⟩
 .rw[H6 (d.objs i s hi) a]at l;rw[H6 (d.objs j x p) a]at m;exact d.sep i j s x y hi p l m
 .have A:=d.fresh j p;simp_all[Gh.addEty,if_neg]
theorem DV.three{r:List Nat}{xs:List (E2 r t).T}(a:DV ow w I t (id::r) xs h [v] bs)(d:h≠some []){o len cap:Nat}
 (j:v=.slice (some ⟨b,o,none⟩) len cap):∃cells bss,len=xs.length/\IS xs.length cap/\RowAt w b cells id/\o+cap*(E2 r t).sz<=cells.size/\ow b/\(∀c,¬I.cell b c)/\¬I.obj b/\List.length bss=xs.length/\bs=b::List.flatten bss/\
  ∀i x,xs[i]?=some x->DV ow w I t r x (VD h i) ((cells.toList.drop (o+i*(E2 r t).sz)).take (E2 r t).sz) (bss.getD i []):=by
 obtain⟨l,h0,h1,e⟩:=a;grind
theorem AHH(hl:Lay P t id)(J:MemS P fr free σ w G)(z2:∀k o,σ' k=some o->σ k=some o)(A:free self)(N:free (self+1))(O:free (self+2))
 (hr:YC σ' self t s=some r)(hu:Gives r u)(hs:SR P w G s v):∃z,(Instr.loadAt id v).run P w=.ok z w/\Res P fr free self σ w G u z w:=by
 unfold YC at hr;split at hr
 .rename_i k g i u0;split at hr
  .rename_i D l q lf E gk hk;cases hb:(Nat.beq g 0&&(E2 (l::q) lf).same t)with
   |false=>grind
   |true=>
    rw[hb]at hr;simp only[A5]at hb;have e1:=A4 hb.1;have e2:=Ty.same_eq hb.2;subst e1 e2;cases hr;rw[hu.pure_inv];have m:=z2 _ _ hk;have z1:=tU J m;have⟨h0,R,v',us,bs,k1,k2,k3,k4,k5⟩:=DpOK.inv (J.objs _ _ m);obtain⟨b,o,len,h7,e',o2,p1,p2,p3,p4,p5,rfl⟩:=RQ hs;rw[k1]at p1;cases p1;rw[R]at p2;cases p2;rw[A2i]at p4;cases p4;obtain⟨cells,bss,rfl,q1,q2,q3,q4,q5,q6,q7,rfl,q9⟩:=k5.three (xs:=E) h0 rfl;have a3:(E2 (l::q) lf).sz=1:=rfl;have T:=getD_some (d:=(E2 (l::q) lf).dflt) (xs:=(show List (E2 (l::q) lf).T from E)) p3;have H:=q9 i _ T;rw[tS]at H;have h9:=H;obtain⟨z,hz,y2,_⟩:=h9;rw[hz]at H;have Y:w.cell? ⟨b,o+i*(E2 (l::q) lf).sz,none⟩=some z:=by have:=eP (n:=1) (o:=o+i*(E2 (l::q) lf).sz) q2 0 oa;rw[show(cells.toList.drop (o+i*(E2 (l::q) lf).sz)).take 1=[z]from hz]at this;simpa using this
    have x5:(Instr.loadAt id (.pointer (some ⟨b,o+i*(E2 (l::q) lf).sz+0,none⟩))).run P w=.ok z w:=by have y7:(E2 (l::q) lf).isAgg=false:=rfl;simp only[Instr.loadAt,Sem.run_bind,Instr.sureAddr,Sem.run_pure,Result.andThen_ok,loadVar,YW hl,y7,D6,CL,CE];exact tC Y
    refine⟨z,x5,?_⟩;have hi:i<bss.length:=by rw[q7];exact p3
    have h2:=tQ hi;have x0:(bss.set i []).flatten=(bss.take i).flatten++(bss.drop (i+1)).flatten:=by rw[fE hi];rfl
    have x1:=AV.1 k4;rw[h2]at x1;have y0:∀c,c∈(bss.set i []).flatten->c∈bss.flatten:=by
     intro c X;rw[x0]at X;rw[h2];rcases AZ.1 X with h|h
     .grind
     .grind
    have K:=AY.1 x1.2;have U:=AY.1 K.2.1;have x2:(bss.getD i []).Nodup:=U.1;have x3:(b::(bss.set i []).flatten).Nodup:=by refine AV.2 ⟨λh=>(AV.1 k4).1 (y0 b h),?_⟩;rw[x0];exact AY.2 ⟨K.1,U.2.1,λx hx y hy=>K.2.2 x hx y (BP _ hy)⟩
    have y9:∀c,c∈bss.getD i []->c ∉ b::(bss.set i []).flatten:=by
     intro c X h;rcases A_.1 h with rfl|h
     .grind
     .grind
    let G0:Gh:=((G.addVal (self+2) 0 (.tuple (List.map IK (b::(bss.set i []).flatten)).toArray)).addVal (self+1) 0 (.tuple (List.map IK (bss.getD i [])).toArray)).addVal self 0 z
    have⟨y3,z3⟩:=J.ghost O (.tuple (List.map IK (b::(bss.set i []).flatten)).toArray);have⟨y4,z4⟩:=z3.ghost (k:=self+1) ⟨N,oa⟩ (.tuple (List.map IK (bss.getD i [])).toArray);have⟨y5,z9⟩:=z4.ghost (k:=self) ⟨⟨A,oa⟩,oa⟩ z;obtain ⟨y6,h6⟩:=z9.ghostE (k:=self) A (E2 q lf) (by have:=(J.fresh self A).2.1;exact this)
    have p:GLe w G w (G0.addEty self (E2 q lf)):=((y3.trans y4).trans y5).trans y6;generalize C:G0.addEty self (E2 q lf)=G1 at p;have h6:MemS P fr (λj=>(((free j/\j≠self+2)/\j≠self+1)/\j≠self)) σ w G1:=by rw[<-C];exact h6
    have M:G1.im=G.im:=by rw[<-C];rfl
    have y1:G1.val (self+2) 0=some (.tuple (List.map IK (b::(bss.set i []).flatten)).toArray):=by rw[<-C];have n1:self+2≠self:=oa;have n2:self+2≠self+1:=oa;simp[G0,Gh.addVal,Gh.addEty]
    have V:G1.val (self+1) 0=some (.tuple (List.map IK (bss.getD i [])).toArray):=by rw[<-C];simp[G0,Gh.addVal,Gh.addEty]
    have h4:G1.val self 0=some z:=by rw[<-C];simp[G0,Gh.addVal,Gh.addEty]
    have Z:G1.ety self=some (E2 q lf):=by rw[<-C];simp[Gh.addEty]
    have y8:∀c,Bk G1 k (.dp (D::l::q) lf E (self+2) (some [i]) true) c<->c∈b::(bss.set i []).flatten:=λc=>OQ y1 oh;have h8:∀c,Bk G1 self (.dp (l::q) lf ((show List (E2 (l::q) lf).T from E).getD i (E2 (l::q) lf).dflt) (self+1) none true) c<->c∈bss.getD i []:=λc=>OQ V oh;have Q:∀c,Bk G1 k (.dp (D::l::q) lf E gk none true) c<->c∈b::bss.flatten:=λc=>by rw[H6 (J.objs k _ m) p];exact OQ k2 k3
    have a0:=h6.drop k;have I:∀j o,EF σ [(k,none)] j=some o->j≠k/\σ j=some o:=by
     intro j o h;rw[FP]at h;by_cases e:j=k
     .grind
     .grind
    have x4:ObjOK P fr w G1 k (.dp (D::l::q) lf E (self+2) (some [i]) true):=
     ⟨(by intro h; cases h),p.ety _ _ R,_,_,b::(bss.set i []).flatten,p.val _ _ _ k1,y1,oh,x3,⟨_,rfl,rfl,.inr (.inr ⟨(by intro h; cases h),b,o,h7,cells,bss.set i [],rfl,q1,q2,q3,q4,oc,oc,oc,rfl,λj x hx=>by
      rw[tR hi,tT];by_cases e:i=j
      .subst e;rw[if_pos rfl,if_pos rfl];exact ⟨z,hz,y2,.inl ⟨rfl,rfl,by rw[T]at hx;cases hx;have⟨a,cp,e1,e2⟩:=DV.head H;grind⟩⟩
      .rw[if_neg e,if_neg e];exact(q9 j x hx).keep p.ext λ_ _=>⟨rfl,λ_ h=>M▸h,λh=>M▸h⟩⟩)⟩,z,b,o,_,h7,h4,rfl,p3,by simp_all⟩
    have a1:=a0.backO (k:=k) x4 (λh=>z1 h.1.1.1) (λc X j o' B W=>by have⟨e,B⟩:=I j o' B;rw[y8]at X;refine e (J.sep j k o' _ c B m (by rw[<-H6 (J.objs j o' B) p];exact W) ?_);rw[<-H6 (J.objs k _ m) p,Q];grind)
    have L:ObjOK P fr w G1 self (.dp (l::q) lf ((show List (E2 (l::q) lf).T from E).getD i (E2 (l::q) lf).dflt) (self+1) none true):=
     ⟨ou,Z,z,_,bss.getD i [],h4,V,oh,x2,H.keep p.ext (λ_ _=>⟨rfl,λ_ h=>M▸h,λh=>M▸h⟩),trivial⟩
    have a2:=a1.backO (k:=self) L (λh=>h.2 rfl) (λc X j o' B W=>by
     rw[h8]at X;rw[FP]at B;by_cases e:j=k
     .grind
     .rw[if_neg e]at B;have⟨_,B⟩:=I j o' B;refine e (J.sep j k o' _ c B m (by rw[<-H6 (J.objs j o' B) p];exact W) ?_);rw[<-H6 (J.objs k _ m) p,Q,h2];grind)
    refine⟨G1,p,?_,[z],rfl,z,h4,y2,rfl⟩;have e3:=GW (EF σ [(k,none)]) [(self,some (Obj.dp (l::q) lf ((show List (E2 (l::q) lf).T from E).getD i (E2 (l::q) lf).dflt) (self+1) none true))] [(k,some (Obj.dp (D::l::q) lf E (self+2) (some [i]) true))]
    have e4:EF σ ([(self,some (Obj.dp (l::q) lf ((show List (E2 (l::q) lf).T from E).getD i (E2 (l::q) lf).dflt) (self+1) none true))]++[(k,some (Obj.dp (D::l::q) lf E (self+2) (some [i]) true))])=
     EF (EF (EF σ [(k,none)]) [(k,some (Obj.dp (D::l::q) lf E (self+2) (some [i]) true))]) [(self,some (Obj.dp (l::q) lf ((show List (E2 (l::q) lf).T from E).getD i (E2 (l::q) lf).dflt) (self+1) none true))]:=by
     rw[<-e3];funext j;rw[GW,GW,FP,FP,FP,FP,FP];by_cases e:j=self
     .rw[if_pos e,if_pos e]
     .grind
    show MemS P fr (JA free self) (EF σ ([(self,_)]++[(k,_)])) w G1;rw[e4];refine a2.shrink λj B=>?_;have h3:∀d,d<8->j≠self+d:=λd hd e=>by
     have h5:=B.2;rw[e]at h5;have:JQ self (self+d)=true:=by simp only[JQ,Nat.blt,A5];exact⟨CC oa,CC oa⟩
     grind
    exact⟨⟨⟨B.1,h3 2 oa⟩,h3 1 oa⟩,h3 0 oa⟩
  .cases hr
 .cases hr
theorem AHI(hl:Lay P t id)(H:MemS P fr free σ w G)(h4:∀k o,σ' k=some o->σ k=some o)(L:free (self+1)){sv:SV}
 (J:dU σ' self t sv s=some r)(hu:Gives r u)(hs:SR P w G s v)(a1:SR P w G sv vx):∃w',(Instr.storeAt id v vx).run P w=.ok () w'/\Res P fr free self σ w G u undef w':=by
 unfold dU at J;split at J
 .rename_i k g i u0;split at J
  .rename_i I d q lf xs gk hh hk;cases hb:(Nat.beq g 0&&((E2 (d::q) lf).same t && !(EW k (GP sv))))with
   |false=>grind
   |true=>
    rw[hb]at J;simp only[A5,BE]at hb;have e1:=A4 hb.1;have e2:=Ty.same_eq hb.2.1;have z9:k ∉ GP sv:=λh=>by grind[OO,absurd]
    subst e1 e2;simp only[A6]at J;split at J
    .rename_i y hy;cases J;obtain⟨x0,b0,rfl⟩:=hu.may_inv;have x1:sA i hh=true:=by
      cases h:sA i hh with
      |true=>rfl
      |false=>grind
     have B:=h4 _ _ hk;have⟨h0,O,v',us,bs,k1,k2,k3,k4,k5⟩:=DpOK.inv (H.objs _ _ B);obtain⟨b,o,len,h5,e',o2,p1,p2,p3,p4,p5,rfl⟩:=RQ hs;rw[k1]at p1;cases p1;rw[O]at p2;cases p2;rw[A2i]at p4;cases p4;obtain⟨cells,bss,rfl,q1,q2,q3,q4,q5,q6,q7,rfl,q9⟩:=k5.three (xs:=xs) h0 rfl;have y6:MemS P fr free σ' w G:=H.sub h4;have y7:CR P w G sv [vx]:=a1.one (by grind[absurd,QY])
     have⟨C,⟨_,d1⟩,d2,d3⟩:=A2X y6 hy y7;have d3:∀c∈C,∃j∈GP sv,∃A,σ j=some A/\Bk G j A c:=λc l=>
      let ⟨j,h1,A,h2,h3⟩:=d3 c l
      ⟨j,h1,A,h4 _ _ h2,h3⟩
     have E:∀c,Bk G k (.dp (I::d::q) lf xs gk hh true) c<->c∈b::bss.flatten:=λc=>OQ k2 k3;have y9:∀c∈C,c ∉ b::bss.flatten:=λc l h=>by have⟨j,j1,A,j2,j3⟩:=d3 c l;exact z9 ((H.sep j k A _ c j2 B j3 ((E c).2 h))▸j1)
     have a2:(E2 (d::q) lf).sz=1:=rfl;have z1:=d1;obtain⟨a4,Z,y3,_⟩:=z1;have Z:vx=a4:=AC.1 Z;subst Z;have x4:(i+1)*(E2 (d::q) lf).sz<=h5*(E2 (d::q) lf).sz:=AT _ (by have:=q1.1;omega);have a7:o+i*(E2 (d::q) lf).sz+1<=cells.size:=by rw[C8]at x4;omega
     have⟨fz,a8,a9⟩:=(show RowAt w b cells I from q2);have h8:vx.cells.toList=[vx]:=by rw[eS y3]
     have y4:(Instr.storeAt id (.pointer (some ⟨b,o+i*(E2 (d::q) lf).sz+0,none⟩)) vx).run P w=.ok () (w.setRow b (EY cells.toList (o+i*(E2 (d::q) lf).sz) [vx]).toArray):=by simp only[Instr.storeAt,Sem.run_bind,Instr.sureAddr,Sem.run_pure,Result.andThen_ok,CE];have:=tD hl (b:=b) (o:=o+i*(E2 (d::q) lf).sz) (v:=vx) q2 (by rw[h8];rfl) oc (by assumption);rw[h8]at this;exact this
     refine⟨_,y4,?_⟩;have hi:i<bss.length:=by rw[q7];exact p3
     have z2:=tQ hi;have z3:=fE (c:=C) hi;have x5:=AV.1 k4;have T:=x5.2;rw[z2]at T;have U:=AY.1 T;have y0:=AY.1 U.2.1;have a5:∀c,c∈(bss.take i).flatten->c∈bss.flatten:=λc l=>oc;have a6:∀c,c∈(bss.drop (i+1)).flatten->c∈bss.flatten:=λc l=>oc;have y1:(b::(bss.set i C).flatten).Nodup:=by
      rw[z3];refine AV.2 ⟨λh=>?_,AY.2 ⟨U.1,AY.2 ⟨d2,y0.2.1,λx hx y hy e=>?_⟩,λx hx y hy e=>?_⟩⟩
      .grind
      .grind
      .grind
     have x3:∀c,c∈b::(bss.set i C).flatten->c=b\/c∈bss.flatten\/c∈C:=by
      intro c l;rcases A_.1 l with h|h
      .exact .inl h
      .grind
     have m0:MemS P fr free (EF σ (gone (GP sv))) w G:=H.sub λj o h=>by rw[PV]at h;grind
     have Y:∀j A,EF σ (gone (GP sv)) j=some A->j ∉ GP sv/\σ j=some A:=by
      intro j A h;rw[PV]at h;by_cases e:j∈GP sv
      .grind
      .grind
     have⟨K,m1⟩:=m0.ghost L (.tuple (List.map IK (b::(bss.set i C).flatten)).toArray);let G0:Gh:=G.addVal (self+1) 0 (.tuple (List.map IK (b::(bss.set i C).flatten)).toArray)
     have m1:MemS P fr (λj=>free j/\j≠self+1) (EF σ (gone (GP sv))) w G0:=m1;have K:GLe w G w G0:=K;have y8:G0.val (self+1) 0=some (.tuple (List.map IK (b::(bss.set i C).flatten)).toArray):=by simp[G0,Gh.addVal]
     let N:World:=w.setRow b (EY cells.toList (o+i*(E2 (d::q) lf).sz) [vx]).toArray
     have M:∀V,V≠b->N.heap[V]?=w.heap[V]?:=λV h=>setRow_other w b V _ h;have X:GLe w G0 N G0:=GLe.of_heap (b:=b) M q5 q6;have y5:(EY cells.toList (o+i*(E2 (d::q) lf).sz) [vx]).length=cells.size:=by rw[MB ot];simp
     have h6:∀c,c∈bss.flatten->c≠b:=λc l e=>x5.1 (e▸l);have Q:Ext w G.im N G0.im:=K.ext.trans X.ext;have y2:DpOK fr N G0 k (I::d::q) lf ((show List (E2 (d::q) lf).T from xs).set i y) (self+1) none true:=by
      refine ⟨(by intro h; cases h),K.ety _ _ O,_,_,b::(bss.set i C).flatten,K.val _ _ _ k1,y8,oh,y1,⟨_,rfl,rfl,.inr (.inr ⟨(by intro h; cases h),b,o,h5,_,bss.set i C,by rw [B0],
       by grind,q2.set (by rw[B7,y5]),oc,q4,q5,q6,oc,rfl,λj x hx=>?_⟩)⟩,trivial⟩
      rw[tS,tR hi];by_cases e:i=j
      .subst e;rw[if_pos rfl];rw[BU p3]at hx;cases hx;have h9:((EY cells.toList (o+i*(E2 (d::q) lf).sz) [vx]).drop (o+i*(E2 (d::q) lf).sz)).take (E2 (d::q) lf).sz=[vx]:=by rw[a2];have:=A25 (cs:=cells.toList) (ds:=[vx]) (a:=o+i*1) (n:=1) (o:=0) (by assumption) oh;rw[CE]at this;rw[this];unfold EY;simp
       show DV fr.owned N G0.im lf (d::q) y none (((EY cells.toList (o+i*(E2 (d::q) lf).sz) [vx]).toArray.toList.drop (o+i*(E2 (d::q) lf).sz)).take (E2 (d::q) lf).sz) C;rw[List.toList_toArray,h9];exact d1.keep Q λc l=>⟨M c λe=>y9 c l (e▸AE),λ_ h=>h,λh=>h⟩
      .rw[if_neg e];rw[BZ e]at hx;have l:=q9 j x hx;have W:VD hh j=none:=by
        cases hh with
        |none=>rfl
        |some p=>
         cases p with
         |nil=>rfl
         |cons a p=>
          cases p with
          |cons _ _=>cases x1
          |nil=>have ha:=A4 x1;subst ha;rw[tT,if_neg e]
       rw[W]at l;show DV fr.owned N G0.im lf (d::q) x none (((EY cells.toList (o+i*(E2 (d::q) lf).sz) [vx]).toArray.toList.drop (o+j*(E2 (d::q) lf).sz)).take (E2 (d::q) lf).sz) (bss.getD j []);rw[List.toList_toArray,A26 ot oc];exact l.keep Q λc l=>⟨M c (h6 c (YV l)),λ_ h=>h,λh=>h⟩
     have h7:∀c,Bk G0 k (.dp (I::d::q) lf ((show List (E2 (d::q) lf).T from xs).set i y) (self+1) none true) c<->c∈b::(bss.set i C).flatten:=λc=>OQ y8 oh
     have m2:=m1.change (w':=N) (G':=G0) (b:=b) (k:=k) (o':=some (.dp (I::d::q) lf ((show List (E2 (d::q) lf).T from xs).set i y) (self+1) none true)) (free':=JA free self) X
      (λj A R D z=>by have⟨_,D⟩:=Y j A D;rw[H6 (H.objs j A D) K]at z;exact R (H.sep j k A _ b D B z ((E b).2 AE)))
      (λV _ a0=>M V a0) (by simp[N]) (by simpa[N]using q2.lt) q4 (λ_ _ h=>.inl h) (λ_ h=>.inl h) rfl rfl rfl
      (λA D=>by
       cases D;refine⟨y2,λc l=>?_⟩;rw[h7]at l;rcases x3 c l with h|h|h
       .exact .inl h
       .refine .inr λj oj R m z=>?_;have⟨_,m⟩:=Y j oj m;rw[H6 (H.objs j oj m) K]at z;exact R (H.sep j k oj _ c m B z ((E c).2 (AN _ h)))
       .refine .inr λj oj R m z=>?_;have⟨z4,m⟩:=Y j oj m;rw[H6 (H.objs j oj m) K]at z;have⟨j',j1,a3,j2,j3⟩:=d3 c h;exact z4 ((H.sep j j' oj a3 c m j2 z j3)▸j1))
      (λj R=>by
       have hf:=H.fresh j R.1;have x2:j≠self+1:=λe=>by have:=R.2;grind[fD]
       exact⟨λe=>(oc),⟨R.1,x2⟩,hf.2.1,hf.2.2.1,λg=>by simp only[G0,Gh.addVal,x2,DC,CL];exact hf.2.2.2 g⟩)
     refine⟨G0,K.trans X,?_,_,rfl,trivial⟩;assumption
    .cases J
  .cases J
 .cases J
def Hds(ow:Nat->Prop)(w:World)(I:Im)(t:Ty)(r:List Nat)(xs:List (E2 r t).T)(bss:List (List Nat))(cs:List Value):Prop:=
 ∀(i:Nat) (x:(E2 r t).T),xs[i]?=some x->∃v,cs[i]?=some v/\v.oneCell'=true/\DV ow w I t r x none [v] (bss.getD i [])
theorem AHJ{l:List Value}:(l.drop i).take 1=[v]<->l[i]?=some v:=by
 constructor
 .intro h;have:=congrArg (·[0]?) h;grind
 .intro h;have a:i<l.length:=(A3.1 h).1;simp_all[BD,A1,List.take_succ_cons,List.take_zero,A2]
def Hds.keep{r:List Nat}{xs:List (E2 r t).T}(h:Hds ow w I t r xs bss cs)(e:Ext w I w' I')
 (m:∀b∈bss.flatten,w'.heap[b]?=w.heap[b]? /\(∀a,I'.cell b a->I.cell b a)/\(I'.obj b->I.obj b)):Hds ow w' I' t r xs bss cs:=λi x p=>by
 have⟨v,h1,j,l⟩:=h i x p;exact⟨v,h1,j,l.keep e λb d=>m b (YV d)⟩
def Hds.cells{r:List Nat}{xs:List (E2 r t).T}(h:Hds ow w I t r xs bss cs)(e:∀i,i<xs.length->ds[i]?=cs[i]?):Hds ow w I t r xs bss ds:=λi x a=>by have⟨v,h1,b,d⟩:=h i x a;grind
def Hds.append{r:List Nat}{xs ys:List (E2 r t).T}{d:List (List Nat)}{e:List Value}(h1:Hds ow w I t r xs bss cs)(m:Hds ow w I t r ys d ds)(y:bss.length=xs.length)
 (p:∀i,i<xs.length->e[i]?=cs[i]?)(s:∀i,i<ys.length->e[xs.length+i]?=ds[i]?):Hds ow w I t r (xs++ys) (bss++d) e:=λi x h=>by
 rcases Nat.lt_or_ge i xs.length with l|j
 .rw[BJ l]at h;have⟨v,a,b,c⟩:=h1 i x h;grind
 .rw[BC j]at h;have⟨v,a,b,c⟩:=m _ x h;grind
def MemS.gone(a:MemS P fr free σ w G)(ks:List Nat):MemS P fr free (EF σ (gone ks)) w G:=a.sub λj o h=>by simp_all[PV,if_pos,if_neg]
theorem AHK(B:Lay P t id)(m:∀x,P.underlying id=some (.slice x)->el=x)(C:MemS P fr free σ w G)(l:∀k o,σ' k=some o->σ k=some o)(d:free self)(b:free (self+1))
 {D:SV}(a:dR σ' self el t s D=some r)(M:Gives r u)(L:SR P w G s v)(p:SR P w G D vx):
 ∃z w',(Builtin.append_ #[id,id] ty #[v,vx]).run P w=.ok z w'/\Res P fr free self σ w G u z w':=by
 have K:∀k o,σ' k=some o->ObjOK P fr w G k o:=λk o h=>C.objs k o (l k o h);unfold dR at a;split at a
 .rename_i e k g;split at a
  .rename_i A E O Q hk;cases j:(Nat.beq g 0&&(Nat.beq el A&&E.same e))with
   |false=>grind
   |true=>
    rw[j]at a;simp only[A6]at a;simp only[A5]at j;have H:=A4 j.1;have I:=A4 j.2.1;have J:=Ty.same_eq j.2.2;subst H I J;split at a
    .rename_i R y;cases a;obtain⟨T,N,rfl⟩:=M.may_inv;exact AHC (xs:=O) B m C d b (l _ _ hk) L (tG B (K0 K y p)) N
    .cases a
  .cases a
 .cases a
theorem AHL(A:MemS P fr free σ w G)(hn:free n){p c:SV}{Z:List (Nat×Option Obj)}(h:dS σ n p c=some Z):
 ∃G',GLe w G w G'/\MemS P fr (λj=>free j/\j≠n) (EF σ Z) w G':=by
 unfold dS at h;split at h
 .rename_i k _ _ _ _ j _;split at h
  .rename_i id d q e J gk i hk;cases hb:Nat.beq gk (j+2)with
   |false=>grind
   |true=>
    rw[hb]at h;have eg:=A4 hb;subst eg;simp only[A6]at h;split at h
    .rename_i x0 s M h4 hj;cases hs:PP x0 (d::q)with
     |false=>grind
     |true=>
      rw[hs]at h;have Q:=tL hs;subst Q;simp only[A6]at h;split at h
      .rename_i y hy;cases h;obtain⟨et,ex⟩:=Ty.cast?_some hy;have h3:s=e:=by
        have:∀(l:List Nat),E2 l s=E2 l e->s=e:=by
         intro l;induction l with
         |nil=>intro h;exact h
         |cons a l ih=>intro h;injection h with h;exact ih h
        exact this _ et
       subst h3;cases ex;have h7:k≠j:=λe=>oc;have h9:=tU A hk;have⟨h0,T,v,us,bs,k1,k2,k3,k4,k5⟩:=DpOK.inv (A.objs _ _ hk);obtain⟨hv,b,o,len,h2,a1,rfl,a2,a3⟩:=DpOK.hole (A.objs _ _ hk) k1;have⟨_,_,v2,y2,m,c1,c2,c3,c4,c5⟩:=DpOK.inv (A.objs _ _ hj);have a1:G.val j 0=some hv:=a1;rw[c1]at a1;cases a1;obtain⟨cells,bss,rfl,q1,q2,q3,q4,q5,q6,q7,rfl,q9⟩:=k5.three (xs:=J) h0 rfl;have y1:(E2 (d::q) s).sz=1:=rfl;have hi:i<bss.length:=by rw[q7];exact a2
       have B:∀c,Bk G k (.dp (id::d::q) s J (j+2) (some [i]) true) c<->c∈b::bss.flatten:=λc=>OQ k2 k3;have C:∀c,Bk G j (.dp (d::q) s M h4 none true) c<->c∈m:=λc=>OQ c2 c3;have x4:∀c∈m,c ∉ b::bss.flatten:=λc D h=>h7 (A.sep k j _ _ c hk hj ((B c).2 h) ((C c).2 D));have h5:=tQ hi;have h6:=fE (c:=m) hi;have h8:=AV.1 k4;have E:=h8.2;rw[h5]at E;have H:=AY.1 E;have V:=AY.1 H.2.1;have x2:∀c,c∈(bss.take i).flatten->c∈bss.flatten:=λc D=>oc;have x3:∀c,c∈(bss.drop (i+1)).flatten->c∈bss.flatten:=λc D=>oc;have W:(b::(bss.set i m).flatten).Nodup:=by
        rw[h6];refine AV.2 ⟨λh=>?_,AY.2 ⟨H.1,AY.2 ⟨c4,V.2.1,λx O y hy e=>?_⟩,λx O y hy e=>?_⟩⟩
        .grind
        .grind
        .grind
       have U:∀c,c∈b::(bss.set i m).flatten->c∈b::bss.flatten\/c∈m:=by
        intro c D;rcases A_.1 D with h|h
        .grind
        .grind
       have⟨N,m0⟩:=A.ghost hn (.tuple (List.map IK (b::(bss.set i m).flatten)).toArray);let G0:Gh:=G.addVal n 0 (.tuple (List.map IK (b::(bss.set i m).flatten)).toArray)
       have N:GLe w G w G0:=N;have m0:MemS P fr (λj=>free j/\j≠n) σ w G0:=m0;have Y:G0.val n 0=some (.tuple (List.map IK (b::(bss.set i m).flatten)).toArray):=by simp[G0,Gh.addVal]
       have x5:G0.im=G.im:=rfl;have X:ObjOK P fr w G0 k (.dp (id::d::q) s ((show List (E2 (d::q) s).T from J).set i M) n none true):=by
        refine ⟨(by intro h; cases h),N.ety _ _ T,_,_,b::(bss.set i m).flatten,N.val _ _ _ k1,Y,oh,W,⟨_,rfl,rfl,.inr (.inr ⟨(by intro h; cases h),b,o,h2,cells,bss.set i m,by rw [B0],
         by grind,q2,q3,q4,q5,q6,oc,rfl,λa x O=>?_⟩)⟩,trivial⟩
        rw[tS,tR hi];by_cases z:i=a
        .subst z;rw[if_pos rfl];rw[BU a2]at O;cases O;have x1:(cells.toList.drop (o+i*(E2 (d::q) s).sz)).take (E2 (d::q) s).sz=[hv]:=by show(cells.toList.drop (o+i*1)).take 1=[hv];rw[AHJ,CS,<-q2.cell];exact a3
         grind
        .rw[if_neg z];rw[BZ z]at O;have:=q9 a x O;rw[tT,if_neg z]at this;assumption
       have m1:=(m0.drop j).drop k;have L:∀a I,EF (EF σ [(j,none)]) [(k,none)] a=some I->a≠k/\a≠j/\σ a=some I:=by
        intro a I h;rw[FP]at h;by_cases z:a=k
        .grind
        .rw[if_neg z,FP]at h;grind
       have m2:=m1.backO (k:=k) X (λh=>h9 h.1) (λc D a I R K=>by
        have⟨z,e2,R⟩:=L a I R;rw[show Bk G0 k (.dp (id::d::q) s ((show List (E2 (d::q) s).T from J).set i M) n none true) c<->c∈b::(bss.set i m).flatten from OQ Y oh]at D;rw[H6 (A.objs a I R) N]at K;rcases U c D with h|h
        .exact z (A.sep a k I _ c R hk K ((B c).2 h))
        .exact e2 (A.sep a j I _ c R hj K ((C c).2 h)))
       refine⟨G0,N,?_⟩
       have e4:EF σ [(k,some (Obj.dp (id::d::q) s ((show List (E2 (d::q) s).T from J).set i M) n none true)),(j,none)]=
        EF (EF (EF σ [(j,none)]) [(k,none)]) [(k,some (Obj.dp (id::d::q) s ((show List (E2 (d::q) s).T from J).set i M) n none true))]:=by
        funext a;rw[show([(k,some (Obj.dp (id::d::q) s ((show List (E2 (d::q) s).T from J).set i M) n none true)),(j,none)]:List (Nat×Option Obj))=[(k,some (Obj.dp (id::d::q) s ((show List (E2 (d::q) s).T from J).set i M) n none true))]++[(j,none)]from rfl,GW,FP,FP,FP,FP,FP];by_cases z:a=k
        .rw[if_pos z,if_pos z]
        .rw[if_neg z,if_neg z,if_neg z]
       grind
      .cases h
    .cases h
  .cases h
 .cases h
theorem tV{E:Env}{dr:Bool}(b:EnvOK P dr E){ty:Ty}(h:V7 E id ty=true):∀k v,ty=.map k v->∀x y,P.underlying id=some (.map x y)->NT P k x=true:=by
 intro k v e x y d;subst e;simp only[V7,A5,b.ky _ _ _ d]at h;obtain⟨h1,a⟩:=h;split at a
 .rename_i j hk;have:=Ty.same_eq a;subst this;exact b.eq _ _ h1 hk
 .cases a
def AHM{E:Env}(j:EnvOK P fr.dr E)(p:MemS P fr free σ w G)(b:∀k o,σ' k=some o->σ k=some o){t:Option Ty}(h:SR P w G s v):SR P w G (YJ E.fs σ' t s) v:=by
 unfold YJ;split
 .rename_i d c f cs;split
  .rename_i F m;have a:CR P w G (.fn f cs) [v]:=h.one oh;have⟨y,x,e,l⟩:=eX (D:=False) (λk o h=>p.objs k o (b k o h)) j.fs (λh=>h.elim) m a;have e:=AC.1 e;subst e;exact⟨_,rfl,HofD.fnc (by rw[j.pin];exact l)⟩
  .exact h
 .exact h
def tW{ps:Array (Nat×Operand)}{ρ:Nat×Operand->SV}(h:∀p∈ps.toList,SR P w G (ρ p) (a.eval p.2)):
 ∀(j:Nat) (q:Nat×SV) (u:Nat×Value),(ps.toList.map λp=>(p.1,ρ p))[j]?=some q->(ps.map λp=>(p.1,a.eval p.2)).toList[j]?=some u->q.1=u.1/\SR P w G q.2 u.2:=by
 grind
theorem AHN{wf:Bool}(m:Lay P t id)(d:∀x,P.underlying id=some (.slice x)->el=x)(A:MemS P fr free σ w G)(l:∀k o,σ' k=some o->σ k=some o)(b:free self)
 {x:SV}(a:YA σ' wf self el t s x=some r)(J:Gives r u)(I:SR P w G s v)(U:SR P w G x vx):
 ∃z w',(Builtin.append_ #[id,id] ty #[v,vx]).run P w=.ok z w'/\Res P fr free self σ w G u z w':=by
 have T:∀k o,σ' k=some o->ObjOK P fr w G k o:=λk o h=>A.objs k o (l k o h);unfold YA at a;split at a
 .rename_i e;split at a
  .rename_i W D;have K:VRel w G.im (.slice e) W vx:=K0 T D U;split at a
   .have a:=A2 a;subst a;obtain⟨X,E,rfl⟩:=J.may_inv;obtain⟨c,h1,y⟩:=I;have y:c=[.slice none 0 0]:=y;have B:v=.slice none 0 0:=AC.1 ((show c=[v]from h1).symm.trans y);subst B;exact tH m d A b (tG m K) E
   .rename_i k g;split at a
    .rename_i H L Y R w' hk;cases j:(Nat.beq g 0&&(Nat.beq R 0&&Nat.beq el H))with
     |false=>grind
     |true=>
      rw[j]at a;simp only[A6]at a;simp only[A5]at j;have M:=A4 j.1;have N:=A4 j.2.1;have O:=A4 j.2.2;subst M N O;split at a
      .rename_i V C;have a:=A2 a;subst a;obtain⟨X,E,rfl⟩:=J.may_inv;obtain⟨Q,ex⟩:=Ty.cast?_some C;have p:L=e:=by injection Q
       subst p;cases ex;exact A2I m d A b (l _ _ hk) I (tG m K) E
      .cases a
    .cases a
   .cases a
  .cases a
 .cases a
theorem AHO{L:Ty}{id2:Nat}{wf:Bool}(E:Lay P t id)(l:Lay P L id2)(b:∀x,P.underlying id=some (.slice x)->el=x)(H:MemS P fr free σ w G)(B:∀k o,σ' k=some o->σ k=some o)(a:free self)
 {x:SV}(h:sB σ' wf self el t L s x=some r)(J:Gives r u)(I:SR P w G s v)(U:SR P w G x vx):
 ∃z w',(Builtin.append_ #[id,id2] ty #[v,vx]).run P w=.ok z w'/\Res P fr free self σ w G u z w':=by
 unfold sB at h;split at h
 .rename_i W;have K:=AG7 l U;unfold YA at h;simp only[SV.asV,SV.as]at h;split at h
  .rename_i D y;obtain⟨_,ex⟩:=Ty.cast?_some y;have ex:FY W=D:=ex;subst ex;split at h
   .have h:=A2 h;subst h;obtain⟨X,A,rfl⟩:=J.may_inv;obtain⟨c,h1,j⟩:=I;have j:c=[.slice none 0 0]:=j;have m:v=.slice none 0 0:=AC.1 ((show c=[v]from h1).symm.trans j);subst m;exact tH E b H a K A
   .rename_i k g;split at h
    .rename_i C M Y T w' hk;cases d:(Nat.beq g 0&&(Nat.beq T 0&&Nat.beq el C))with
     |false=>grind
     |true=>
      rw[d]at h;simp only[A6]at h;simp only[A5]at d;have N:=A4 d.1;have O:=A4 d.2.1;have Q:=A4 d.2.2;subst N O Q;split at h
      .rename_i V p;have h:=A2 h;subst h;obtain⟨X,A,rfl⟩:=J.may_inv;obtain⟨R,ex⟩:=Ty.cast?_some p;have e:M=.int .u8:=by injection R
       subst e;cases ex;exact A2I E b H a (B _ _ hk) I K A
      .cases h
    .cases h
   .cases h
  .cases h
 .cases h
theorem AHP{E:Env}(L:EnvOK P fr.dr E)(M:MemS P fr free σ w G)(T:∀k o,σ' k=some o->σ k=some o)(R:∀k,self<=k->k<self+8->free k){ρ a4 a3:Operand->SV}
 (D:(∀c x y,o.op≠.pick c x y)->∀x∈o.op.operands,SR P w G (ρ x) (a.eval x))
 (y6:∀c x y,o.op=.pick c x y->SR P w G (ρ c) (a.eval c)/\(a.eval c=.bool true->SR P w G (a4 x) (a.eval x))/\(a.eval c=.bool false->SR P w G (a3 y) (a.eval y)))
 (B:sM E ρ a4 a3 σ' self o=some r)(O:Gives r u):Done P fr.dr o a w (Res P fr free self σ w G u):=by
 have K:free self:=R self (AD _) oa;have ho:∀k o,σ' k=some o->ObjOK P fr w G k o:=λk o h=>M.objs k o (T k o h);unfold sM at B;cases A:o.op with
 |move x=>rw[A]at B;have B:=A2 B;subst B;rw[O.v_inv];exact Done.calm M ⟨rfl,_,by simp[execOp,A],D (by simp[A]) x (by simp[A,Op.operands])⟩
 |assign x=>rw[A]at B;have B:=A2 B;subst B;rw[O.v_inv];exact Done.calm M ⟨rfl,_,by simp[execOp,A],D (by simp[A]) x (by simp[A,Op.operands])⟩
 |pick c x y=>rw[A]at B;obtain⟨h1,H,N⟩:=y6 c x y A;obtain⟨e1,b,e2,e3⟩:=AFG (P:=P) (w:=w) (G:=G) B O h1 H N;exact Done.calm M ⟨e1,_,by simp[execOp,A,e2,asBool],e3⟩
 |alloc t=>
  rw[A]at B;simp only at B;split at B
  .rename_i ty C;have B:=A2 B;subst B;rw[O.pure_inv];obtain⟨z,w',h1,H⟩:=AFs (L.ty _ _ C) M K;exact Done.makes ⟨z,w',by simp[execOp,A,h1],H⟩
  .cases B
 |box t x=>
  rw[A]at B;simp only at B;split at B
  .rename_i ty C;split at B
   .rename_i y hy;have B:=A2 B;subst B;rw[O.pure_inv];obtain⟨z,w',h1,H⟩:=AFt (id:=t) (L.ty _ _ C) M K hy (D (by simp[A]) x (by simp[A,Op.operands]));exact Done.makes ⟨z,w',by simp[execOp,A,h1],H⟩
   .cases B
  .cases B
 |load t x=>
  rw[A]at B;simp only at B;split at B
  .rename_i ty C;have X:∃ Z:Bool,(bif Z then (match YC σ' self ty (ρ x) with
    |some r=>some r
    |none=>(V2 σ' ty (ρ x)).map OpRes.v)else sK σ' ty (ρ x))=some r:=⟨_,B⟩
   clear B;obtain⟨Z,B⟩:=X;cases Z with
   |true=>
    simp only[A6]at B;cases y8:YC σ' self ty (ρ x)with
    |some r1=>rw[y8]at B;have B:=A2 B;subst B;obtain⟨z,h1,H⟩:=AHH (self:=self) (L.ty _ _ C) M T K (R _ oa oa) (R _ oa oa) y8 O (D (by simp[A]) x (by simp[A,Op.operands]));exact Done.makes ⟨z,w,by simp[execOp,A,h1],H⟩
    |none=>
    rw[y8]at B;simp only at B;cases hl:V2 σ' ty (ρ x)with
    |none=>rw[hl]at B;cases B
    |some s=>rw[hl]at B;have B:=A2 B;subst B;rw[O.v_inv];obtain⟨z,h1,H⟩:=A27 (L.ty _ _ C) ho hl (D (by simp[A]) x (by simp[A,Op.operands]));exact Done.calm M ⟨rfl,z,by simp[execOp,A,h1],H⟩
   |false=>
   simp only[A8]at B;have J:=D (by simp[A]) x (by simp[A,Op.operands]);unfold sK at B;split at B
   .rename_i e y Y;cases hs:e.same ty with
    |false=>rw[hs]at B;cases B
    |true=>rw[hs]at B;have B:=A2 B;subst B;rw[Y]at J;obtain⟨z,hz,rfl⟩:=O.may_inv;have hz:y=some z:=hz;subst hz;obtain⟨c,hc,ad,H,N,cc,h4,h5⟩:=J;have hv:a.eval x=.pointer (some ad):=AC.1 ((show c=[a.eval x]from hc).symm.trans H);have y7:=Ty.same_eq hs;subst y7;obtain⟨z',k1,k2⟩:=AFg (P:=P) (w:=w) (G:=G) (L.ty _ _ C) (x:=z) (v:=.pointer (some ad)) ⟨_,rfl,ad,cc,rfl,N,h4,h5⟩;exact Done.calm M ⟨rfl,z',by simp[execOp,A,hv,k1],k2⟩
   .cases hl:loadAt σ' ty (ρ x)with
    |none=>rw[hl]at B;cases B
    |some s=>rw[hl]at B;have B:=A2 B;subst B;rw[O.v_inv];obtain⟨z,h1,H⟩:=A24 (L.ty _ _ C) ho hl J;exact Done.calm M ⟨rfl,z,by simp[execOp,A,h1],H⟩
  .cases B
 |store t x y=>
  rw[A]at B;simp only at B;split at B
  .rename_i ty C;cases y5:dU σ' self ty (ρ y) (ρ x)with
   |some r1=>rw[y5]at B;have B:=A2 B;subst B;obtain⟨w',h1,H⟩:=AHI (self:=self) (L.ty _ _ C) M T (R _ oa oa) y5 O (D (by simp[A]) x (by simp[A,Op.operands])) (D (by simp[A]) y (by simp[A,Op.operands]));exact Done.writes ⟨w',by simp[execOp,A,h1],H⟩
   |none=>
   rw[y5]at B;simp only at B;cases hl:storeAt σ' ty (ρ y) (ρ x)with
   |none=>rw[hl]at B;cases B
   |some s=>rw[hl]at B;have B:=A2 B;subst B;rw[O.pure_inv];obtain⟨k,o'⟩:=s;obtain⟨w',h1,H,N⟩:=AFn (self:=self) (L.ty _ _ C) M T hl (D (by simp[A]) x (by simp[A,Op.operands])) (D (by simp[A]) y (by simp[A,Op.operands]));exact Done.writes ⟨w',by simp[execOp,A,h1],G,H,N,⟨_,rfl,trivial⟩⟩
  .cases B
 |extract x i=>rw[A]at B;obtain⟨h1,z,H,N⟩:=AFH (P:=P) (w:=w) (G:=G) B O (D (by simp[A]) x (by simp[A,Op.operands]));exact Done.calm M ⟨h1,z,by simp[execOp,A,H],N⟩
 |unOp op t x=>rw[A]at B;obtain⟨h1,z,H,N⟩:=AFF (P:=P) (w:=w) (G:=G) B O (D (by simp[A]) x (by simp[A,Op.operands]));exact Done.calm M ⟨h1,z,by simp[execOp,A,H],N⟩
 |insert t m k v=>
  rw[A]at B;simp only at B;split at B
  .rename_i ty C;obtain⟨w',h1,H⟩:=A2S (self:=self) (L.ty _ _ C) (λh=>tV L h) M T B O (D (by simp[A]) m (by simp[A,Op.operands])) (D (by simp[A]) k (by simp[A,Op.operands])) (D (by simp[A]) v (by simp[A,Op.operands]));exact Done.writes ⟨w',by simp[execOp,A,h1],H⟩
  .cases B
 |mapUpdate t m k v=>
  rw[A]at B;simp only at B;split at B
  .rename_i ty C;cases z9:A1h σ' (ρ m)with
   |true=>rw[z9]at B;obtain⟨w',h1,H⟩:=AHA (self:=self) (L.ty _ _ C) M T (R _ oa oa) B O (D (by simp[A]) m (by simp[A,Op.operands])) (D (by simp[A]) k (by simp[A,Op.operands])) (D (by simp[A]) v (by simp[A,Op.operands]));exact Done.writes ⟨w',by simp[execOp,A,h1],H⟩
   |false=>
   rw[z9]at B;simp only[A8]at B;obtain⟨w',h1,H⟩:=A2S (self:=self) (L.ty _ _ C) (λh=>tV L h) M T B O (D (by simp[A]) m (by simp[A,Op.operands])) (D (by simp[A]) k (by simp[A,Op.operands])) (D (by simp[A]) v (by simp[A,Op.operands]));exact Done.writes ⟨w',by simp[execOp,A,h1],H⟩
  .cases B
 |lookup t m k ok=>
  rw[A]at B;simp only at B;split at B
  .rename_i ty C;have X:∃ b:Bool,(b=true->ok=false)/\(bif b then dP σ' self ty (ρ m) (ρ k) else dO σ' (V7 E t ty) ty ok (ρ m) (ρ k))=some r:=⟨_,λh=>by simp only[A5,BE]at h;exact h.2,B⟩
   clear B;obtain⟨b,hb,B⟩:=X;cases b with
   |true=>have x1:=hb rfl;subst x1;obtain⟨z,H,N⟩:=AH9 (self:=self) (L.ty _ _ C) M T K (R _ oa oa) B O (D (by simp[A]) m (by simp[A,Op.operands])) (D (by simp[A]) k (by simp[A,Op.operands]));exact Done.makes ⟨z,w,by simp[execOp,A,H],N⟩
   |false=>
   simp only[A8]at B;obtain⟨h1,z,H,N⟩:=AGQ (L.ty _ _ C) (λh=>tV L h) ho B O (D (by simp[A]) m (by simp[A,Op.operands])) (D (by simp[A]) k (by simp[A,Op.operands]));exact Done.calm M ⟨h1,z,by simp[execOp,A,H],N⟩
  .cases B
 |fieldAddr t x f=>
  rw[A]at B;simp only at B;split at B
  .rename_i p C;cases hf:Nat.blt f p.fields with
   |false=>rw[hf]at B;cases B
   |true=>
    rw[hf]at B;rw[BY]at hf;simp only[A6]at B;have J:=D (by simp[A]) x (by simp[A,Op.operands]);split at B
    .rename_i e y Y;rw[Y]at J;cases hd:(NN p f (.ref e e.dflt)).isSome with
     |false=>rw[hd]at B;cases B
     |true=>rw[hd]at B;have B:=A2 B;subst B;obtain⟨z,hz,rfl⟩:=O.may_inv;have hz:y=some z:=hz;subst hz;obtain⟨s,hs⟩:=Option.isSome_iff_exists.1 ((AFX (z':=z))▸hd:(NN p f (.ref e z)).isSome=true);obtain⟨c,hc,ad,H,N,cc,h4,h5⟩:=J;have hv:a.eval x=.pointer (some ad):=AC.1 ((show c=[a.eval x]from hc).symm.trans H);obtain⟨z',q2,q3⟩:=A21 (L.ty _ _ C) hf hs (w:=w) (G:=G) (v:=a.eval x) ⟨_,rfl,ad,cc,by rw[hv],N,h4,h5⟩;exact Done.calm M ⟨rfl,z',by simp[execOp,A,q2],by rw[hs];exact q3⟩
    .cases hl:NN p f (ρ x)with
     |none=>rw[hl]at B;cases B
     |some s=>rw[hl]at B;have B:=A2 B;subst B;rw[O.v_inv];obtain⟨z,H,N⟩:=A21 (L.ty _ _ C) hf hl J;exact Done.calm M ⟨rfl,z,by simp[execOp,A,H],N⟩
  .cases B
 |indexAddr t x i=>
  rw[A]at B;simp only at B;split at B
  .rename_i ty kd n C hi;have x5:=D (by simp[A]) i (by simp[A,Op.operands]);rw[hi]at x5;obtain⟨e,_⟩:=x5.int;obtain⟨h1,z,H,N⟩:=AFY (k:=kd) (L.ty _ _ C) ho B O (D (by simp[A]) x (by simp[A,Op.operands]));exact Done.calm M ⟨h1,z,by simp[execOp,A,e,H],N⟩
  .cases B
 |index t x i=>
  rw[A]at B;simp only at B;split at B
  .rename_i ty kd n C hi;have x5:=D (by simp[A]) i (by simp[A,Op.operands]);rw[hi]at x5;obtain⟨e,_⟩:=x5.int;obtain⟨h1,z,H,N⟩:=AFK (k:=kd) (L.ty _ _ C) B O (D (by simp[A]) x (by simp[A,Op.operands]));exact Done.calm M ⟨h1,z,by simp[execOp,A,e,H],N⟩
  .cases B
 |slice t x lo hi mx=>
  rw[A]at B;cases mx with
  |some _=>cases B
  |none=>
   simp only at B;split at B
   .rename_i ty C;have x2:∀b:Option Operand,(∀y,b=some y->y∈o.op.operands)->LJ P w G (b.map ρ) (b.map a.eval):=by
     intro b hb;cases b with
     |none=>exact trivial
     |some y=>exact D (by simp[A]) y (hb y rfl)
    have X:∃ Z:Bool,(match (bif Z then YB σ' self ty (ρ x) (lo.map ρ) (hi.map ρ) else none) with
     |some r=>some r
     |none=>dN σ' ty (ρ x) (lo.map ρ) (hi.map ρ))=some r:=⟨_,B⟩
    clear B;obtain⟨Z,B⟩:=X;cases y3:(bif Z then YB σ' self ty (ρ x) (lo.map ρ) (hi.map ρ)else none)with
    |some r1=>
     rw[y3]at B;have B:=A2 B;subst B;cases Z with
     |false=>cases y3
     |true=>
     obtain⟨z,H,N⟩:=AHD (self:=self) (L.ty _ _ C) M T K (R _ oa oa) y3 O (D (by simp[A]) x (by simp[A,Op.operands])) (x2 lo (λy hy=>by simp[A,Op.operands,hy])) (x2 hi (λy hy=>by simp[A,Op.operands,hy]));exact Done.makes ⟨z,w,by simp[execOp,A,H],N⟩
    |none=>
    rw[y3]at B;simp only at B;obtain⟨h1,z,H,N⟩:=AF_ (L.ty _ _ C) ho B O (D (by simp[A]) x (by simp[A,Op.operands])) (x2 lo (λy hy=>by simp[A,Op.operands,hy])) (x2 hi (λy hy=>by simp[A,Op.operands,hy]));exact Done.calm M ⟨h1,z,by simp[execOp,A,H],N⟩
   .cases B
 |makeInterface t x=>
  rw[A]at B;simp only at B;split at B
  .rename_i ta tu b4 b8;cases hi:ta.isIface with
   |true=>rw[hi]at B;cases B
   |false=>
    rw[hi]at B;simp only[A8]at B;split at B
    .rename_i y hy;cases hj:OK t ta y tu with
     |none=>rw[hj]at B;cases B
     |some z=>rw[hj]at B;have B:=A2 B;subst B;rw[O.v_inv];have hv:=K0 ho hy (D (by simp[A]) x (by simp[A,Op.operands]));obtain⟨v,H,N⟩:=AGT (P:=P) (w:=w) (G:=G) (L.ty _ _ b4) hi hv hj;exact Done.calm M ⟨rfl,v,by simp[execOp,A,H],N⟩
    .cases B
  .cases B
 |makeSlice t l c=>
  rw[A]at B;simp only at B;split at B
  .rename_i e x y C hl hc;have z4:=D (by simp[A]) l (by simp[A,Op.operands]);have z2:=D (by simp[A]) c (by simp[A,Op.operands]);rw[hl]at z4;rw[hc]at z2;obtain⟨e1,_⟩:=z4.int;obtain⟨e2,e3⟩:=z2.int;have X:∃ dd:Nat,(match V6 self dd (T3 E.el dd t) (.slice e) x y with
    |some r=>some r
    |none=>some (OpRes.may (List e.T) (mks? (24*e.sz) x y e.dflt) [] λzs=>⟨.obj self 0,[(self,some (.sl (E.el t) e zs 0 (match o.dst with|some d=>E.wr d|none=>false)))]⟩))=some r:=⟨_,B⟩
   clear B;obtain⟨dd,B⟩:=X;cases y2:V6 self dd (T3 E.el dd t) (.slice e) x y with
   |some r1=>
    rw[y2]at B;have B:=A2 B;subst B;obtain ⟨z,w',h1,H⟩:=AHG (self:=self) (id:=t) (L.ty _ _ C) M K (R _ oa oa) e3 y2 O (by
     obtain⟨el,a2,_,_⟩:=(show Lay P (.slice e) t from L.ty _ _ C).slice;cases dd with
     |zero=>exact absurd y2 (by simp[T3,V6])
     |succ n=>exact⟨T3 E.el n el,by simp only[T3,a2,L.el _ _ a2]⟩)
    exact Done.makes ⟨z,w',by simp[execOp,A,e1,e2,h1],H⟩
   |none=>
   rw[y2]at B;simp only at B;have B:=A2 B;subst B;obtain⟨zs,hz,rfl⟩:=O.may_inv;obtain⟨z,w',h1,H⟩:=AFv (wr:=(match o.dst with|some d=>E.wr d|none=>false)) (L.ty _ _ C) M K e3 hz (λx J=>L.el _ _ J);exact Done.makes ⟨z,w',by simp[execOp,A,e1,e2,h1],H⟩
  .cases B
 |range t m=>
  rw[A]at B;simp only at B;split at B
  .rename_i ty C;unfold A1i at B;split at B
   .rename_i k v;split at B
    .rename_i es a9;have B:=A2 B;subst B;rw[O.pure_inv];have J:=K0 (λk o h=>M.objs k o (T k o h)) a9 (D (by simp[A]) m (by simp[A,Op.operands]));obtain⟨z,w',N,h4⟩:=AGY (L.ty _ _ C) M K J;exact Done.makes ⟨z,w',by simp[execOp,A,N],h4⟩
    .cases B
   .cases B
  .cases B
 |makeMap t h=>
  rw[A]at B;simp only at B;split at B
  .rename_i k v C;have x0:∃b,∃Z:Bool,(bif b then(bif Z then A1g (E.el t) self k v else some (OpRes.pure ⟨.obj self 0,[(self,some (.mp k v [] true))]⟩))else none)=some r/\(b=true->∀x,h.map a.eval=some x->∃kd n,x=.int kd n):=by
    refine⟨_,_,B,λhb x J=>?_⟩;cases h with
    |none=>cases J
    |some y=>
     have hy:=D (by simp[A]) y (by simp[A,Op.operands]);have J:a.eval y=x:=A2 J;simp only at hb;split at hb
     .rename_i kd n Y;rw[Y]at hy;exact⟨kd,n,by rw[<-J];exact hy.int.1⟩
     .cases hb
   obtain⟨b,Z,h1,H⟩:=x0;cases b with
   |false=>cases h1
   |true=>
    cases Z with
    |true=>
     simp only[A6]at h1;cases v<;>first|(cases h1;done)|skip
     rename_i e C;have h1:=A2 h1;subst h1;rw[O.pure_inv];obtain⟨z,w',N,h4⟩:=AH8 (el:=E.el t) (L.ty _ _ C) M K (R _ oa oa) (H rfl);exact Done.makes ⟨z,w',by simp[execOp,A,N],h4⟩
    |false=>
    have h1:=A2 h1;subst h1;rw[O.pure_inv];obtain⟨z,w',N,h4⟩:=AG4 (L.ty _ _ C) M K (H rfl);exact Done.makes ⟨z,w',by simp[execOp,A,N],h4⟩
  .cases B
 |build t ps=>
  rw[A]at B;simp only at B;split at B
  .rename_i ty C;have X:∃Z:Bool,(bif Z then Y5 σ' ty (ps.toList.map λp=>(p.1,ρ p.2))else dM σ' ty (ps.toList.map λp=>(p.1,YJ E.fs σ' (sL ty p.1) (ρ p.2))))=some r:=⟨_,B⟩;clear B;obtain⟨Z,B⟩:=X;cases Z with
   |true=>obtain⟨h1,z,H,N⟩:=AG1 (L.ty _ _ C) M T B O (vs:=ps.map λp=>(p.1,a.eval p.2)) oh (tW (ρ:=λp=>ρ p.2) λp hp=>D (by simp[A]) p.2 (by simp[A,Op.operands];exact⟨p.1,by simpa using hp⟩));exact Done.calm M ⟨h1,z,by simp[execOp,A,H],N⟩
   |false=>obtain⟨h1,z,H,N⟩:=AFy (L.ty _ _ C) M T B O (vs:=ps.map λp=>(p.1,a.eval p.2)) oh (tW (ρ:=λp=>YJ E.fs σ' (sL ty p.1) (ρ p.2)) λp hp=>AHM L M T (D (by simp[A]) p.2 (by simp[A,Op.operands];exact⟨p.1,by simpa using hp⟩)));exact Done.calm M ⟨h1,z,by simp[execOp,A,H],N⟩
  .cases B
 |buildSlice t len ps=>
  rw[A]at B;simp only at B;split at B
  .rename_i e C;split at B
   .rename_i xs J;have B:=A2 B;subst B;rw[O.pure_inv];cases hz:Nat.beq len 0 with
    |true=>
     rw[hz]at J;have e0:=A4 hz;subst e0;simp only[A6]at J;split at J
     .rename_i b1;cases J;have a6:ps= #[]:=by simpa using b1
      subst a6;obtain⟨z,w',H,N⟩:=AG3 (wr:=(match o.dst with|some d=>E.wr d|none=>false)) (L.ty _ _ C) M K (λx J=>L.el _ _ J);exact Done.makes ⟨z,w',by simp[execOp,A,H],N⟩
     .cases J
    |false=>
    have J:(bif Nat.blt 0 len&&Nat.ble (len*e.sz) 16777216 then RK σ' e (ps.toList.map λp=>(p.1,ρ p.2)) (List.replicate len e.dflt)else none)=some xs:=by
     rw[hz]at J;have a0:Nat.blt 0 len=true:=by rw[BY];apply Nat.pos_of_ne_zero;intro e0;rw[e0]at hz;cases hz
     rw[a0];exact J
    obtain⟨z,w',H,N⟩:=AG2 (wr:=(match o.dst with|some d=>E.wr d|none=>false)) (L.ty _ _ C) M T K J (vs:=ps.map λp=>(p.1,a.eval p.2)) oh (λx J=>L.el _ _ J) (tW λp hp=>D (by simp[A]) p.2 (by simp[A,Op.operands];exact⟨p.1,by simpa using hp⟩));exact Done.makes ⟨z,w',by simp[execOp,A,H],N⟩
   .cases B
  .cases B
 |binOp op t x y z=>
  rw[A]at B;simp only at B;split at B
  .rename_i r0 V;have B:=A2 B;subst B;obtain⟨e1,v,e2,e3⟩:=AFD (P:=P) (w:=w) (G:=G) V O (D (by simp[A]) x (by simp[A,Op.operands])) (D (by simp[A]) y (by simp[A,Op.operands])) (λq hq=>L.ty _ _ hq) x y;exact Done.calm M ⟨e1,v,by simp only[execOp,A,Sem.run_bind]at e2 ⊢;rw[e2];rfl,e3⟩
  split at B
  .rename_i r0 V;have B:=A2 B;subst B;unfold A1a at V;split at V
   .rename_i ty C;cases x1:(E.eq t&&A1_ ty)with
    |false=>rw[x1]at V;cases V
    |true=>
     rw[x1]at V;simp only[A6]at V;simp only[A5]at x1;split at V
     .rename_i xu xv b6 b7;split at V
      .rename_i bb a7;have ha:∃p,ty=.agg p:=by cases ty<;>first|exact⟨_,rfl⟩|cases x1.2
       have h1:=KK b6 (D (by simp[A]) x (by simp[A,Op.operands]));have H:=KK b7 (D (by simp[A]) y (by simp[A,Op.operands]));obtain⟨q1,q2⟩:=AFb (op:=op) (ox:=x) (oy:=y) (L.ty _ _ C) ha (L.eq _ _ x1.1 C) h1 H a7;cases op<;>simp only[U_,AK]at V<;>first|(cases V;done)|skip
       .subst V;rw[O.v_inv];have e2:=q1 rfl;exact Done.calm M ⟨rfl,.bool bb,by simp only[execOp,A,Sem.run_bind]at e2 ⊢;rw[e2];rfl,SR.mk_bool _⟩
       .subst V;rw[O.v_inv];have e2:=q2 rfl;exact Done.calm M ⟨rfl,.bool (!bb),by simp only[execOp,A,Sem.run_bind]at e2 ⊢;rw[e2];rfl,SR.mk_bool _⟩
      .cases V
     .cases V
   .cases V
  have x0:∃b,(bif b then dL op (ρ x) (ρ y)else none)=some r/\(b=true->∀c,ρ x=.val .bool c->P.underlying t=some .bool):=by
   refine⟨_,B,λhb c hc=>?_⟩;rw[hc]at hb;simp only at hb;split at hb
   .rename_i ht;exact(L.ty _ _ ht).bool
   .cases hb
  obtain⟨b,h1,H⟩:=x0;cases b with
  |false=>cases h1
  |true=>obtain⟨e1,v,e2,e3⟩:=AFE (P:=P) (w:=w) (G:=G) h1 O (D (by simp[A]) x (by simp[A,Op.operands])) (D (by simp[A]) y (by simp[A,Op.operands])) t x y (H rfl);exact Done.calm M ⟨e1,v,by simp only[execOp,A,Sem.run_bind]at e2 ⊢;rw[e2];rfl,e3⟩
 |makeFunc fn first U=>
  rw[A]at B;cases fn with
  |func f=>
   simp only at B;split at B
   .rename_i y1;have b0:first= #[]:=by simpa using y1
    subst b0;have X:∃ Z:Bool,(bif Z then (match E.ty o.type with
     |some (.fnc d c)=>(PO false E.fs σ' d c (.fn f (SV.ofList (U.toList.map ρ)))).map λF=>OpRes.v (.val (.fnc d c) (some F:Option (d.T->Option c.T)))
     |_=>none)else some (.v (.fn f (SV.ofList (U.toList.map ρ)))))=some r:=⟨_,B⟩
    clear B;obtain⟨Z,B⟩:=X;have a8:CR P w G (.fn f (SV.ofList (U.toList.map ρ))) [.func (.func f) #[] (U.map a.eval)]:=by
     refine⟨U.map a.eval,rfl,?_⟩;refine tK oh λj s v h1 H=>?_;rw[AX]at h1;rw[Array.toList_map,AX]at H;cases hp:U.toList[j]? with
     |none=>rw[hp]at h1;cases h1
     |some p=>rw[hp]at h1 H;cases h1;cases H;have h8:=AH hp;exact D (by simp[A]) p (by simp[A,Op.operands];simpa using h8)
    cases Z with
    |true=>
     simp only[A6]at B;split at B
     .rename_i d c C;cases hh:PO false E.fs σ' d c (.fn f (SV.ofList (U.toList.map ρ)))with
      |none=>rw[hh]at B;cases B
      |some F=>rw[hh]at B;have B:=A2 B;subst B;rw[O.v_inv];obtain⟨f',c2,e1,e2⟩:=eX (D:=False) (λk o h=>M.objs k o (T k o h)) L.fs (λh=>h.elim) hh a8;injection e1 with e1 _;refine Done.calm M ⟨rfl,.func (.func f) #[] (U.map a.eval),by simp[execOp,A,Instr.makeFunc],_,rfl,?_⟩;rw[e1];exact HofD.fnc (by rw[L.pin];exact e2)
     .cases B
    |false=>
    have B:=A2 B;subst B;rw[O.v_inv];refine Done.calm M ⟨rfl,.func (.func f) #[] (U.map a.eval),by simp[execOp,A,Instr.makeFunc],_,rfl,U.map a.eval,rfl,?_⟩;refine tK oh λj s v h1 H=>?_;rw[AX]at h1;rw[Array.toList_map,AX]at H;cases hp:U.toList[j]? with
    |none=>rw[hp]at h1;cases h1
    |some p=>rw[hp]at h1 H;cases h1;cases H;have h8:=AH hp;exact D (by simp[A]) p (by simp[A,Op.operands];simpa using h8)
   .cases B
  |_=>cases B
 |nilCheck x=>
  rw[A]at B;have J:=D (by simp[A]) x (by simp[A,Op.operands]);have y0:∀{s:SV} {ad:Addr},a.eval x=.pointer (some ad)->SR P w G s (.pointer (some ad))->u=⟨s,[]⟩->Done P fr.dr o a w (Res P fr free self σ w G u):=by intro s ad h1 H N;subst N;exact Done.calm M ⟨rfl,_,by simp only[execOp,A,h1];rfl,H⟩
  have z1:∀{s:SV} {f:Nat} {vs:Array Value},a.eval x=.func (.func f) #[] vs→SR P w G s (.func (.func f) #[] vs)→u=⟨s,[]⟩→Done P fr.dr o a w (Res P fr free self σ w G u):=by intro s f vs h1 H N;subst N;exact Done.calm M ⟨rfl,_,by simp only[execOp,A,h1];rfl,H⟩
  simp only at B;split at B
  .rename_i k p q Y;have B:=A2 B;subst B;rw[Y]at J;obtain⟨b,t,oo,_,_,_,hv⟩:=NR J;exact y0 hv (hv▸J) O.v_inv
  .rename_i k p i q uu Y;have B:=A2 B;subst B;rw[Y]at J;obtain⟨b,t,oo,n,e,o',_,_,_,_,_,_,hv⟩:=eO J;exact y0 hv (hv▸J) O.v_inv
  .rename_i t y Y;have B:=A2 B;subst B;rw[Y]at J;obtain⟨ad,c,hv,_⟩:=T9 J;exact y0 hv (hv▸J) O.v_inv
  .rename_i e y Y;have B:=A2 B;subst B;rw[Y]at J;obtain⟨z,hz,rfl⟩:=O.may_inv;have hz:y=some z:=hz;subst hz;obtain⟨c,hc,ad,H,N,cc,h4,h5⟩:=J;have hv:a.eval x=.pointer (some ad):=AC.1 ((show c=[a.eval x]from hc).symm.trans H);exact y0 (s:=.ref e z) hv ⟨_,rfl,ad,cc,rfl,N,h4,h5⟩ rfl
  .rename_i d c y Y;have B:=A2 B;subst B;rw[Y]at J;obtain⟨F,hF,rfl⟩:=O.may_inv;have hF:y=some F:=hF;subst hF;obtain⟨cc,hc,H⟩:=J;obtain⟨f,vs,N,h4⟩:=A1p H;have hv:a.eval x=.func (.func f) #[] vs:=AC.1 ((show cc=[a.eval x]from hc).symm.trans N);exact z1 (s:=.hof false d c F) hv ⟨_,rfl,f,vs,rfl,by rw[<-L.pin];exact⟨h4.1,λw' I' Y M x l J y hy=>(h4.2 w' I' Y M x l J y hy).mono λ_ _ ⟨rv,I'',q1,q2,q3,_⟩=>⟨rv,I'',q1,q2,q3,λh=>oq⟩⟩⟩ rfl
  .cases B
 |convert st t x=>
  rw[A]at B;simp only at B;have J:=D (by simp[A]) x (by simp[A,Op.operands]);split at B
  .rename_i sy ty b3 C;have z3:=L.ty _ _ b3;have h9:∃d,P.underlying st=some d:=let ⟨d,hd,_⟩:=z3.isAgg;⟨d,hd⟩
   have x3:=L.ty _ _ C;have X:∃Z:Bool,(bif Z then sJ self (E.el t) ty (ρ x)else sI σ' sy ty (ρ x))=some r:=⟨_,B⟩;clear B;obtain⟨Z,B⟩:=X;cases Z with
   |true=>
    simp only[A6]at B;unfold sJ at B;split at B
    .rename_i s Y;have B:=A2 B;subst B;rw[O.pure_inv];rw[Y]at J;obtain⟨z,w',h1,H⟩:=AG9 L.pin (wr:=true) x3 (λx J=>L.el _ _ J) h9 M K J;exact Done.makes ⟨z,w',by simp[execOp,A,h1],H⟩
    .cases B
   |false=>
   simp only[A8]at B;unfold sI at B;split at B
   .split at B
    .rename_i s Y;have B:=A2 B;subst B;rw[O.v_inv];rw[Y]at J;obtain⟨z,w',h1,H⟩:=AG8 x3 h9 M J;exact Done.makes ⟨z,w',by simp[execOp,A,h1],H⟩
    .cases B
   .split at B
    .rename_i s Y;rw[Y]at J;obtain⟨h1,z,H,N⟩:=A2T (t:=.str) x3 h9 (s:=.val .str s) rfl (show Gives (.v (.val .str s)) u from by have:=A2 B;rw[this];exact O) J;exact Done.calm M ⟨h1,z,by simp[execOp,A,H],N⟩
    .rename_i k n Y;have B:=A2 B;subst B;rw[O.v_inv];rw[Y]at J;obtain⟨z,H,N⟩:=AGX x3 h9 J;exact Done.calm M ⟨rfl,z,by simp[execOp,A,H],N⟩
    .cases hs:sy.same (.slice (.int .u8))with
     |false=>rw[hs]at B;cases B
     |true=>
      rw[hs]at B;have es:=Ty.same_eq hs;subst es;simp only[A6]at B;split at B
      .rename_i xs b5;have B:=A2 B;subst B;obtain⟨s,b2,rfl⟩:=O.may_inv;obtain⟨z,H,N⟩:=AGC (G:=G) x3 z3 (K0 ho b5 J) b2;exact Done.calm M ⟨rfl,z,by simp[execOp,A,H],N⟩
      .cases B
   .obtain⟨h1,z,H,N⟩:=A2T x3 h9 B O J;exact Done.calm M ⟨h1,z,by simp[execOp,A,H],N⟩
  .cases B
 |call c=>
  obtain⟨a5,as,ts⟩:=c;rw[A]at B;cases a5 with
  |invoke ro m=>
   simp only at B;have h1:=D (by simp[A]) ro (by simp[A,Op.operands,Call.operands]);split at B
   .rename_i c W C;exact AH7 L.fs L.drs L.mt M A W h1 B O
   .cases B
  |value fo=>
   have h1:=D (by simp[A]) fo (by simp[A,Op.operands,Call.operands]);exact AH4 L.pin L.fs L.drs L.drE M T R A h1 oh (λj s x hj J=>by rw[AX,J]at hj;cases hj;have h8:=AH J;exact D (by simp[A]) x (by simp[A,Op.operands,Call.operands];right;simpa using h8)) B O
  |builtin b=>
   have Q:∀x∈as.toList,SR P w G (ρ x) (a.eval x):=λx J=>D (by simp[A]) x (by simp[A,Op.operands,Call.operands];simpa using J);cases b<;>first|(cases B;done)|skip
   case append=>
    rcases W:as.toList with _|⟨s,_|⟨x,_|⟨y,rr⟩⟩⟩<;>simp only[W]at B<;>first|(cases B;done)|skip
    rcases hts:ts.toList with _|⟨t,_|⟨t',_|⟨b9,rr⟩⟩⟩<;>simp only[hts]at B<;>first|(cases B;done)|skip
    cases y9:Nat.beq t t' with
    |false=>
     rw[y9]at B;simp only[A8]at B;split at B
     .rename_i ty c1 C a1;have h7:as= #[s,x]:=by apply C6;simpa using W
      have x4:ts= #[t,t']:=by apply C6;simpa using hts
      subst h7 x4;obtain⟨z,w',h1,H⟩:=AHO (ty:=o.type) (wf:=(match o.dst with|some d=>E.wr d|none=>false)) (L.ty _ _ C) (L.ty _ _ a1) (λx J=>L.el _ _ J) M T K B O (Q s oh) (Q x oh);exact Done.makes ⟨z,w',by simp[execOp,A,resolve,invoke,builtin,h1],H⟩
     .cases B
    |true=>
     rw[y9]at B;have:=A4 y9;subst this;simp only[A6]at B;split at B
     .rename_i ty C;have h7:as= #[s,x]:=by apply C6;simpa using W
      have x4:ts= #[t,t]:=by apply C6;simpa using hts
      subst h7 x4;cases y4:dR σ' self (E.el t) ty (ρ s) (ρ x)with
      |some r1=>rw[y4]at B;have B:=A2 B;subst B;obtain⟨z,w',h1,H⟩:=AHK (ty:=o.type) (L.ty _ _ C) (λx J=>L.el _ _ J) M T K (R _ oa oa) y4 O (Q s oh) (Q x oh);exact Done.makes ⟨z,w',by simp[execOp,A,resolve,invoke,builtin,h1],H⟩
      |none=>
      rw[y4]at B;simp only at B;obtain⟨z,w',h1,H⟩:=AHN (ty:=o.type) (wf:=(match o.dst with|some d=>E.wr d|none=>false)) (L.ty _ _ C) (λx J=>L.el _ _ J) M T K B O (Q s oh) (Q x oh);exact Done.makes ⟨z,w',by simp[execOp,A,resolve,invoke,builtin,h1],H⟩
     .cases B
   case len=>
    rcases W:as.toList with _|⟨x,_|⟨y,rr⟩⟩<;>simp only[W]at B<;>first|(cases B;done)|skip
    rcases hts:ts.toList with _|⟨t,_|⟨t',rr⟩⟩<;>simp only[hts]at B<;>first|(cases B;done)|skip
    split at B
    .rename_i ty C;have h7:as= #[x]:=by apply C6;simpa using W
     have x4:ts= #[t]:=by apply C6;simpa using hts
     subst h7 x4;obtain⟨h1,z,H,N⟩:=AFM (L.ty _ _ C) ho B O (Q x oh) #[t] rfl o.type;exact Done.calm M ⟨h1,z,by simp[execOp,A,resolve,invoke,builtin,H],N⟩
    .cases B
   case max=>
    rcases W:as.toList with _|⟨x,_|⟨y,_|⟨yy,rr⟩⟩⟩<;>simp only[W]at B<;>first|(cases B;done)|skip
    .have h7:as= #[x,y]:=by apply C6;simpa using W
     subst h7;split at B
     .rename_i k m l n J hy;have h1:=Q x oh;have H:=Q y oh;rw[J]at h1;rw[hy]at H;obtain⟨e1,e2⟩:=h1.int;obtain⟨e3,e4⟩:=H.int;cases hk:OH k l with
      |false=>rw[hk]at B;cases B
      |true=>rw[hk]at B;have:=UR hk;subst this;have B:=A2 B;subst B;rw[O.v_inv];obtain⟨z,h5,h6⟩:=AGV (P:=P) (w:=w) (G:=G) ts o.type e2 e4;exact Done.calm M ⟨rfl,z,by simp[execOp,A,resolve,invoke,builtin,e1,e3,h5],h6⟩
     .cases B
   case min=>
    rcases W:as.toList with _|⟨x,_|⟨y,_|⟨yy,rr⟩⟩⟩<;>simp only[W]at B<;>first|(cases B;done)|skip
    .have h7:as= #[x,y]:=by apply C6;simpa using W
     subst h7;split at B
     .rename_i k m l n J hy;have h1:=Q x oh;have H:=Q y oh;rw[J]at h1;rw[hy]at H;obtain⟨e1,e2⟩:=h1.int;obtain⟨e3,e4⟩:=H.int;cases hk:OH k l with
      |false=>rw[hk]at B;cases B
      |true=>rw[hk]at B;have:=UR hk;subst this;have B:=A2 B;subst B;rw[O.v_inv];obtain⟨z,h5,h6⟩:=AGU (P:=P) (w:=w) (G:=G) ts o.type e2 e4;exact Done.calm M ⟨rfl,z,by simp[execOp,A,resolve,invoke,builtin,e1,e3,h5],h6⟩
     .cases B
 |_=>cases A▸B
end
end Go.Ev
