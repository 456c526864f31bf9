/-
  The evaluator's functions: a function of the program keeps what the evaluator says.
-/
import Derived.Test.YtkmeffadhdmdhaaGreatDoorE2
set_option linter.all false
set_option maxRecDepth 100000
namespace Go.Ev
variable{k n el b id j i ty:Nat}{o:Oper}{bs:KX Nat}{t:Ty}{cs vs vals ds:KX X2}{a:Act}{s:SV}{v rv vx vk:X2}{I' I:Im}{ow:Nat->Prop}{fs:Nat->X1 Q2}{m:String}{r:Z8}{args:KX SV}{u:n_}{as:Array Operand}{ts:Array TypeId}{Z6:Array MapEntry}{bss:KX (KX Nat)}{h:X1 (KX Nat)}
variable [CB]
section
variable{P:Program}{fr:Fr}{free free':Nat->Prop}{σ σ':W4}{w w':X4}{G G':Gh}{I:Im}
theorem GZ(σ:W4)(a b:KX (Nat×X1 Obj)):EK σ (a++b)=EK (EK σ b) a:=by induction a<;>simp_all[List.cons_append,EK]
theorem FU(σ:W4)(k:Nat)(o:X1 Obj)(j:Nat):EK σ [(k,o)] j=if j=k then o else σ j:=by simp_all[EK,CS,if_neg,Nat.beq,B_,A5]
theorem TQ:∀(s:Sh) (x:s.T) (n:Nat),(F6 s x n).nx=n+s.R4:=by intro s;induction s<;>grind[F6,Sh.R4]
def Z2.add(s:Z2 P fr free σ w G)(hk:free k){o:Obj}(l:G'.im=G.im)
 (E:∀j,j≠k->G'.box j=G.box j/\G'.ety j=G.ety j/\∀g,G'.val j g=G.val j g)
 (J:PC w G w G'->V1 P fr w G' k o)(H:∀b,Bk G' k o b->∀j d,σ j=some d->¬Bk G j d b):
 PC w G w G'/\Z2 P fr (λj=>free j/\j≠k) (EK σ [(k,some o)]) w G':=by
 have I:=s.fresh k hk;have m:PC w G w G':=by
  refine⟨l▸Ext.refl _ _,λj g v h=>?_,λj t h=>?_,λj b h=>?_⟩
  .grind
  .grind
  .grind
 have a:∀j d,σ j=some d->∀{b},Bk G' j d b<->Bk G j d b:=λj d h=>H8 (s.objs j d h) m;refine⟨m,λj d h=>?_,λi j B C b hi p x y=>?_,l▸s.after,λj p=>?_⟩
 .rw[FU]at h;by_cases e:j=k
  .grind
  .rw[if_neg e]at h;exact(s.objs j d h).keep m λb _=>⟨rfl,λ_ h=>l▸h,λh=>l▸h⟩
 .rw[FU]at hi p;by_cases z:i=k<;>by_cases A:j=k
  .rw[z,A]
  .grind
  .grind
  .rw[if_neg z]at hi;rw[if_neg A]at p;rw[a i B hi]at x;rw[a j C p]at y;exact s.sep i j B C b hi p x y
 .have D:=s.fresh j p.1;simp_all[FU,if_neg,trans]
def Z2.ghost(d:Z2 P fr free σ w G)(hk:free k)(v:X2):
 PC w G w (G.Z3 k 0 v)/\Z2 P fr (λj=>free j/\j≠k) σ w (G.Z3 k 0 v):=by
 have z:=d.fresh k hk;have a:PC w G w (G.Z3 k 0 v):=by refine⟨Ext.refl _ _,λj g u h=>?_,λj t h=>h,λj b h=>h⟩;have:j≠k:=λe=>oc;simp only[Gh.Z3,this,DE,CE];exact h
 refine⟨a,λj o h=>(d.objs j o h).keep a λb _=>⟨rfl,λ_ h=>h,λh=>h⟩,λi j s x b hi p l m=>?_,d.after,λj p=>?_⟩
 .rw[H8 (d.objs i s hi) a]at l;rw[H8 (d.objs j x p) a]at m;exact d.sep i j s x b hi p l m
 .have y:=d.fresh j p.1;simp_all[Gh.Z3,DE,CE]
structure Made(P:Program)(fr:Fr)(free:Nat->Prop)(σ:W4)(w:X4)(G:Gh)(n m:Nat)(obs:KX (Nat×X1 Obj))(bs:KX Nat)(G':Gh):Prop where
 le:PC w G w G'
 im:G'.im=G.im
 mem:Z2 P fr (λj=>free j/\¬(n<=j/\j<m)) (EK σ obs) w G'
 own:∀j o b,EK σ obs j=some o->Bk G' j o b->b∈bs\/∃j' o',σ j'=some o'/\Bk G j' o' b
theorem Made.none(e:Z2 P fr free σ w G):Made P fr free σ w G n n [] bs G:=
 ⟨PC.refl _ _,rfl,e.shrink λ_ h=>h.1,λj o b a d=>.inr ⟨j,o,a,d⟩⟩
def fN{wr:X5}{x:KX t.T}(D:Z2 P fr free σ w G)(h:RF P w G.im (.own el t wr) x cs bs)
 (z:∀b∈bs,fr.owned b/\∀j o,σ j=some o->¬Bk G j o b)(m:∀k,n<=k->k<n+(Sh.own el t wr).R4->free k):
 ∃G',Made P fr free σ w G n (n+(Sh.own el t wr).R4) (F6 (.own el t wr) x n).obs bs G'/\CR P w G' (F6 (.own el t wr) x n).sv cs/\Fit (F6 (.own el t wr) x n).sv (Sh.own el t wr).ty:=by
 have N:=m n (AD _) (by simp[Sh.R4]);have Q:∃v,cs=[v]/\v.oneCell'=true/\RE fr w G.im el t x wr v/\∀b a len,v=.slice (some ⟨b,0,none⟩) len a->b∈bs:=by
  rcases h with⟨rfl,p,B⟩|⟨b,a,cells,rfl,rfl,p,B,H,I,J,K,L⟩
  .exact⟨_,rfl,rfl,.inl ⟨rfl,p⟩,λb a len e=>by cases e⟩
  .exact⟨_,rfl,rfl,.inr ⟨b,a,cells,rfl,p,B,H,I,(z b oh).1,J,K,L⟩,λE a len e=>by cases e;simp⟩
 obtain⟨v,rfl,C,A,R⟩:=Q;let G':Gh:=(G.Z3 n 0 v).Q7 n t
 have l:G'.val n 0=some v:=by simp[G',Gh.Z3,Gh.Q7]
 have y:∀b,Bk G' n (.sl el t x 0 wr) b->b∈bs:=by
  intro b s;simp only[Bk,l]at s;rcases A with⟨rfl,_⟩|⟨E,a,cells,rfl,_⟩
  .cases s
  .grind
 have⟨p,B⟩:=D.add (G':=G') (o:=.sl el t x 0 wr) N rfl (λj d=>⟨rfl,by simp[G',Gh.Z3,Gh.Q7,d],λg=>by simp[G',Gh.Z3,Gh.Q7,d]⟩)
  (λM=>⟨by simp[G',Gh.Z3,Gh.Q7],v,l,A⟩) (λb s j o O=>(z b (y b s)).2 j o O)
 refine⟨G',⟨p,rfl,B.shrink λj d=>⟨d.1,λe=>d.2 (by subst e;simp[Sh.R4])⟩,λj o b d s=>?_⟩,⟨v,l,C,rfl⟩,rfl⟩;have d:EK σ [(n,some (.sl el t x 0 wr))] j=some o:=d;rw[FU]at d;by_cases e:j=n
 .grind
 .rw[if_neg e]at d;exact .inr ⟨j,o,d,by rw[<-H8 (D.objs j o d) p];exact s⟩
def AHd{a b:Ty}{x:KX (a.T×b.T)}(D:Z2 P fr free σ w G)(h:RF P w G.im (.omap a b) x cs bs)
 (B:∀b∈bs,fr.owned b/\∀j o,σ j=some o->¬Bk G j o b)(z:∀k,n<=k->k<n+1->free k):
 ∃G',Made P fr free σ w G n (n+1) (F6 (.omap a b) x n).obs bs G'/\CR P w G' (F6 (.omap a b) x n).sv cs/\Fit (F6 (.omap a b) x n).sv (Sh.omap a b).ty:=by
 have N:=z n (AD _) oa;obtain⟨p,Q,bl,Z6,s,rfl,rfl,E,H,I,J,K⟩:=h;let G':Gh:=G.Z3 n 0 (.map (some bl))
 have l:G'.val n 0=some (.map (some bl)):=by simp[G',Gh.Z3]
 have m:∀c,Bk G' n (.mp a b x true) c->c=bl:=by intro c y;simp only[Bk,l,AJ]at y;exact y.symm
 have A:=B bl oh
 have⟨C,L⟩:=D.add (G':=G') (o:=.mp a b x true) N rfl (λj d=>⟨rfl,rfl,λg=>by simp[G',Gh.Z3,d]⟩)
  (λM=>⟨_,l,p,Q,bl,Z6,s,rfl,E,H,I,⟨λ_=>J,λh=>om⟩,K,A.1⟩) (λc y j o O=>by rw[m c y];exact A.2 j o O)
 refine⟨G',⟨C,rfl,L.shrink λj d=>⟨d.1,λe=>d.2 (by subst e;omega)⟩,λj o c d y=>?_⟩,⟨_,l,rfl,rfl⟩,rfl⟩;have d:EK σ [(n,some (.mp a b x true))] j=some o:=d;rw[FU]at d;by_cases e:j=n
 .rw[if_pos e]at d;cases d;subst e;exact .inl (by rw[m c y];simp)
 .rw[if_neg e]at d;exact .inr ⟨j,o,d,by rw[<-H8 (D.objs j o d) C];exact y⟩
theorem AHe{a b:Ty}{x:KX (a.T×KX b.T)}(H:Z2 P fr free σ w G)(h:RF P w G.im (.og id a b) x cs bs)(I:bs.Nodup)
 (z:∀b∈bs,fr.owned b/\∀j o,σ j=some o->¬Bk G j o b)(l:∀k,n<=k->k<n+2->free k):
 ∃G',Made P fr free σ w G n (n+2) (F6 (.og id a b) x n).obs bs G'/\CR P w G' (F6 (.og id a b) x n).sv cs/\Fit (F6 (.og id a b) x n).sv (Sh.og id a b).ty:=by
 obtain⟨bl,Z6,s,A,rfl,rfl,Q,R,T,N,U,V,W⟩:=h;have C:∀u∈A,∃v,u=I5 v:=by intro u hu;have⟨i,hi⟩:=BR hu;have x2:i<A.length:=(A3.1 hi).1;obtain⟨y,hy⟩:∃y,(show KX (a.T×KX b.T)from x)[i]?=some y:=⟨_,A1 oa⟩;obtain⟨e,Z⟩:∃e,Z6[i]?=some e:=⟨_,AU oa⟩;exact⟨_,(N i y e u hy Z hi).2.2⟩
 have⟨B,K⟩:=H.ghost (l (n+1) oa oa) (.tuple A.toArray);let G1:Gh:=G.Z3 (n+1) 0 (.tuple A.toArray)
 have K:Z2 P fr (λj=>free j/\j≠n+1) σ w G1:=K;have B:PC w G w G1:=B;let G':Gh:=G1.Z3 n 0 (.map (some bl))
 have p:G'.val n 0=some (.map (some bl)):=by simp[G',Gh.Z3]
 have J:G'.val (n+1) 0=some (.tuple A.toArray):=by simp[G',G1,Gh.Z3]
 have x0:G'.im=G.im:=rfl;have D:∀c,Bk G' n (.mg id a b x none (n+1)) c->c∈bl::A.filterMap OT:=by
  intro c m;rcases m with m|⟨x3,E,m⟩
  .grind
  .grind[List.mem_cons_of_mem,V_]
 have⟨E,X⟩:=K.add (G':=G') (o:=.mg id a b x none (n+1)) (k:=n) ⟨l n (AD _) oa,oa⟩ rfl (λj d=>⟨rfl,rfl,λg=>by simp[G',Gh.Z3,d]⟩)
  (λx1=>⟨_,A.toArray,p,J,bl,Z6,s,rfl,Q,R,by simpa using T,λi y e u L M q3=>by have⟨r1,r2,r3⟩:=N i y e u L M (by simpa using q3);refine⟨r1,.inr ⟨r2.own λc m=>(z c (AP _ ((V_ C).2 ?_))).1,r3⟩⟩;grind,λi j c L M=>AHV C (AY.1 I).2 (by simpa using L) (by simpa using M),U,V,W,(z bl AF).1⟩)
  (λc m j o O Y=>(z c (D c m)).2 j o O (by rw[<-H8 (H.objs j o O) B];exact Y))
 refine⟨G',⟨B.trans E,rfl,X.shrink λj d=>⟨⟨d.1,λe=>d.2 (by subst e;omega)⟩,λe=>d.2 (by subst e;omega)⟩,λj o c d m=>?_⟩,⟨_,p,rfl,rfl⟩,rfl⟩;have d:EK σ [(n,some (.mg id a b x none (n+1)))] j=some o:=d;rw[FU]at d;by_cases e:j=n
 .grind
 .rw[if_neg e]at d;exact .inr ⟨j,o,d,by rw[<-H8 (H.objs j o d) (B.trans E)];exact m⟩
theorem A3T{ids:KX Nat}{x:(E5 ids t).T}(D:Z2 P fr free σ w G)(h:RF P w G.im (.dp ids t) x cs bs)(E:bs.Nodup)
 (y:∀b∈bs,fr.owned b/\∀j o,σ j=some o->¬Bk G j o b)(d:∀k,n<=k->k<n+2->free k):
 ∃G',Made P fr free σ w G n (n+2) (F6 (.dp ids t) x n).obs bs G'/\CR P w G' (F6 (.dp ids t) x n).sv cs/\Fit (F6 (.dp ids t) x n).sv (Sh.dp ids t).ty:=by
 obtain⟨N,hd⟩:=h;cases ids with
 |nil=>grind
 |cons id r=>
  have hd:=hd.own (ow':=fr.owned) λb B=>(y b B).1;have C:=hd;obtain⟨v,rfl,H,_⟩:=C;have⟨m,I⟩:=D.ghost (d (n+1) oa oa) (.tuple (List.map IT bs).toArray);let G1:Gh:=G.Z3 (n+1) 0 (.tuple (List.map IT bs).toArray)
  have I:Z2 P fr (λj=>free j/\j≠n+1) σ w G1:=I;have m:PC w G w G1:=m;let G':Gh:=(G1.Z3 n 0 v).Q7 n (E5 r t)
  have l:G'.val n 0=some v:=by simp[G',Gh.Z3,Gh.Q7]
  have A:G'.val (n+1) 0=some (.tuple (List.map IT bs).toArray):=by simp[G',G1,Gh.Z3,Gh.Q7]
  have L:G'.im=G.im:=rfl;have s:∀c,Bk G' n (.dp (id::r) t x (n+1) none true) c->c∈bs:=by rintro c ⟨_,O,p,z⟩;rw[A]at p;cases p;exact(N1 (bs:=bs) oh).1 z
  have⟨p,K⟩:=I.add (G':=G') (o:=.dp (id::r) t x (n+1) none true) (k:=n) ⟨d n (AD _) oa,oa⟩ rfl (λj a=>⟨rfl,by simp[G',Gh.Z3,Gh.Q7,a],λg=>by simp[G',Gh.Z3,Gh.Q7,a]⟩)
   (λM=>⟨qu,by simp[G',Gh.Z3,Gh.Q7],v,_,bs,l,A,oh,E,hd,trivial⟩)
   (λc z j o J B=>(y c (s c z)).2 j o J (by rw[<-H8 (D.objs j o J) m];exact B))
  refine⟨G',⟨m.trans p,rfl,K.shrink λj a=>⟨⟨a.1,λe=>a.2 (by subst e;omega)⟩,λe=>a.2 (by subst e;omega)⟩,λj o c a z=>?_⟩,⟨_,l,H,rfl⟩,rfl⟩;have a:EK σ [(n,some (.dp (id::r) t x (n+1) none true))] j=some o:=a;rw[FU]at a;by_cases e:j=n
  .grind
  .rw[if_neg e]at a;exact .inr ⟨j,o,a,by rw[<-H8 (D.objs j o a) (m.trans p)];exact z⟩
theorem LX:∀{s:Sh} {x:s.T} {n:Nat} {free:Nat->Prop} {σ:W4} {G:Gh} {cs:KX X2} {bs:KX Nat},Z2 P fr free σ w G->RF P w G.im s x cs bs->bs.Nodup->
 (∀b∈bs,fr.owned b/\∀j o,σ j=some o->¬Bk G j o b)->(∀k,n<=k->k<n+s.R4->free k)->
 ∃G',Made P fr free σ w G n (n+s.R4) (F6 s x n).obs bs G'/\CR P w G' (F6 s x n).sv cs/\Fit (F6 s x n).sv s.ty:=by
 intro s;induction s with
 |val t=>intro x n free σ G cs bs A h _ _ _;exact⟨G,Made.none A,h.1,rfl⟩
 |hof d c=>intro x n free σ G cs bs A h _ _ _;exact⟨G,Made.none A,h.2,rfl⟩
 |fn f=>intro x n free σ G cs bs A h _ _ _;exact⟨G,Made.none A,⟨#[],h.2,rfl⟩,rfl⟩
 |nilS=>intro x n free σ G cs bs A h _ _ _;exact⟨G,Made.none A,h.2,rfl⟩
 |nns e=>intro x n free σ G cs bs A h _ _ _;exact⟨G,Made.none A,h.2,rfl⟩
 |mns e=>intro x n free σ G cs bs A h _ _ _;exact⟨G,Made.none A,h.2,rfl⟩
 |any=>intro x n free σ G cs bs A h _ _ _;exact absurd h id
 |it a b=>intro x n free σ G cs bs A h _ _ _;exact absurd h id
 |tr s _=>intro x n free σ G cs bs A h _ _ _;exact absurd h id
 |R9 el c=>
  intro x n free σ G cs bs A h E m l;obtain⟨b,cells,h9,p,q,Y,rfl,rfl,N,M,I,hp,J,h5,h6⟩:=h;have B:=AY.1 E;have h7:RF P w G.im (.own el (.int .u8) true) x [q] Y:=by
   rcases h6 with⟨rfl,k1,k2⟩|⟨g,h8,gc,rfl,k1,k2,k3,k4,k5,k6,k7⟩
   .exact .inl ⟨rfl,k1,k2⟩
   .exact .inr ⟨g,h8,gc,rfl,k1,k2,k3,k4,k5,(λ_=>k6),(λh=>om),k7⟩
  have⟨G1,D,r1,f1⟩:=fN (n:=n+1) A h7 (λb C=>m b (AP _ C)) (λk N I=>l k oa (by simp only[Sh.R4]at I ⊢;omega));let G2:Gh:=G1.RG n b GT
  have y:G2.box n=some (b,GT):=by simp[G2,Gh.RG]
  have L:=m b AF;have H:G2.im=G.im:=D.im;have x1:cells.size=2:=by rw[<-BD,I];rfl
  have⟨q1,q2⟩:=D.mem.add (G':=G2) (o:=.box GT (.pr (.slf n) (.obj (n+1) 0)) true) (k:=n) ⟨l n (AD _) (by simp only[Sh.R4];omega),by simp only[Sh.R4];omega⟩ rfl
   (λj z=>⟨by simp[G2,Gh.RG,z],rfl,λ_=>rfl⟩)
   (λV=>⟨b,cells,h9,y,N,x1,⟨_,_,rfl,rfl,f1⟩,⟨[p],[q],I,⟨b,GT,y,by rcases hp with rfl|rfl<;>simp⟩,r1.mono V⟩,⟨λ_ o=>by rw[H];exact J o,λh=>om⟩,by rw[H];exact h5,L.1,λ_=>M⟩)
   (λQ K j o Z U=>by
    simp only[Bk,y,BG,AJ]at K;subst K;rcases D.own j o b Z U with h|⟨W,X,O,J⟩
    .exact B.1 h
    .exact L.2 W X O J)
  have R:(F6 (.R9 el c) x n).obs=[(n,some (.box GT (.pr (.slf n) (.obj (n+1) 0)) true))]++(F6 (.own el (.int .u8) true) x (n+1)).obs:=rfl;have T:(Sh.own el (.int .u8) true).R4=1:=rfl;rw[T]at D;rw[T]at q2;refine⟨G2,⟨D.le.trans q1,H,?_,?_⟩,⟨b,GT,0,y,rfl,⟨GT,rfl,rfl⟩,rfl⟩,rfl⟩
  .rw[R,GZ];exact q2.shrink λj z=>⟨⟨z.1,λe=>z.2 ⟨oa,by simp only[Sh.R4];omega⟩⟩,λe=>z.2 ⟨oa,by simp only[Sh.R4];omega⟩⟩
  .intro j o Q z C;rw[R,GZ,FU]at z;by_cases e:j=n
   .rw[if_pos e]at z;cases z;subst e;simp only[Bk,y,BG,AJ]at C;subst C;exact .inl AF
   .rw[if_neg e]at z;rw[H8 (D.mem.objs j o z) q1]at C;rcases D.own j o Q z C with h|h
    .exact .inl (AP _ h)
    .exact .inr h
 |own el t wr=>intro x n free σ G cs bs A h _ m l;exact fN A h m l
 |io el t=>intro x n free σ G cs bs A h _ m l;exact fN (wr:=true) A h m l
 |omap a b=>intro x n free σ G cs bs A h _ m l;exact AHd A h m l
 |og id a b=>intro x n free σ G cs bs A h E m l;exact AHe A h E m l
 |fz t=>intro x n free σ G cs bs A h _ _ _;exact⟨G,Made.none A,h.1,rfl⟩
 |dp y0 t=>intro x n free σ G cs bs A h E m l;exact A3T A h E m l
 |pr a b x2 x3=>
  intro x n free σ G cs bs A h E m l;obtain⟨c,d,x4,x5,rfl,rfl,N,I⟩:=h;have B:=B2.1 E;have⟨G1,D,r1,f1⟩:=x3 (n:=n+a.R4) A I B.2.1 (λb C=>m b (BT _ C)) (λk N I=>l k oa (by simp only[Sh.R4];omega));obtain ⟨G2,m2,r2,f2⟩:=x2 (n:=n) (cs:=c) D.mem (by rw [D.im]; exact N) B.1 (λb C=>⟨(m b (BZ _ C)).1,λj o Z x0=>by
   rcases D.own j o b Z x0 with h|⟨W,X,O,J⟩
   .exact B.2.2 b C b h rfl
   .exact(m b (BZ _ C)).2 W X O J⟩) (λk N I=>⟨l k N (by simp only[Sh.R4];omega),oa⟩)
  have R:(F6 (.pr a b) x n).obs=(F6 a x.1 n).obs++(F6 b x.2 (n+a.R4)).obs:=by show(F6 a x.1 n).obs++(F6 b x.2 (F6 a x.1 n).nx).obs=_;rw[TQ]
  have e2:(F6 (.pr a b) x n).sv=.pr (F6 a x.1 n).sv (F6 b x.2 (n+a.R4)).sv:=by show SV.pr (F6 a x.1 n).sv (F6 b x.2 (F6 a x.1 n).nx).sv=_;rw[TQ]
  refine⟨G2,⟨D.le.trans m2.le,m2.im.trans D.im,?_,?_⟩,?_,?_⟩
  .rw[R,GZ];refine m2.mem.shrink λj z=>⟨⟨z.1,λe=>z.2 ⟨oa,by simp only[Sh.R4];omega⟩⟩,λe=>z.2 ⟨e.1,by simp only[Sh.R4];omega⟩⟩
  .intro j o Q z C;rw[R,GZ]at z;rcases m2.own j o Q z C with h|⟨W,X,O,J⟩
   .exact .inl (BZ _ h)
   .rcases D.own W X Q O J with h|h
    .exact .inl (BT _ h)
    .exact .inr h
  .rw[e2];exact⟨c,d,rfl,r2,r1.mono m2.le⟩
  .rw[e2];exact⟨a.ty,b.ty,rfl,f2,f1⟩
 |box c ih=>
  intro x n free σ G cs bs A h E m l;obtain⟨b,cells,el,Y,rfl,rfl,N,I,O,J,h5,M⟩:=h;have B:=AY.1 E;have⟨G1,D,r1,f1⟩:=ih (n:=n+1) A O B.2 (λb C=>m b (AP _ C)) (λk N I=>l k oa (by simp only[Sh.R4];omega));let G2:Gh:=G1.RG n b c.ty
  have y:G2.box n=some (b,c.ty):=by simp[G2,Gh.RG]
  have L:=m b AF;have H:G2.im=G.im:=D.im
  have⟨q1,q2⟩:=D.mem.add (G':=G2) (o:=.box c.ty (F6 c x (n+1)).sv true) (k:=n) ⟨l n (AD _) (by simp only[Sh.R4];omega),oa⟩ rfl
   (λj z=>⟨by simp[G2,Gh.RG,z],rfl,λ_=>rfl⟩)
   (λV=>⟨b,cells,el,y,N,I,f1,r1.mono V,⟨λ_ o=>by rw[H];exact J o,λh=>om⟩,by rw[H];exact h5,L.1,M⟩)
   (λQ K j o Z U=>by
    simp only[Bk,y,BG,AJ]at K;subst K;rcases D.own j o b Z U with h|⟨W,X,O,J⟩
    .exact B.1 h
    .exact L.2 W X O J)
  have R:(F6 (.box c) x n).obs=[(n,some (.box c.ty (F6 c x (n+1)).sv true))]++(F6 c x (n+1)).obs:=rfl;refine⟨G2,⟨D.le.trans q1,H,?_,?_⟩,⟨b,c.ty,0,y,by cases c.ty<;>rfl,⟨c.ty,by cases c.ty<;>rfl,rfl⟩,rfl⟩,rfl⟩
  .rw[R,GZ];exact q2.shrink λj z=>⟨⟨z.1,λe=>z.2 ⟨oa,by simp only[Sh.R4];omega⟩⟩,λe=>z.2 ⟨oa,by simp only[Sh.R4];omega⟩⟩
  .intro j o Q z C;rw[R,GZ,FU]at z;by_cases e:j=n
   .rw[if_pos e]at z;cases z;subst e;simp only[Bk,y,BG,AJ]at C;subst C;exact .inl AF
   .rw[if_neg e]at z;rw[H8 (D.mem.objs j o z) q1]at C;rcases D.own j o Q z C with h|h
    .exact .inl (AP _ h)
    .exact .inr h
theorem A3U{s:Sh}{x:s.T}(A:Z2 P fr free σ w G)(h:ShV P w G.im s x v bs)(y:bs.Nodup)
 (p:∀b∈bs,fr.owned b/\∀j o,σ j=some o->¬Bk G j o b)(l:∀k,n<=k->k<n+s.R4->free k):
 ∃G',Made P fr free σ w G n (n+s.R4) (F6 s x n).obs bs G'/\SR P w G' (F6 s x n).sv v:=by
 cases s with
 |val t=>obtain⟨m,rfl⟩:=h;exact⟨G,Made.none A,m⟩
 |fz t=>obtain⟨m,rfl⟩:=h;exact⟨G,Made.none A,m⟩
 |pr a b=>exact absurd h id
 |own el t wr=>obtain⟨G',m,z,_⟩:=LX (s:=.own el t wr) A h y p l;exact⟨G',m,[v],rfl,z⟩
 |io el t=>obtain⟨G',m,z,_⟩:=LX (s:=.io el t) A h y p l;exact⟨G',m,[v],rfl,z⟩
 |omap a b=>obtain⟨G',m,z,_⟩:=LX (s:=.omap a b) A h y p l;exact⟨G',m,[v],rfl,z⟩
 |og id a b=>obtain⟨G',m,z,_⟩:=LX (s:=.og id a b) A h y p l;exact⟨G',m,[v],rfl,z⟩
 |dp C t=>obtain⟨G',m,z,_⟩:=LX (s:=.dp C t) A h y p l;exact⟨G',m,[v],rfl,z⟩
 |box c=>obtain⟨G',m,z,_⟩:=LX (s:=.box c) A h y p l;exact⟨G',m,[v],rfl,z⟩
 |hof nd d c=>obtain⟨G',m,z,_⟩:=LX (s:=.hof nd d c) A h y p l;exact⟨G',m,[v],rfl,z⟩
 |fn f=>obtain⟨G',m,z,_⟩:=LX (s:=.fn f) A h y p l;exact⟨G',m,[v],rfl,z⟩
 |nilS=>obtain⟨G',m,z,_⟩:=LX (s:=.nilS) A h y p l;exact⟨G',m,[v],rfl,z⟩
 |nns e=>obtain⟨G',m,z,_⟩:=LX (s:=.nns e) A h y p l;exact⟨G',m,[v],rfl,z⟩
 |mns e=>obtain⟨G',m,z,_⟩:=LX (s:=.mns e) A h y p l;exact⟨G',m,[v],rfl,z⟩
 |any=>exact⟨G,Made.none A,[v],rfl,trivial⟩
 |it a b=>exact⟨G,Made.none A,[v],rfl,trivial⟩
 |tr s=>
  obtain⟨E,cs,rfl,B,h⟩:=h;obtain⟨G',m,z,D⟩:=LX (s:=s) (x:=x) (n:=n) A h y p l;cases s<;>first|(cases E;done)|skip
  rename_i a b;exact⟨G',m,_,rfl,cs,rfl,⟨a.ty,b.ty,rfl,D⟩,B,z⟩
 |R9 el c=>obtain⟨G',m,z,_⟩:=LX (s:=.R9 el c) A h y p l;exact⟨G',m,[v],rfl,z⟩
def uA:∀{l:KX Sh} {x:Z5 l} {n:Nat} {free:Nat->Prop} {vs:KX X2} {bs:KX Nat},Z2 P fr free σ w G->R2 P w G.im l x vs bs->bs.Nodup->
 (∀b∈bs,fr.owned b/\∀j o,σ j=some o->¬Bk G j o b)->(∀k,n<=k->k<n+GH l->free k)->
 ∃G',Made P fr free σ w G n (n+GH l) ((FH l x n).flatMap (·.obs)) bs G'/\vs.length=l.length/\(FH l x n).length=l.length/\
  ∀(j:Nat) (m:Mk) (v:X2),(FH l x n)[j]?=some m->vs[j]?=some v->SR P w G' m.sv v:=by
 intro l;induction l with
 |nil=>intro x n free vs bs I h _ _ _;obtain⟨rfl,rfl⟩:=h;exact⟨G,Made.none I,rfl,rfl,λj m v h=>by simp[FH]at h⟩
 |cons a l W=>
  intro x n free vs bs I h D z d;cases l with
  |nil=>
   obtain⟨v,rfl,s⟩:=h;have⟨G',A,J⟩:=A3U (n:=n) I s D z (λk s A=>d k s (by assumption));refine⟨G',?_,rfl,rfl,λj m R p N=>?_⟩
   .have H:(FH [a] x n).flatMap (·.obs)=(F6 a x n).obs:=by show([F6 a x n]:KX Mk).flatMap (·.obs)=_;simp
    rw[H];exact A
   .cases j with
    |zero=>cases p;grind
    |succ j=>cases p
  |cons b l=>
   obtain⟨v,Z,T,U,rfl,rfl,s,A⟩:=h;have y:=B2.1 D;have⟨G1,B,X,l2,Y⟩:=W (x:=x.2) (n:=n+a.R4) I A y.2.1 (λb C=>z b (BT _ C)) (λk s A=>d k oa (by grind[GH]));obtain ⟨G2,E,r2⟩:=A3U (s:=a) (x:=x.1) (n:=n) (v:=v) B.mem (by rw [B.im]; exact s) y.1 (λb C=>⟨(z b (BZ _ C)).1,λj o V K=>by rcases B.own j o b V K with h|⟨O,Q,J,M⟩<;>grind⟩) (λk s A=>⟨d k s (by simp only[GH];omega),oa⟩)
   have e0:FH (a::b::l) x n=F6 a x.1 n::FH (b::l) x.2 (n+a.R4):=by show F6 a x.1 n::FH (b::l) x.2 (F6 a x.1 n).nx=_;rw[TQ]
   have H:(FH (a::b::l) x n).flatMap (·.obs)=(F6 a x.1 n).obs++(FH (b::l) x.2 (n+a.R4)).flatMap (·.obs):=by rw[e0,List.flatMap_cons]
   refine⟨G2,⟨B.le.trans E.le,E.im.trans B.im,?_,?_⟩,by simp[X],oc,λj m R p N=>?_⟩
   .rw[H,GZ];exact E.mem.shrink λj p=>⟨⟨p.1,λe=>p.2 ⟨oa,by grind[GH]⟩⟩,λe=>p.2 ⟨e.1,by simp only[GH];omega⟩⟩
   .intro j o L p C;rw[H,GZ]at p;rcases E.own j o L p C with h|⟨O,Q,J,M⟩
    .grind
    .rcases B.own O Q L J M with h|h<;>grind
   .rw[e0]at p;cases j with
    |zero=>grind
    |succ j=>exact(Y j m R (by simpa using p) (by simpa using N)).mono E.le
end
def OV:(a b:KX Sh)->Z5 (a++b)->Z5 a×Z5 b
 |[],_,x=>((),x)
 |[_],[],x=>(x,())
 |[_],_::_,x=>(x.1,x.2)
 |_::s::a,b,x=>((x.1,(OV (s::a) b x.2).1),(OV (s::a) b x.2).2)
section
variable{P:Program}{fr:Fr}{free free':Nat->Prop}{σ σ':W4}{w w':X4}{G G':Gh}{I:Im}
def R2.split:∀{a b:KX Sh} {x:Z5 (a++b)} {vs l:KX X2} {bs:KX Nat},vs.length=a.length->R2 P w I (a++b) x (vs++l) bs->
 ∃p y,bs=p++y/\R2 P w I a (OV a b x).1 vs p/\R2 P w I b (OV a b x).2 l y:=by
 intro a;induction a with
 |nil=>intro b x vs l bs z h;have:vs=[]:=AK z;subst this;exact⟨[],bs,rfl,⟨rfl,rfl⟩,h⟩
 |cons s a K=>
  intro b x vs l bs z h;cases vs with
  |nil=>cases z
  |cons v vs=>
   cases a with
   |nil=>
    have:vs=[]:=AK (by simpa using z);subst this;cases b with
    |nil=>
     obtain⟨m,d,e⟩:=h;have A:l=[]/\v=m:=by have:v::l=[m]:=d;injection this with d e;exact⟨e,d⟩
     obtain⟨rfl,rfl⟩:=A;exact⟨bs,[],oh,⟨v,rfl,e⟩,⟨rfl,rfl⟩⟩
    |cons c b=>
     obtain⟨m,j,p,y,d,e,B,C⟩:=h;have A:l=j/\v=m:=by have:v::l=m::j:=d;injection this with d e;exact⟨e,d⟩
     obtain⟨rfl,rfl⟩:=A;exact⟨p,y,e,⟨v,rfl,B⟩,C⟩
   |cons L a=>
    obtain⟨m,j,p,y,d,e,B,C⟩:=h;have A:vs++l=j/\v=m:=by have:v::(vs++l)=m::j:=d;injection this with d e;exact⟨e,d⟩
    obtain⟨rfl,rfl⟩:=A;have⟨D,E,G,H,J⟩:=K (by simpa using z) C;exact⟨p++D,E,by rw[e,G,CF],⟨v,vs,p,D,rfl,rfl,B,H⟩,J⟩
def fO:∀{a b:KX Sh} {x:Z5 (a++b)} {n:Nat},FH (a++b) x n=FH a (OV a b x).1 n++FH b (OV a b x).2 (n+GH a):=by
 intro a;induction a with
 |nil=>intro b x n;rfl
 |cons s a e=>
  intro b x n;cases a with
  |nil=>
   cases b with
   |nil=>rfl
   |cons c b=>show F6 s x.1 n::FH (c::b) x.2 (F6 s x.1 n).nx=[F6 s x.1 n]++FH (c::b) x.2 (n+(s.R4+0));rw[TQ];rfl
  |cons d a=>show F6 s x.1 n::FH (d::a++b) x.2 (F6 s x.1 n).nx=(F6 s x.1 n::FH (d::a) _ (F6 s x.1 n).nx)++FH b _ (n+(s.R4+GH (d::a)));rw[TQ,e,<-CW];rfl
theorem QA{ks:KX Nat}:EK σ (gone ks) j=if j∈ks then none else σ j:=by
 induction ks with
 |nil=>rfl
 |cons k ks a=>simp only[gone,EK,B1];by_cases h:j=k<;>simp_all
theorem TR{o:Obj}(h:V1 P fr w G k o)(d:Bk G k o b):fr.owned b:=by
 cases o with
 |box t c wr=>obtain⟨y,cs,el,e,_,_,_,_,_,_,J⟩:=h;simp only[Bk,e,BG,AJ]at d;subst d;exact J.1
 |sl el t Q g wr=>
  obtain⟨_,v,e,m⟩:=h;simp only[Bk,e]at d;rcases m with⟨rfl,_⟩|⟨y,E,cs,rfl,_,_,_,_,j,_⟩
  .cases d
  .cases d;exact j
 |mp a y B wr=>obtain⟨v,e,p,N,D,Z6,l,rfl,_,_,_,_,_,j⟩:=h;simp only[Bk,e,AJ]at d;subst d;exact j
 |mg id a t B tk H=>
  obtain⟨v,L,e,m,j⟩:=h;rcases d with d|⟨A,s,d⟩
  .obtain⟨y,Z6,l,rfl,_,_,_,_,_,_,_,_,C⟩:=j;rw[e]at d;cases d;exact C
  .rw[m]at s;cases s;have⟨x,O,k1,K⟩:=j.own d;exact(k1.slice K).2.1
 |dp z t x H M wr=>
  obtain⟨rfl,A,s,d⟩:=d;cases z with
  |nil=>exact absurd h id
  |cons id r=>have⟨_,_,v,L,bs,e,m,j,C,I⟩:=RA.inv h;rw[m]at s;cases s;exact(I.blk b ((N1 j).1 d)).2.1
 |it a y B=>obtain⟨r,o,e,_,_,_,_,j⟩:=h;simp only[Bk,e,AJ]at d;subst d;exact j
def Z2.sub(d:Z2 P fr free σ w G)(a:∀k o,σ' k=some o->σ k=some o):Z2 P fr free σ' w G:=
 ⟨λk o h=>d.objs k o (a k o h),λi j o m b l e=>d.sep i j o m b (a i o l) (a j m e),d.after,λk hk=>by have⟨l,e⟩:=d.fresh k hk;refine⟨?_,e⟩;cases h:σ' k<;>grind⟩
def Z2.called(p:Z2 P fr free σ w G){ks:KX Nat}(K:W7 σ G ks bs)(x:Q5 (·∈bs) w G.im w' I'):
 PC w G w' {G with im:=I'}/\Z2 P fr free (EK σ (gone ks)) w' {G with im:=I'}:=by
 have z:PC w G w' {G with im:=I'}:=⟨x.ext,λ_ _ _ h=>h,λ_ _ h=>h,λ_ _ h=>h⟩;have e:∀j o,EK σ (gone ks) j=some o->j ∉ ks/\σ j=some o:=by
  intro j o h;rw[QA]at h;by_cases D:j∈ks
  .grind
  .grind
 refine⟨z,λj o h=>?_,λi j o s b L M B C=>?_,?_,λj D=>?_⟩
 .obtain⟨D,A⟩:=e j o h;refine(p.objs j o A).keep z λb y=>?_;have E:=LW (p.objs j o A) y;have H:b ∉ bs:=λl=>by have⟨k,hk,s,a,m⟩:=K b l;have:=p.sep j k o s b A a y m;grind
  refine⟨x.heap b E H,λJ d=>?_,λd=>?_⟩
  .rcases x.newC b J d with h|h|h<;>grind
  .rcases x.newO b d with h|h|h<;>grind
 .obtain⟨_,A⟩:=e i o L;have⟨_,a⟩:=e j s M;exact p.sep i j o s b A a B C
 .refine p.after.trans x λb l=>?_;have⟨k,hk,s,a,m⟩:=K b l;exact(TR (p.objs k s a) m).symm
 .have N:=p.fresh j D;grind[QA]
def Z2.back(m:Z2 P fr free σ w G){c:SV}(d:G.box k=some (b,t)){wr:X5}(H:V1 P fr w G k (.box t c wr))(E:∀j A,σ j=some A->¬Bk G j A b):
 Z2 P fr free (EK σ [(k,some (.box t c wr))]) w G:=by
 have z:∀{a},Bk G k (.box t c wr) a->b=a:=by intro a h;simpa[Bk,d]using h
 refine⟨λj o h=>?_,λi j C D a hi l p s=>?_,m.after,λj l=>?_⟩
 .rw[FU]at h;by_cases e:j=k
  .grind
  .rw[if_neg e]at h;exact m.objs j o h
 .rw[FU]at hi l;by_cases x:i=k<;>by_cases y:j=k
  .rw[x,y]
  .grind
  .grind
  .rw[if_neg x]at hi;rw[if_neg y]at l;exact m.sep i j C D a hi l p s
 .have B:=m.fresh j l;refine⟨?_,B.2⟩;rw[FU,if_neg (λe=>?_)]<;>grind
def Z2.backO(d:Z2 P fr free σ w G){o:Obj}(E:V1 P fr w G k o)(A:¬free k)(D:∀b,Bk G k o b->∀j l,σ j=some l->¬Bk G j l b):
 Z2 P fr free (EK σ [(k,some o)]) w G:=by
 refine⟨λj l h=>?_,λi j B C y hi a m p=>?_,d.after,λj a=>?_⟩
 .rw[FU]at h;by_cases e:j=k
  .grind
  .rw[if_neg e]at h;exact d.objs j l h
 .rw[FU]at hi a;by_cases s:i=k<;>by_cases x:j=k
  .rw[s,x]
  .grind
  .grind
  .rw[if_neg s]at hi;rw[if_neg x]at a;exact d.sep i j B C y hi a m p
 .have z:=d.fresh j a;refine⟨?_,z.2⟩;rw[FU,if_neg (λe=>?_)]<;>grind
def R6(G:Gh):KX Sh→KX SV→KX X2→Prop
 | .box c::ps,s::ss,v::vs=>(∃k u b,s=.ptr k [] u/\G.box k=some (b,c.ty)/\v=.pointer (some ⟨b,0,none⟩))/\R6 G ps ss vs
 | .R9 _ false::ps,s::ss,v::vs=>(∃k u b,s=.ptr k [] u/\G.box k=some (b,GT)/\v=.pointer (some ⟨b,0,none⟩))/\R6 G ps ss vs
 | .io _ t::ps,s::ss,v::vs=>((∃k,s=.obj k 0/\G.val k 0=some v/\G.ety k=some t)\/(s=.nilS/\v=.slice none 0 0))/\R6 G ps ss vs
 |_::ps,_::ss,_::vs=>R6 G ps ss vs
 |_,_,_=>True
theorem AHf:∀{ps:KX Sh} {ss:KX SV} {vals:KX X2} {r:Z5 (ps.filter EX)} {n:Nat} {bs:KX Nat} {free:Nat->Prop},Z2 P fr free σ w G->ss.length=ps.length->vals.length=ps.length->
 R6 G ps ss vals->R2 P w G.im (ps.filter EX) r (IF ps vals) bs->bs.Nodup->
 (∀b∈bs,fr.owned b/\∀j o,σ j=some o->¬Bk G j o b)->(∀k,n<=k->k<n+GH (ps.filter EX)->free k)->
 ∃G',Made P fr free σ w G n (n+GH (ps.filter EX)) (IS ps ss (FH (ps.filter EX) r n)) bs G':=by
 intro ps;induction ps with
 |nil=>
  intro ss vals r n bs free hm _ _ _ h _ _ _;obtain⟨_,rfl⟩:=h;have:IS [] ss (FH ([]:KX Sh) r n)=[]:=by cases ss<;>rfl
  refine⟨G,?_⟩;show Made P fr free σ w G n n (IS [] ss (FH ([]:KX Sh) r n)) [] G;grind[Made.none]
 |cons p ps ih=>
  intro ss vals r n bs free hm Y Z h5 h h9 R l;cases ss with
  |nil=>cases Y
  |cons s ss=>
   cases vals with
   |nil=>cases Z
   |cons v vals=>
    cases p with
    |box c=>
     obtain⟨⟨k,u,b,rfl,h6,rfl⟩,Q⟩:=h5
     have B:∃(x:c.T) (I:Z5 (ps.filter EX)) (J O:KX Nat),bs=J++O/\RF P w G.im (.box c) x [.pointer (some ⟨b,0,none⟩)] J/\R2 P w G.im (ps.filter EX) I (IF ps vals) O/\
      FH ((Sh.box c::ps).filter EX) r n=F6 (.box c) x n::FH (ps.filter EX) I (n+(c.R4+1)):=by
      have h:R2 P w G.im ([Sh.box c]++ps.filter EX) r ([.pointer (some ⟨b,0,none⟩)]++IF ps vals) bs:=h;obtain⟨J,O,z,V,M⟩:=h.split rfl;obtain⟨v',X,H⟩:=V;have X:Value.pointer (some ⟨b,0,none⟩)=v':=by injection X
      subst X;refine⟨_,_,J,O,z,H,M,?_⟩;exact fO (a:=[Sh.box c]) (b:=ps.filter EX) (x:=r) (n:=n)
     obtain⟨x,I,J,O,rfl,V,M,H⟩:=B;have E:=B2.1 h9;have T:GH ((Sh.box c::ps).filter EX)=c.R4+1+GH (ps.filter EX):=rfl;rw[T]at l ⊢;obtain⟨G1,C⟩:=ih (n:=n+(c.R4+1)) hm (by simpa using Y) (by simpa using Z) Q M E.2.1 (λb hb=>R b (BT _ hb)) (λk V M=>l k oa oa);obtain⟨L,cells,el,x0,z,rfl,q1,q2,q3,q4,q5,h7⟩:=V;have x2:L=b:=by injection z with z _;injection z with z;injection z with z;injection z with z _ _;exact z.symm
     subst x2;have W:=AY.1 E.1;have U:∀d∈L::x0,fr.owned d/\∀j o,EK σ (IS ps ss (FH (ps.filter EX) I (n+(c.R4+1)))) j=some o->¬Bk G1 j o d:=λd a=>
      ⟨(R d (BZ _ a)).1,λj o ho K=>by rcases C.own j o d ho K with h|⟨j',N,H,h4⟩<;>grind⟩
     obtain⟨G2,m2,r2,f2⟩:=LX (s:=c) (x:=x) (n:=n+1) C.mem (by rw[C.im];exact q3) W.2 (λd a=>U d (AP _ a)) (λk V M=>⟨l k oa oa,oa⟩);have x5:G2.im=G.im:=m2.im.trans C.im;have h8:=C.le.trans m2.le;have y:G2.box k=some (L,c.ty):=h8.box _ _ h6;have y0:∀j N,EK (EK σ (IS ps ss (FH (ps.filter EX) I (n+(c.R4+1))))) (F6 c x (n+1)).obs j=some N->¬Bk G2 j N L:=by
      intro j N ho K;rcases m2.own j N L ho K with h|⟨j',o2,H,h4⟩
      .exact W.1 h
      .grind
     have D:=m2.mem.back (wr:=true) (k:=k) (b:=L) (t:=c.ty) (c:=(F6 c x (n+1)).sv) y
      ⟨L,cells,el,y,q1,q2,f2,r2,⟨λ_ o=>oc,λh=>om⟩,oc,(U L AF).1,h7⟩ y0
     have m:IS (.box c::ps) (.ptr k [] u::ss) (FH ((Sh.box c::ps).filter EX) r n)=
      ([(k,some (.box c.ty (F6 c x (n+1)).sv true))]++(F6 c x (n+1)).obs)++IS ps ss (FH (ps.filter EX) I (n+(c.R4+1))):=by
      rw[H];rfl
     refine⟨G2,h8,x5,?_,?_⟩
     .rw[m,GZ,GZ];exact D.shrink λj A=>⟨⟨A.1,λe=>A.2 ⟨oa,oa⟩⟩,λe=>A.2 ⟨oa,oa⟩⟩
     .intro j o d A a;rw[m,GZ,GZ,FU]at A;by_cases e:j=k
      .rw[if_pos e]at A;cases A;subst e;simp only[Bk,y,BG,AJ]at a;grind
      .rw[if_neg e]at A;rcases m2.own j o d A a with h|⟨j',N,H,h4⟩
       .grind
       .rcases C.own j' N d H h4 with h|h<;>grind
    |io el t=>
     obtain⟨hs,Q⟩:=h5
     have B:∃(x:KX t.T) (I:Z5 (ps.filter EX)) (J O:KX Nat),bs=J++O/\RF P w G.im (.io el t) x [v] J/\R2 P w G.im (ps.filter EX) I (IF ps vals) O/\
      FH ((Sh.io el t::ps).filter EX) r n=F6 (.io el t) x n::FH (ps.filter EX) I (n+1):=by
      have h:R2 P w G.im ([Sh.io el t]++ps.filter EX) r ([v]++IF ps vals) bs:=h;obtain⟨J,O,z,V,M⟩:=h.split rfl;obtain⟨v',X,H⟩:=V;have X:v=v':=by injection X
      subst X;exact⟨_,_,J,O,z,H,M,fO (a:=[Sh.io el t]) (b:=ps.filter EX) (x:=r) (n:=n)⟩
     obtain⟨x,I,J,O,rfl,V,M,H⟩:=B;have E:=B2.1 h9;have T:GH ((Sh.io el t::ps).filter EX)=1+GH (ps.filter EX):=rfl;rw[T]at l ⊢;obtain⟨G1,C⟩:=ih (n:=n+1) hm (by simpa using Y) (by simpa using Z) Q M E.2.1 (λb hb=>R b (BT _ hb)) (λk V M=>l k oa oa);have U:∀d∈J,fr.owned d/\∀j o,EK σ (IS ps ss (FH (ps.filter EX) I (n+1))) j=some o->¬Bk G1 j o d:=λd a=>
      ⟨(R d (BZ _ a)).1,λj o ho K=>by rcases C.own j o d ho K with h|⟨j',N,H,h4⟩<;>grind⟩
     rcases hs with⟨k,rfl,y5,y2⟩|⟨rfl,rfl⟩
     .have y1:=C.le.val _ _ _ y5;have x4:=C.le.ety _ _ y2;have y4:RE fr w G1.im el t x true v/\∀d,Bk G1 k (.sl el t x 0 true) d->d∈J:=by
       rw[C.im];rcases V with⟨z,X,rfl⟩|⟨d,x1,cells,z,rfl,q1,q2,q3,q4,q5,q6,q7⟩
       .have z:v=.slice none 0 0:=by injection z
        subst z;exact⟨.inl ⟨rfl,X⟩,λd a=>by grind[Bk]⟩
       .have z:v=.slice (some ⟨d,0,none⟩) x.length x1:=by injection z
        subst z;refine⟨.inr ⟨d,x1,cells,rfl,q1,q2,q3,q4,(U d oh).1,q5,q6,q7⟩,λy9 a=>?_⟩;grind[Bk,Option.some.injEq]
      have D:=C.mem.backO (k:=k) (o:=.sl el t x 0 true) ⟨x4,v,y1,y4.1⟩ (λhf=>by have:=(hm.fresh k hf.1).2.1;grind) (λd a j N y7=>(U d (y4.2 d a)).2 j N y7);have m:IS (.io el t::ps) (.obj k 0::ss) (FH ((Sh.io el t::ps).filter EX) r n)=[(k,some (.sl el t x 0 true))]++IS ps ss (FH (ps.filter EX) I (n+1)):=by rw[H];rfl
      refine⟨G1,C.le,C.im,?_,?_⟩
      .rw[m,GZ];exact D.shrink λj A=>⟨A.1,λe=>A.2 ⟨oa,oa⟩⟩
      .intro j o d A a;rw[m,GZ,FU]at A;by_cases e:j=k
       .grind
       .rw[if_neg e]at A;rcases C.own j o d A a with h|h<;>grind
     .have m:IS (.io el t::ps) (.nilS::ss) (FH ((Sh.io el t::ps).filter EX) r n)=IS ps ss (FH (ps.filter EX) I (n+1)):=by rw[H];rfl
      refine⟨G1,C.le,C.im,?_,?_⟩
      .rw[m];exact C.mem.shrink λj A=>⟨A.1,λe=>A.2 ⟨oa,oa⟩⟩
      .intro j o d A a;rw[m]at A;rcases C.own j o d A a with h|h<;>grind
    |R9 el c0=>
     cases c0 with
     |true=>exact ih hm (by simpa using Y) (by simpa using Z) h5 h h9 R l
     |false=>
     obtain⟨⟨k,u,b,rfl,h6,rfl⟩,Q⟩:=h5
     have B:∃(x:KX Int) (I:Z5 (ps.filter EX)) (J O:KX Nat),bs=J++O/\RF P w G.im (.R9 el false) x [.pointer (some ⟨b,0,none⟩)] J/\R2 P w G.im (ps.filter EX) I (IF ps vals) O/\
      FH ((Sh.R9 el false::ps).filter EX) r n=F6 (.R9 el false) x n::FH (ps.filter EX) I (n+2):=by
      have h:R2 P w G.im ([Sh.R9 el false]++ps.filter EX) r ([.pointer (some ⟨b,0,none⟩)]++IF ps vals) bs:=h;obtain⟨J,O,z,V,M⟩:=h.split rfl;obtain⟨v',X,H⟩:=V;have X:Value.pointer (some ⟨b,0,none⟩)=v':=by injection X
      subst X;refine⟨_,_,J,O,z,H,M,?_⟩;exact fO (a:=[Sh.R9 el false]) (b:=ps.filter EX) (x:=r) (n:=n)
     obtain⟨x,I,J,O,rfl,V,M,H⟩:=B;have E:=B2.1 h9;have T:GH ((Sh.R9 el false::ps).filter EX)=2+GH (ps.filter EX):=rfl;rw[T]at l ⊢;obtain⟨G1,C⟩:=ih (n:=n+2) hm (by simpa using Y) (by simpa using Z) Q M E.2.1 (λb hb=>R b (BT _ hb)) (λk V M=>l k oa oa);obtain⟨L,cells,y6,p,q,x0,z,rfl,q1,h7,q2,hp,q4,q5,q6⟩:=V;have x2:L=b:=by injection z with z _;injection z with z;injection z with z;injection z with z _ _;exact z.symm
     subst x2;have W:=AY.1 E.1;have U:∀d∈L::x0,fr.owned d/\∀j o,EK σ (IS ps ss (FH (ps.filter EX) I (n+2))) j=some o->¬Bk G1 j o d:=λd a=>
      ⟨(R d (BZ _ a)).1,λj o ho K=>by rcases C.own j o d ho K with h|⟨j',N,H,h4⟩<;>grind⟩
     have y3:RF P w G1.im (.own el (.int .u8) true) x [q] x0:=by
      rw[C.im];rcases q6 with⟨rfl,k1,k2⟩|⟨g,x1,gc,rfl,k1,k2,k3,k4,k5,k6,k7⟩
      .exact .inl ⟨rfl,k1,k2⟩
      .exact .inr ⟨g,x1,gc,rfl,k1,k2,k3,k4,k5,(λ_=>k6),(λh=>om),k7⟩
     obtain ⟨G2,m2,r2,f2⟩:=fN (n:=n+1) C.mem y3 (λd a=>U d (AP _ a)) (λk V M=>by have M:k<n+1+1:=M;grind);have x3:(Sh.own el (.int .u8) true).R4=1:=rfl;rw[x3]at m2;have x5:G2.im=G.im:=m2.im.trans C.im;have h8:=C.le.trans m2.le;have y:G2.box k=some (L,GT):=h8.box _ _ h6;have y0:∀j N,EK (EK σ (IS ps ss (FH (ps.filter EX) I (n+2)))) (F6 (.own el (.int .u8) true) x (n+1)).obs j=some N->¬Bk G2 j N L:=by
      intro j N ho K;rcases m2.own j N L ho K with h|⟨j',o2,H,h4⟩
      .exact W.1 h
      .grind
     have y8:cells.size=2:=by rw[<-BD,q2];rfl
     have D:=m2.mem.back (wr:=true) (k:=k) (b:=L) (t:=GT) (c:=.pr (.slf k) (.obj (n+1) 0)) y
      ⟨L,cells,y6,y,q1,y8,⟨_,_,rfl,rfl,f2⟩,⟨[p],[q],q2,⟨L,GT,y,by rcases hp with rfl|rfl<;>simp⟩,r2⟩,⟨λ_ o=>oc,λh=>om⟩,oc,(U L AF).1,λ_=>h7⟩ y0
     have m:IS (.R9 el false::ps) (.ptr k [] u::ss) (FH ((Sh.R9 el false::ps).filter EX) r n)=
      ([(k,some (.box GT (.pr (.slf k) (.obj (n+1) 0)) true))]++(F6 (.own el (.int .u8) true) x (n+1)).obs)++IS ps ss (FH (ps.filter EX) I (n+2)):=by
      rw[H];rfl
     refine⟨G2,h8,x5,?_,?_⟩
     .rw[m,GZ,GZ];exact D.shrink λj A=>⟨⟨A.1,λe=>A.2 ⟨oa,oa⟩⟩,λe=>A.2 ⟨oa,oa⟩⟩
     .intro j o d A a;rw[m,GZ,GZ,FU]at A;by_cases e:j=k
      .rw[if_pos e]at A;cases A;subst e;simp only[Bk,y,BG,AJ]at a;grind
      .rw[if_neg e]at A;rcases m2.own j o d A a with h|⟨j',N,H,h4⟩
       .grind
       .rcases C.own j' N d H h4 with h|h<;>grind
    |_=>exact ih hm (by simpa using Y) (by simpa using Z) h5 h h9 R l
end
theorem DV.rel{w:X4}(e:Ext w I w I'):∀{ids:KX Nat} {x:(E5 ids t).T} {cs:KX X2} {bs:KX Nat},DV ow w I t ids x none cs bs->
 (∀b∈bs,∀s,I'.cell b s)->Rel w I' (E5 ids t) x cs:=by
 intro ids;induction ids with
 |nil=>intro x cs bs h _;exact Rel.ext e h.2
 |cons id r G=>
  intro x cs bs h z;obtain⟨v,rfl,L,d⟩:=h;rcases d with⟨d,_⟩|⟨_,rfl,a,_⟩|⟨d,b,o,l,cells,bss,rfl,H,J,M,N,O,Q,R,rfl,K⟩
  .cases d
  .have a:(show KX (E5 r t).T from x)=[]:=a;refine⟨none,0,by rw[a];rfl,by rw[a];exact⟨AD _,AT _⟩,λ_=>⟨a,rfl⟩,λB h=>om⟩
  .refine⟨some ⟨b,o,none⟩,l,rfl,H,(λh=>om),λB m=>?_⟩;cases m;refine⟨λ_=>rfl,λi y E=>?_⟩;have A:=G (K i y E) λC p=>z C (AP _ (ZB p));exact⟨_,⟨A.length,λj D=>⟨z b AF _,fC J j D⟩⟩,A⟩
theorem A3V:∀(a b:KX Sh),GH (a++b)=GH a+GH b:=by
 intro a b;induction a with
 |nil=>simp[GH]
 |cons s a d=>simp only[List.cons_append,GH,d];omega
section
variable{P:Program}{fr:Fr}{free free':Nat->Prop}{self:Nat}{σ σ':W4}{w w':X4}{G G':Gh}{I:Im}
theorem R6.mono:∀{l:KX Sh} {ss:KX SV} {vs:KX X2},R6 G l ss vs->(∀k b,G.box k=some b->G'.box k=some b)->(∀k g v,G.val k g=some v->G'.val k g=some v)->(∀k t,G.ety k=some t->G'.ety k=some t)->R6 G' l ss vs:=by
 intro l;induction l with
 |nil=>intro ss vs _ _ _ _;assumption
 |cons a l w=>
  intro ss vs h d j e;cases ss with
  |nil=>cases a<;>first|exact trivial|(rename_i x c0;cases c0<;>exact trivial)
  |cons s ss=>
   cases vs with
   |nil=>cases a<;>first|exact trivial|(rename_i x c0;cases c0<;>exact trivial)
   |cons v vs=>
    cases a with
    |box c=>obtain⟨⟨k,u,b,m,p,y⟩,z⟩:=h;exact⟨⟨k,u,b,m,d _ _ p,y⟩,w z d j e⟩
    |io el t=>obtain⟨m,p⟩:=h;refine⟨m.imp (λ⟨k,A,B,C⟩=>⟨k,A,j _ _ _ B,e _ _ C⟩) id,w p d j e⟩
    |R9 el c=>
     cases c with
     |true=>exact w h d j e
     |false=>obtain⟨⟨k,u,b,m,p,y⟩,z⟩:=h;exact⟨⟨k,u,b,m,d _ _ p,y⟩,w z d j e⟩
    |_=>exact w h d j e
def AHg(hm:Z2 P fr free σ w G):∀{l:KX Sh} {svs:KX SV} {x:Z5 l} {vs:KX X2},RW fs σ l svs=some x->
 (∀(j:Nat) (s:SV) (v:X2),svs[j]?=some s->vs[j]?=some v->SR P w G s v)->R6 G l svs vs:=by
 intro l;induction l with
 |nil=>intro svs x vs _ _;cases svs<;>exact trivial
 |cons a l ih=>
  intro svs x vs h hs;cases svs with
  |nil=>cases a<;>first|exact trivial|(rename_i el0 c0;cases c0<;>exact trivial)
  |cons s svs=>
   cases vs with
   |nil=>cases a<;>first|exact trivial|(rename_i el0 c0;cases c0<;>exact trivial)
   |cons v vs=>
    have h0:=hs 0 s v rfl rfl;have hrest:R6 G l svs vs:=by
     cases l with
     |nil=>cases svs<;>exact trivial
     |cons b l=>
      rw[fL]at h;split at h
      .rename_i x1 x2 h1 h2;exact ih h2 (λj s v h1 h2=>hs (j+1) s v (by simpa using h1) (by simpa using h2))
      .cases h
    have hfirst:∃y,VD fs σ a s=some y:=by
     cases l with
     |nil=>
      cases svs with
      |nil=>exact⟨x,h⟩
      |cons _ _=>cases h
     |cons b l=>grind[fL]
    cases a with
    |box c=>
     refine⟨?_,hrest⟩;obtain⟨y,hy⟩:=hfirst;have hy:VC σ c s=some y:=hy;unfold VC at hy;split at hy
     .rename_i k u;split at hy
      .rename_i t cv hk;cases hts:t.same c.ty with
       |false=>grind
       |true=>
        have et:=Ty.Z7 hts;subst et;have⟨b,cells,el,k1,k2,_⟩:=hm.objs _ _ hk;obtain⟨cc,hc,b',t',o,j1,j2,_,j4⟩:=h0;rw[k1]at j1;cases j1;have ho:o=0:=by have:Ty.off c.ty []=some o:=j2;cases hc:c.ty<;>rw[hc]at this<;>exact(A2 this).symm
        subst ho;have hv:[v]=[Value.pointer (some ⟨b,0,none⟩)]:=(show cc=[v]from hc).symm.trans j4;grind
      .cases hy
     .cases hy
    |io el t=>
     refine⟨?_,hrest⟩;obtain⟨y,hy⟩:=hfirst;replace hy:LR σ el t true s=some y:=hy;unfold LR at hy;split at hy
     .rename_i k g;split at hy
      .rename_i id' t' xs g' w1 hk;cases hb:(Nat.beq g 0&&Nat.beq g g'&&(Nat.beq el id'&&(bif true then w1 else !w1)))with
       |false=>grind
       |true=>
        rw[hb]at hy;have hy:Ty.cast? (.slice t') (.slice t) xs=some y:=hy;simp only[A7]at hb;have e0:=A5 hb.1.1;have e1:=A5 hb.1.2;subst e0 e1;obtain⟨et,_⟩:=Ty.cast?_some hy;have et':t'=t:=by injection et
        subst et';have⟨k1,v',k2,_⟩:=hm.objs _ _ hk;grind[P_]
      .cases hy
     .obtain⟨cc,hc,h1⟩:=h0;have h1:cc=[.slice none 0 0]:=h1;have hv:v=.slice none 0 0:=AB.1 ((show cc=[v]from hc).symm.trans h1);grind
     .cases hy
    |R9 el c=>
     cases c with
     |true=>exact hrest
     |false=>
     refine⟨?_,hrest⟩;obtain⟨y,hy⟩:=hfirst;replace hy:VB σ el s=some y:=hy;unfold VB at hy;split at hy
     .rename_i k u;split at hy
      .rename_i t cv hk;cases hts:t.same GT with
       |false=>grind
       |true=>have et:=Ty.Z7 hts;subst et;have⟨b,cells,el,k1,k2,_⟩:=hm.objs _ _ hk;obtain⟨cc,hc,b',t',o,j1,j2,_,j4⟩:=h0;rw[k1]at j1;cases j1;have ho:o=0:=(A2 j2).symm;subst ho;have hv:[v]=[Value.pointer (some ⟨b,0,none⟩)]:=(show cc=[v]from hc).symm.trans j4;grind
      .cases hy
     .cases hy
    |_=>exact hrest
def AHh{m:Mk}(h:MK vs rv)(a:vs.length=1)(d:∀(j:Nat) (b:Mk) (v:X2),[m][j]?=some b->vs[j]?=some v->SR P w G b.sv v):SR P w G m.sv rv:=by
 cases vs with
 |nil=>cases a
 |cons v vs=>have:vs=[]:=AK (by simpa using a);subst this;have h:rv=v:=h;rw[h];exact d 0 m v rfl rfl
def A3W{ms:KX Mk}(h:MK vs rv)(b:vs.length=ms.length)(d:ms.length≠1)(e:∀(j:Nat) (m:Mk) (v:X2),ms[j]?=some m->vs[j]?=some v->SR P w G m.sv v):
 SR P w G (.tup (SV.ofList (ms.map (·.sv)))) rv:=by
 have a:rv=.tuple vs.toArray:=by
  cases vs with
  |nil=>exact h
  |cons v vs=>
   cases vs with
   |nil=>grind
   |cons _ _=>exact h
 rw[a];refine⟨_,rfl,vs.toArray,rfl,?_⟩;grind[t_]
def A3X(ms:KX Mk):SV:=match ms with
 |[m]=>m.sv
 |_=>.tup (SV.ofList (ms.map (·.sv)))
theorem AHi{ms:KX Mk}(h:MK vs rv)(a:vs.length=ms.length)(b:∀(j:Nat) (d:Mk) (v:X2),ms[j]?=some d->vs[j]?=some v->SR P w G d.sv v):SR P w G (A3X ms) rv:=by
 cases ms with
 |nil=>exact A3W h a oh b
 |cons m ms=>
  cases ms with
  |nil=>exact AHh h a b
  |cons e ms=>exact A3W h a oh b
def KF(σ:W4)(G:Gh):Im:=
 ⟨λb o=>G.im.cell b o\/(∃ k t c,σ k=some (.box t c true)/\G.box k=some (b,t)/\o<t.sz)\/(∃ k id t xs g,σ k=some (.sl id t xs g true)/\Bk G k (.sl id t xs g true) b/\o<xs.length*t.sz)\/∃ k ids t x gk,σ k=some (.dp ids t x gk none true)/\Bk G k (.dp ids t x gk none true) b,
  λb=>G.im.obj b\/∃k a c es,σ k=some (.mp a c es true)/\Bk G k (.mp a c es true) b⟩
def LC(w:X4):Ext w G.im w (KF σ G):=⟨λ_ _ h=>⟨.inl h,rfl⟩,λ_ h=>⟨.inl h,rfl⟩⟩
theorem A3Y{o:Nat}(h:(KF σ G).cell b o):G.im.cell b o\/∃k e,σ k=some e/\Bk G k e b:=by
 rcases h with h|⟨k,t,c,a,d,_⟩|⟨k,id,t,m,g,a,d,_⟩|⟨k,j,t,x,l,a,d⟩
 .exact .inl h
 .grind[Bk]
 .grind
 grind
def A3Z(h:(KF σ G).obj b):G.im.obj b\/∃k d,σ k=some d/\Bk G k d b:=by rcases h with h|⟨k,a,c,e,j,l⟩<;>grind
def AHj(a:Z2 P fr free σ w G):I4 w (KF σ G):=by
 refine⟨λb o h=>?_,λb h=>?_,a.after.pins.ext (LC w)⟩
 .rcases A3Y h with h|⟨k,j,d,e⟩
  .exact a.after.mem.1 b o h
  .exact LW (a.objs _ _ d) e
 .rcases A3Z h with h|⟨k,j,d,e⟩
  .exact a.after.mem.2.1 b h
  .exact LW (a.objs _ _ d) e
theorem A3_(B:Z2 P fr free σ w G){g:Nat}{x:t.T}(h:YN σ k g t=some x)(A:G.val k g=some v):Rel w (KF σ G) t x [v]:=by
 unfold YN at h;split at h
 .rename_i id e D g' wr hk;split at h
  .rename_i s;have l:=A5 s;subst l;have⟨_,O,d,z⟩:=B.objs _ _ hk;rw[A]at d;cases d;cases wr with
   |false=>exact Rel.cast h ((VW z).ext (LC w))
   |true=>
    refine Rel.cast h ?_;rcases z with⟨rfl,rfl⟩|⟨b,E,cs,rfl,L,M,N,C,q5,q6,q7,q8⟩
    .exact⟨none,0,rfl,⟨AD _,AT _⟩,λ_=>⟨rfl,rfl⟩,λT h=>om⟩
    .refine⟨some ⟨b,0,none⟩,E,rfl,L,(λh=>om),λT H=>?_⟩;cases H;refine⟨λ_=>rfl,λi y K=>⟨_,⟨?_,λj Z=>?_⟩,(C i y K).ext (LC w)⟩⟩
     .exact(C i y K).length
     .have hi:i<D.length:=(A3.1 K).1;have I:i*e.sz+j<D.length*e.sz:=by have:(i+1)*e.sz<=D.length*e.sz:=AN _ hi;rw[C6]at this;omega
      refine⟨.inr (.inr (.inl ⟨k,id,e,D,g,hk,by simp[Bk,A],by simpa using I⟩)),?_⟩;rw[B0,if_pos Z,B5,<-M.cell];simp
  .cases h
 .rename_i a b V wr hk;split at h
  .rename_i s;have l:=A5 s;subst l;obtain⟨O,d,p,hp,U,Z6,m,rfl,L,M,N,C,_⟩:=B.objs _ _ hk;rw[A]at d;cases d;refine Rel.cast h ⟨p,hp,some U,rfl,(λh=>om),λb2 J=>?_⟩;cases J;refine⟨?_,Z6,m,L,M,λi x e R Q=>⟨(N i x e R Q).1.ext (LC w),(N i x e R Q).2.ext (LC w)⟩⟩;cases wr with
   |false=>exact .inl (C.2 rfl)
   |true=>exact .inr ⟨k,a,b,V,hk,by simp[Bk,A]⟩
  .cases h
 .rename_i id r e x' gk Y wr hk;split at h
  .rename_i s;simp only[A7]at s;have l:=A5 s.1;subst l;cases wr with
   |false=>have⟨O,d,z⟩:=B.objs _ _ hk;rw[A]at d;cases d;exact Rel.cast h (Rel.ext (LC w) z)
   |true=>
    cases Y with
    |some p=>cases s.2
    |none=>have⟨_,_,O,us,bs,d,z,W,h4,X⟩:=RA.inv (B.objs _ _ hk);rw[A]at d;cases d;exact Rel.cast h (X.rel (LC w) λb I h6=>Or.inr (Or.inr (Or.inr ⟨k,_,_,_,_,hk,rfl,us,z,(N1 W).2 I⟩)))
  .cases h
 .cases h
def AHk(a:Z2 P fr free σ w G){x:t.T}(h:s.rI σ t=some x)(b:CR P w G s cs):Rel w (KF σ G) t x cs:=by
 unfold SV.rI at h;split at h
 .obtain⟨v,d,_,rfl⟩:=b;exact A3_ a h d
 .exact(YY (λk o h=>a.objs k o h) h b).ext (LC w)
def A3a(m:Z2 P fr free σ w G):∀{t:Ty} {s:SV} {x:t.T} {cs:KX X2},s.asCR σ t=some x->CR P w G s cs->Rel w (KF σ G) t x cs:=by
 intro t;induction t with
 |prod a b j l=>
  intro s x cs h e;simp only[SV.asCR]at h;split at h
  .split at h
   .rename_i u v z A;cases h;obtain⟨c,d,rfl,C,D⟩:=e;exact⟨c,d,rfl,j z C,l A D⟩
   .cases h
  .exact(YY (λk o h=>m.objs k o h) h e).ext (LC w)
 |agg p B=>
  intro s x cs h e;cases s with
  |val u y=>exact Rel.ext (LC w) (show Rel w G.im p x cs from VX (p:=p) h e)
  |_=>exact B h e
 |_=>intro s x cs h e;exact AHk m h e
theorem A3b(p:Z2 P fr free σ w G){x:t.T}(h:eG σ t s=some x)(B:SR P w G s v):Z4 w (KF σ G) t x v:=by
 unfold eG at h;split at h
 .rename_i e k u;split at h
  .rename_i A c hk;cases L:A.same e.bare with
   |false=>grind
   |true=>
    rw[L]at h;simp only[A4]at h;have N:=Ty.Z7 L;cases l:c.asCR σ e with
    |none=>grind
    |some y=>
     rw[l]at h;cases h;have⟨b,cells,el,k1,Z,H,U,I,_⟩:=p.objs _ _ hk;obtain⟨cc,d,W,t2,o,M,R,_,T⟩:=B;rw[k1]at M;cases M;have Q:o=0:=by have:Ty.off A []=some o:=R;cases l:A<;>rw[l]at this<;>exact(A2 this).symm
     subst Q;have D:A.sz=e.sz:=by rw[N,Ty.PD]
     refine⟨cc,d,⟨b,0,none⟩,T,rfl,cells.toList,⟨by rw[BD,H,D],λj Y=>?_⟩,A3a p l I⟩;refine⟨.inr (.inl ⟨k,A,c,hk,k1,oc⟩),?_⟩;grind[World.cell?]
  .cases h
 .rename_i k g;obtain⟨c,l,V,H,U,I⟩:=B;have:[v]=[V]:=(show c=[v]from l).symm.trans I;have E:=AB.1 this;subst E;have z:=A3_ p h H;refine⟨[v],?_,z⟩;grind[YN,A2a,A2_,id,hk,E5]
 .rename_i u c;cases K:u.same t with
  |false=>grind
  |true=>rw[K]at h;have h:c.asCR σ t=some x:=h;have:=Ty.Z7 K;subst this;obtain⟨cc,d,m,C,⟨a,b,rfl,J⟩,X,O⟩:=B;have E:v=.agg m.toArray:=AB.1 ((show cc=[v]from d).symm.trans C);subst E;exact⟨m,rfl,A3a p h O⟩
 .obtain⟨c,C,J⟩:=KD (λk o h=>p.objs k o h) h B;exact⟨c,C,J.ext (LC w)⟩
def fP(I I1 I2:Im):Im:=⟨λb o=>I.cell b o\/(I2.cell b o/\¬I1.cell b o),λb=>I.obj b\/(I2.obj b/\¬I1.obj b)⟩
theorem Q5.lend{I1 I2:Im}(a:Q5 (·∈bs) w I1 w' I2)(l:Ext w I w I1)(j:I4 w I):Q5 (·∈bs) w I w' (fP I I1 I2):=
 have m:Ext w I w' (fP I I1 I2):=⟨λb o h=>⟨.inl h,(a.ext.cell b o (l.cell b o h).1).2⟩,λb h=>⟨.inl h,(a.ext.obj b (l.obj b h).1).2⟩⟩
 ⟨m,a.heap,a.size,λb o h=>h.imp id λ⟨d,e⟩=>(a.newC b o d).resolve_left e,λb h=>h.imp id λ⟨d,e⟩=>(a.newO b d).resolve_left e,
  λb o h=>h.elim (λh=>AQ (j.1 b o h) a.size) λh=>a.inC b o h.1,λb h=>h.elim (λh=>AQ (j.2.1 b h) a.size) λh=>a.inO b h.1,a.os,a.tape,a.output,
  j.2.2.ext m⟩
def A3c{x:t.T}(a:t.lit=true)(h:Rel w' I t x cs):Rel w' I' t x cs:=by
 cases t with
 |bool=>exact h
 |int k=>exact h
 |str=>exact h
 |_=>cases a
def AHl{z:KX Nat}{I1 I2:Im}(G:Q5 (·∈z) w I1 w' I2)(H:Ext w I w I1):∀{l:KX Sh} {x:Z5 l} {vs:KX X2} {bs:KX Nat},O2 l=true->R2 P w' I2 l x vs bs->R2 P w' (fP I I1 I2) l x vs bs:=by
 have s:∀{a:Sh} {x:a.T} {v:X2} {bs:KX Nat},O2 [a]=true->ShV P w' I2 a x v bs->ShV P w' (fP I I1 I2) a x v bs:=by
  intro a x v bs d h;cases a with
  |val t=>simp only[O2,DM]at d;obtain⟨⟨c,j,m⟩,p⟩:=h;exact⟨⟨c,j,A3c d m⟩,p⟩
  |own el t wr=>
   simp only[O2,DM,A7]at d;obtain⟨rfl,d⟩:=d;rcases h with h|⟨b,A,cells,j,m,p,B,C,L,M,Q,E⟩
   .exact .inl h
   .refine .inr ⟨b,A,cells,j,m,p,B,C,λi y N=>A3c d (L i y N),λ_ o e=>?_,(λh=>om),λe=>?_⟩
    .rcases e with e|e
     .exact M rfl o (G.ext.cell _ _ (H.cell _ _ e).1).1
     grind
    .rcases e with e|e
     .exact E (G.ext.obj _ (H.obj _ e).1).1
     .exact E e.1
  |_=>cases d
 intro l;induction l with
 |nil=>intro x vs bs _ h;exact h
 |cons a l O=>
  intro x vs bs d h;have j:O2 [a]=true/\O2 l=true:=by cases a<;>simp only[O2,A7,DM]at d ⊢<;>first|exact d|exact⟨⟨d.1,d.2.1⟩,d.2.2⟩|cases d
  cases l with
  |nil=>obtain⟨v,m,p⟩:=h;exact⟨v,m,s j.1 p⟩
  |cons b l=>obtain⟨v,D,J,K,m,p,B,C⟩:=h;exact⟨v,D,J,K,m,p,s j.1 B,O j.2 C⟩
def AHm(a:Z2 P fr free σ w G){x:t.T}(h:sS σ t s=some x)(b:SR P w G s v):Z4 w (KF σ G) t x v:=by
 unfold sS at h;split at h
 .grind[A3b]
 .exact(u7 (λk o h=>a.objs k o h) h b).ext (LC w)
def AHn(C:Z2 P fr free σ w G):∀{l:KX Sh} {ss:KX SV} {x:Z5 l} {vs:KX X2},eH σ l ss=some x->ss.length=vs.length->
 (∀(j:Nat) (s:SV) (v:X2),ss[j]?=some s->vs[j]?=some v->SR P w G s v)->∀w' I',Ext w (KF σ G) w' I'->R2 P w' I' l x vs []:=by
 intro l;induction l with
 |nil=>
  intro ss x vs h b _ w' I' _;cases ss with
  |nil=>exact⟨AK b.symm,rfl⟩
  |cons _ _=>cases h
 |cons a l D=>
  intro ss x vs h b e w' I' d;cases ss with
  |nil=>cases a<;>cases h
  |cons s ss=>
   cases vs with
   |nil=>cases b
   |cons v vs=>
    cases a<;>first|(cases h;done)|skip
    rename_i t;simp only[eH]at h;split at h
    .rename_i y z m p;have h:=A2 h;subst h;refine WA ⟨(AHm C m (e 0 s v rfl rfl)).ext d,rfl⟩ (D p (by simpa using b) (λj s v A B=>e (j+1) s v (by simpa using A) (by simpa using B)) w' I' d)
    .cases h
def AHo(H:Z2 P fr free σ w G){cs:KX SV}(E:cs.length=vs.length)(J:∀(j:Nat) (s:SV) (v:X2),cs[j]?=some s->vs[j]?=some v->SR P w G s v)
 {w':X4}(D:Ext w (KF σ G) w' I'):∀{n:Nat} {ps:KX Sh} {d:Ty} {x:d.T} {v:Z5 ps} {l:KX X2},YO σ cs n ps d x=some v->BF w' I' d x l->R2 P w' I' ps v (l++vs) []:=by
 intro n;induction n with
 |zero=>
  intro ps d x v l h B;cases ps with
  |nil=>cases h
  |cons a ps=>
   cases a<;>first|(cases h;done)|skip
   rename_i t;simp only[YO]at h;cases C:N0 d with
   |true=>grind
   |false=>
    rw[C]at h;simp only[A8]at h;split at h
    .rename_i y z m A;have h:=A2 h;subst h;obtain⟨u,rfl,K⟩:=B.one (λa b e=>by subst e;cases C);exact WA ⟨Z4.cast m K,rfl⟩ (AHn H A E J w' I' D)
    .cases h
 |succ n L=>
  intro ps d x v l h B;cases ps with
  |nil=>cases h
  |cons a ps=>
   cases a<;>first|(cases h;done)|skip
   rename_i t;cases d<;>first|(cases h;done)|skip
   rename_i p q;simp only[YO]at h;split at h
   .rename_i y z m A;have h:=A2 h;subst h;obtain⟨u,r,rfl,k1,M⟩:=B;exact WA ⟨Z4.cast m k1,rfl⟩ (L A M)
   .cases h
def AHp(R:Z2 P fr free σ w G)(M:∀f A,fs f=some A->FJ P f/\Z9 P f A){d c:Ty}{v:SV}{F:d.T->X1 c.T}(h:eI fs σ d c v=some F)(C:CR P w G v cs):
 ∃f vs,cs=[.func (.func f) #[] vs]/\HofD P (false=true) w (KF σ G) d c F f vs:=by
 unfold eI at h;split at h
 .rename_i f j;split at h
  .rename_i A Q;cases a:(PT j&&V9 A.ps)with
   |false=>grind
   |true=>rw[a]at h;have h:=A2 h;subst h;simp only[A7]at a;obtain⟨vs,L,D⟩:=C;have⟨O,p⟩:=M _ _ Q;have s:=A3P D a.1;refine⟨f,vs,L,O,λw' I' m B x l V y z=>?_⟩;have⟨v,U,z⟩:=B8.1 z;have⟨r,C,z⟩:=B8.1 z;have⟨a1,J⟩:=A3N a.2;have E:=p w' I' v (l++vs.toList) [] B (AHo R s (A3O D oa) m U V) AW r C;rw[show(l++vs.toList).toArray=(l.toArray++vs:Array X2) by simp]at E;refine Calls.mono E λe h3 T=>?_;obtain⟨rv,Z,I',K,W,q2,X,Y,H,_,_,qd⟩:=T;rw[J,CX]at H;exact⟨rv,I',W,Y.mono (λb N=>by cases N),A3M z H X,λhd=>by cases hd⟩
  .cases h
 .cases h
def A3d(L:Z2 P fr free σ w G){σ0:W4}(l:∀k o,σ0 k=some o->σ k=some o)(Y:∀f V,fs f=some V->FJ P f/\Z9 P f V){s:Sh}{sv:SV}{x:s.T}(h:eJ fs σ0 σ s sv=some x)(O:SR P w G sv v)
 (K:∀k∈RV σ s sv,σ0 k=none):∃bs,ShV P w (KF σ0 G) s x v bs/\bs.Nodup/\W7 σ G (RV σ s sv) bs:=by
 have j:W7 σ G (RV σ s sv) []:=λb z=>by cases z
 have A:=L.sub l;cases s with
 |val t=>exact⟨[],⟨A3b A h O,rfl⟩,AW,j⟩
 |own el t wr=>
  have h:LR σ el t wr sv=some x:=h;have m:CR P w G sv [v]:=O.cell λt y e=>by subst e;cases h
  have⟨bs,E,X,Q⟩:=W0 L h m;refine⟨bs,?_,X,Q⟩;have R:∀b∈bs,∀k p,σ0 k=some p->¬Bk G k p b:=by intro b z k p hk H;have⟨T,J,o',N,I⟩:=Q b z;have:=L.sep T k o' p b N (l _ _ hk) I H;subst this;rw[K T J]at hk;cases hk
  have B:∀b∈bs,∀o,(KF σ0 G).cell b o->G.im.cell b o:=by
   intro b z o a;rcases A3Y a with a|⟨k,p,k1,k2⟩
   .exact a
   .grind
  have M:∀b∈bs,(KF σ0 G).obj b->G.im.obj b:=by
   intro b z a;rcases A3Z a with a|⟨k,p,k1,k2⟩
   .exact a
   .grind
  rcases E with E|⟨b,D,cells,W,rfl,q1,q2,q3,q4,q5,U,q7⟩
  .exact .inl E
  .exact .inr ⟨b,D,cells,W,rfl,q1,q2,q3,λi y Z=>(q4 i y Z).ext (LC w),λC o a=>q5 C o (B b oh o a),λC o=>⟨λa=>.inl ((U C o).1 a),λa=>(U C o).2 (B b oh o a)⟩,λa=>q7 (M b oh a)⟩
 |hof nd d c=>
  cases nd with
  |true=>cases h
  |false=>
  have h:eI fs σ0 d c sv=some x:=h;have m:CR P w G sv [v]:=O.cell λt y e=>by subst e;cases h
  exact⟨[],⟨rfl,AHp A Y h m⟩,AW,j⟩
 |_=>cases h
theorem AHq{σ0:W4}{a b:Sh}{r:KX Sh}{v:SV}{vs:KX SV}:VM fs σ0 σ (a::b::r) (v::vs)=(match eJ fs σ0 σ a v,VM fs σ0 σ (b::r) vs with
 |some x,some y=>some (x,y)
 |_,_=>none):=rfl
theorem AHr(D:Z2 P fr free σ w G){σ0:W4}(m:∀k o,σ0 k=some o->σ k=some o)(J:∀f K,fs f=some K->FJ P f/\Z9 P f K):∀{l:KX Sh} {d:KX SV} {x:Z5 l} {vs:KX X2},VM fs σ0 σ l d=some x->d.length=vs.length->
 (∀(j:Nat) (s:SV) (v:X2),d[j]?=some s->vs[j]?=some v->SR P w G s v)->(GL σ l d).Nodup->(∀k∈GL σ l d,σ0 k=none)->
 d.length=l.length/\∃bs,R2 P w (KF σ0 G) l x vs bs/\bs.Nodup/\W7 σ G (GL σ l d) bs:=by
 intro l;induction l with
 |nil=>
  intro d x vs h z E _ _;cases d with
  |nil=>exact⟨rfl,[],⟨AK z.symm,rfl⟩,AW,λb M=>by cases M⟩
  |cons _ _=>cases h
 |cons a l N=>
  intro d x vs h z E p e;cases d with
  |nil=>cases l<;>cases h
  |cons s d=>
   cases vs with
   |nil=>cases z
   |cons v vs=>
    have h0:=E 0 s v rfl rfl;cases l with
    |nil=>
     cases d with
     |nil=>have:vs=[]:=AK oc;subst this;obtain⟨bs,A,B,C⟩:=A3d D m J h h0 (λk hk=>e k (by simpa[GL]using hk));exact⟨rfl,bs,⟨v,rfl,A⟩,B,by simpa[GL]using C⟩
     |cons _ _=>cases h
    |cons b l=>
     rw[AHq]at h;split at h
     .rename_i Z x2 A B;cases h;have hk:GL σ (a::b::l) (s::d)=RV σ a s++GL σ (b::l) d:=rfl;rw[hk]at p e ⊢;have y:=B2.1 p;obtain⟨H,O,Q,R⟩:=A3d D m J A h0 (λk hk=>e k (BZ _ hk));obtain⟨T,I,U,V,W⟩:=N B (by simpa using z) (λj s v C L=>E (j+1) s v (by simpa using C) (by simpa using L)) y.2.1 (λk hk=>e k (BT _ hk));obtain⟨X,Y⟩:=R.append D W Q V p;exact⟨by simp[T],H++I,⟨v,vs,H,I,rfl,rfl,O,U⟩,X,Y⟩
     .cases h
def AHs:∀{l:KX Sh},YP l=true->l.filter EX=[]/\(∀vs,IF l vs=[])/\∀b vs,R6 G l b vs:=by
 intro l;induction l with
 |nil=>intro _;exact⟨rfl,λvs=>by cases vs<;>rfl,λb vs=>by cases b<;>exact trivial⟩
 |cons a l m=>
  intro h;simp only[YP,A7,BM]at h;have⟨p,d,j⟩:=m h.2;refine⟨oc,λvs=>?_,λb vs=>?_⟩
  .cases vs with
   |nil=>cases a<;>first|rfl|(rename_i e c0;cases c0<;>rfl)
   |cons v vs=>cases a<;>first|exact d vs|(cases h.1;done)|(rename_i e c0;cases c0<;>first|exact d vs|(cases h.1;done))
  .cases b with
   |nil=>cases a<;>first|exact trivial|(rename_i e c0;cases c0<;>exact trivial)
   |cons s b=>
    cases vs with
    |nil=>cases a<;>first|exact trivial|(rename_i e c0;cases c0<;>exact trivial)
    |cons v vs=>cases a<;>first|exact j b vs|(cases h.1;done)|(rename_i e c0;cases c0<;>first|exact j b vs|(cases h.1;done))
def R2.nil_any{l:KX Sh}(a:l=[]){x:Z5 l}(h:R2 P w' I l x vs bs):R2 P w' I' l x vs bs:=by subst a;exact h
def AHt:∀{l:KX Nat},LT l=true->l.Nodup:=by
 intro l;induction l with
 |nil=>simp
 |cons k r a=>intro h;simp only[LT,A7,BM]at h;grind[List.nodup_cons,F4,OU]
theorem A3e(E:Z2 P fr free σ w G)(Y:∀k o,σ' k=some o->σ k=some o)(d:∀k,self<=k->k<self+8->free k){s:Q2}(h6:args.length=vals.length)(R:args.length=s.ps.length)
 (U:R6 G s.ps args vals)(p3:W7 σ' G (GL σ' s.ps args) bs)(h5:GH s.rs+GH (s.ps.filter EX)<=8){y:Z5 (s.rs++s.ps.filter EX)}{b1 b2:KX Nat}
 (h8:vs.length=s.rs.length)(h7:MK vs rv)(H:Q5 (·∈bs) w G.im w' I')(r1:R2 P w' I' s.rs (OV s.rs (s.ps.filter EX) y).1 vs b1)(r2:R2 P w' I' (s.ps.filter EX) (OV s.rs (s.ps.filter EX) y).2 (IF s.ps vals) b2)
 (K:(b1++b2).Nodup)(x:∀b∈b1++b2,b∈bs\/w.heap.size<=b):RD P fr free self σ w G (sT σ' self s args y) rv w':=by
 have D:W7 σ G (GL σ' s.ps args) bs:=λb l=>let ⟨k,N,o,Q,h3⟩:=p3 b l;⟨k,N,o,Y k o Q,h3⟩
 have⟨g1,g2⟩:=E.called D H;have p:=B2.1 K;have J:∀b∈b1++b2,fr.owned b/\∀j o,EK σ (gone (GL σ' s.ps args)) j=some o->¬Bk {G with im:=I'} j o b:=by
  intro b l;refine⟨?_,λj o M V=>?_⟩
  .rcases x b l with h|h
   .obtain⟨k,_,o,M,z⟩:=D b h;exact TR (E.objs k o M) z
   .exact .inl (AM E.after.size h)
  .have B:j ∉ GL σ' s.ps args/\σ j=some o:=by
    rw[QA]at M;by_cases W:j∈GL σ' s.ps args
    .grind
    .grind
   have m:Bk G j o b:=by rw[<-H8 (E.objs j o B.2) g1];exact V
   rcases x b l with h|h
   .obtain⟨k,hk,o2,X,z⟩:=D b h;have:=E.sep j k o o2 b B.2 X m z;grind
   .have:=LW (E.objs j o B.2) m;omega
 obtain ⟨G2,O⟩:=AHf (ps:=s.ps) (ss:=args) (vals:=vals) (n:=self+GH s.rs) g2 R oa (by exact U.mono (λk b h=>h) (λk g v h=>h) (λk t h=>h)) r2 p.2.1 (λb l=>J b (BT _ l)) (λk N Q=>d k oa oa);obtain ⟨G3,m3,e1,Z,e3⟩:=uA (l:=s.rs) (n:=self) O.mem (by rw [O.im]; exact r1) p.1 (λb l=>⟨(J b (BZ _ l)).1,λj o M T=>by rcases O.own j o b M T with h|⟨j',o',h3,h4⟩<;>grind⟩) (λk N Q=>⟨d k N oa,oa⟩)
 have a:=fO (a:=s.rs) (b:=s.ps.filter EX) (x:=y) (n:=self);have C:(FH (s.rs++s.ps.filter EX) y self).take s.rs.length=FH s.rs (OV s.rs (s.ps.filter EX) y).1 self:=by rw[a,List.take_left' Z]
 have A:(FH (s.rs++s.ps.filter EX) y self).drop s.rs.length=FH (s.ps.filter EX) (OV s.rs (s.ps.filter EX) y).2 (self+GH s.rs):=by rw[a,List.drop_left' Z]
 refine⟨G3,(g1.trans O.le).trans m3.le,?_,?_⟩
 .show Z2 P fr _ (EK σ ((((FH (s.rs++s.ps.filter EX) y self).take s.rs.length).flatMap (·.obs))++(IS s.ps args ((FH (s.rs++s.ps.filter EX) y self).drop s.rs.length)++gone (GL σ' s.ps args)))) w' G3;rw[C,A,GZ,GZ];refine m3.mem.shrink λj W=>?_;have L:¬(self<=j/\j<self+8):=λh=>by have:=W.2;grind[K0,Bool.and_eq_false_iff,Nat.ble_eq_true_of_le,Nat.blt]
  exact⟨⟨W.1,λe=>L ⟨oa,oa⟩⟩,λe=>L ⟨oa,oa⟩⟩
 .show SR P w' G3 (A3X ((FH (s.rs++s.ps.filter EX) y self).take s.rs.length)) rv;grind[AHi]
def AHu(hE:∀f d,fs f=some d->FJ P f/\Z9 P f d)(hD:fr.dr=true->∀f d,fs f=some d->d.dr=true)(Y:Z2 P fr free σ w G)(V:∀k o,σ' k=some o->σ k=some o)(R:∀k,self<=k->k<self+8->free k)
 {f:Nat}(A:args.length=vals.length)(hs:∀(j:Nat) (s:SV) (v:X2),args[j]?=some s->vals[j]?=some v->SR P w G s v)
 (L:sU fs σ' self f args=some r)(hu:Q4 r u):
 FJ P f/\Calls P f vals.toArray w λe w'=>∃v,e=.returned v/\RD P fr free self σ w G u v w'/\(fr.dr=true->w.drawn<=w'.drawn):=by
 unfold sU at L;split at L
 .rename_i d U;have⟨E,H⟩:=hE _ _ U
  .split at L
   .rename_i v h4;have h2:Nat.ble (GH (d.rs++d.ps.filter EX)) 8=true/\RX fs σ' d.ps args=some v:=by
     cases W:Nat.ble (GH (d.rs++d.ps.filter EX)) 8 with
     |false=>grind
     |true=>grind
    obtain⟨W,N⟩:=h2;have p:=CN W;rw[A3V]at p;cases L;obtain⟨y,hy,rfl⟩:=hu.Q1;have B:=Y.sub V;have⟨bs,p1,p2,p3⟩:=fM B hE N A hs;have Z:RW fs σ' d.ps args=some v:=by
     unfold RX at N;cases hd:LT (GL σ' d.ps args)with
     |false=>grind
     |true=>grind
    have h3:=AHg B Z hs;have T:∀{l:KX Sh} {m:KX SV} {x:Z5 l},RW fs σ' l m=some x->m.length=l.length:=by
     intro l;induction l with
     |nil=>intro m x h;cases m with
      |nil=>rfl
      |cons _ _=>cases h
     |cons a l ih=>
      intro m x h;cases m with
      |nil=>cases l<;>cases h
      |cons s m=>
       cases l with
       |nil=>cases m with
        |nil=>rfl
        |cons _ _=>cases h
       |cons b l=>grind[fL]
    have X:=T Z;refine⟨E,Calls.mono (H w G.im v vals bs Y.after.mem p1 p2 y hy) λe w' hq=>?_⟩;obtain⟨rv,vs,I',h1,rfl,D,M,z,C,J,K,qd⟩:=hq;refine⟨rv,rfl,?_,λh=>qd (hD h _ _ U)⟩;obtain⟨b1,b2,rfl,r1,r2⟩:=C.split D;grind[A3e]
   .split at L
    .rename_i v N;cases L;obtain⟨y,hy,rfl⟩:=hu.Q1;unfold A2S at N;cases W:(O2 d.rs&&(YP d.ps&&(Nat.ble (GH (d.rs++d.ps.filter EX)) 8&&LT (GL σ' d.ps args))))with
     |false=>grind
     |true=>
      rw[W]at N;have N:VM fs (EK σ' (gone (GL σ' d.ps args))) σ' d.ps args=some v:=N;have O:∀k o,EK σ' (gone (GL σ' d.ps args)) k=some o->σ' k=some o/\k ∉ GL σ' d.ps args:=by
       intro k o hk;rw[QA]at hk;by_cases e:k∈GL σ' d.ps args
       .grind
       .grind
      simp only[A7]at W;obtain⟨c1,c2,c3,c4⟩:=W;have p:=CN c3;rw[A3V]at p;have B:=Y.sub V;have⟨X,bs,p1,p2,p3⟩:=AHr B (λk o h=>(O k o h).1) hE N A hs (AHt c4) (λk hk=>by rw[QA,if_pos hk]);have⟨n1,n2,n3⟩:=AHs (G:=G) c2;refine⟨E,Calls.mono (H w (KF (EK σ' (gone (GL σ' d.ps args))) G) v vals bs (AHj (B.sub λk o h=>(O k o h).1)) p1 p2 y hy) λe w' hq=>?_⟩;obtain⟨rv,vs,I',h1,rfl,D,M,z,C,J,K,qd⟩:=hq;refine⟨rv,rfl,?_,λh=>qd (hD h _ _ U)⟩;have Q:=z.lend (LC w) Y.after.mem;obtain⟨b1,b2,rfl,r1,r2⟩:=C.split D;exact A3e Y V R A X (n3 _ _) p3 p D M Q (AHl z (LC w) c1 r1) (r2.nil_any n1) J K
    .cases L
 .cases L
def uB{d:Operand}(s:o.op=.call ⟨.value d,as,ts⟩){f:Nat}{b:Array X2}(p:a.eval d=.func (.func f) #[] b)(m:FJ P f):
 (execOp a.eval o).run P w=.ok (.enter f (as.map a.eval++b)) w:=by
 obtain⟨fn,c,e,j,l⟩:=m;have h:fn.name≠"runtime.NumGoroutine" :=by simpa using j
 have:(callFunc f (as.map a.eval++b)).run P w=.ok (.enter f (as.map a.eval++b)) w:=by simp[callFunc,e,h,l]
 grind[execOp,resolve,Deferred.ofValue,invoke]
def AHv:∀{l:SV} {vs:KX X2},CR P w G l vs->l.list.length<=vs.length->∀(j:Nat) (s:SV) (v:X2),l.list[j]?=some s->vs[j]?=some v->SR P w G s v:=by
 intro l;induction l with
 |scons a b A B=>
  intro vs h y j s v d z;obtain⟨C,r,rfl,⟨c,p,x⟩,D⟩:=h;cases j with
  |zero=>
   have e:a=s:=by simpa[SV.list]using d
   have m:C=v:=by simpa using z
   subst e m;exact⟨c,p,x⟩
  |succ j=>grind[SV.list]
 |_=>intro vs h y j s v d;simp[SV.list]at d
def AHw:∀{l:SV} {vs:KX X2},CR P w G l vs->PT l=true->l.list.length=vs.length:=by
 intro l;induction l with
 |snil=>intro vs h _;have h:vs=[]:=h;rw[h];rfl
 |scons a b j d=>intro vs h hk;obtain⟨m,r,rfl,_,e⟩:=h;simp[SV.list,d e hk]
 |_=>intro vs h hk;cases hk
def A3f{σ:W4}(D:∀k o,σ k=some o->V1 P fr w G k o):∀{d:Ty} {l:KX SV} {x:d.T} {vs:KX X2},YQ σ d l=some x->l.length=vs.length->
 (∀(j:Nat) (s:SV) (v:X2),l[j]?=some s->vs[j]?=some v->SR P w G s v)->BF w G.im d x vs:=by
 have C:∀{d:Ty} {l:KX SV} {x:d.T} {vs:KX X2},(match l with|[s]=>s.asV σ d|_=>none)=some x->l.length=vs.length->
  (∀(j:Nat) (s:SV) (v:X2),l[j]?=some s->vs[j]?=some v->SR P w G s v)->∃v,vs=[v]/\Z4 w G.im d x v:=by
  intro d l x vs h e m;rcases l with _|⟨s,_|⟨_,_⟩⟩<;>first|(cases h;done)|skip
  rcases vs with _|⟨v,_|⟨_,_⟩⟩<;>first|(cases e;done)|skip
  exact⟨v,rfl,KD D h (m 0 s v rfl rfl)⟩
 intro d;induction d with
 |prod a b E B=>
  intro l x vs h e m;cases l with
  |nil=>cases h
  |cons s r=>
   cases vs with
   |nil=>cases e
   |cons v vs=>
    simp only[YQ]at h;split at h
    .rename_i y z p A;cases h;exact⟨v,vs,rfl,KD D p (m 0 s v rfl rfl),B A (by simpa using e) λj s v p A=>m (j+1) s v (by simpa using p) (by simpa using A)⟩
    .cases h
 |_=>intro l x vs h e m;refine C ?_ e m;rcases l with _|⟨s,_|⟨_,_⟩⟩<;>exact h
def AHx:∀{c:Ty} {y:c.T} {vs:KX X2},BF w G.im c y vs->CR P w G (rU c y) vs:=by
 intro c;induction c with
 |prod a b m j=>intro y vs h;obtain⟨v,r,rfl,⟨cs,d,e⟩,l⟩:=h;exact⟨v,r,rfl,⟨cs,d,e⟩,j l⟩
 |_=>intro y vs h;obtain⟨v,rfl,cs,d,e⟩:=h;exact⟨v,[],rfl,⟨cs,d,e⟩,rfl⟩
def uC{c:Ty}{y:c.T}(h:RetV w G.im c y rv):SR P w G (dJ c y) rv:=by
 cases c<;>first|exact h|skip
 obtain⟨vs,rfl,h⟩:=h;exact⟨_,rfl,vs,rfl,AHx h⟩
theorem AHy(h3:CB.P=P)(hE:∀f sp,fs f=some sp->FJ P f/\Z9 P f sp)(hD:fr.dr=true->∀f sp,fs f=some sp->sp.dr=true){dr:X5}(X:fr.dr=true->dr=true)(Q:Z2 P fr free σ w G)(U:∀k o,σ' k=some o->σ k=some o)(N:∀k,self<=k->k<self+8->free k)
 {H:Operand}(ho:o.op=.call ⟨.value H,as,ts⟩){sf:SV}(T:SR P w G sf (a.eval H))
 (p:args.length=as.toList.length)(hs:∀(j:Nat) (s:SV) (x:Operand),args[j]?=some s->as.toList[j]?=some x->SR P w G s (a.eval x))(m:sV dr fs σ' self sf args=some r)(hu:Q4 r u):
 Q6 P fr.dr o a w (RD P fr free self σ w G u):=by
 unfold sV at m;split at m
 .rename_i f E;cases hk:PT E with
  |false=>rw[hk]at m;cases m
  |true=>
   rw[hk]at m;obtain⟨cc,D,vs,K,L⟩:=T;have Y:a.eval H=.func (.func f) #[] vs:=AB.1 ((show cc=[a.eval H]from D).symm.trans K);have h4:=AHw L hk;have W:∀(j:Nat) (s:SV) (v:X2),(args++E.list)[j]?=some s->(as.toList.map a.eval++vs.toList)[j]?=some v->SR P w G s v:=by
    intro j s v J l;by_cases O:j<args.length
    .rw[BC O]at J;rw[BC (by rw[AZ,<-p];exact O),AS]at l;cases B:as.toList[j]? with
     |none=>rw[B]at l;cases l
     |some x=>rw[B]at l;cases l;exact hs j s x J B
    .have Z:args.length<=j:=D6 O;rw[BI Z]at J;rw[BI (by rw[AZ,<-p];exact Z),AZ,<-p]at l;exact AHv L oa _ s v J l
   obtain⟨V,C⟩:FJ P f/\Calls P f (as.toList.map a.eval++vs.toList).toArray w λe w'=>∃v,e=.returned v/\RD P fr free self σ w G u v w'/\(fr.dr=true->w.drawn<=w'.drawn):=by simp only[A4]at m;exact AHu hE hD Q U N (vals:=as.toList.map a.eval++vs.toList) (by simp[p,h4]) W m hu
   refine Q6.enter (uB ho Y V) ?_;have e:(as.toList.map a.eval++vs.toList).toArray=as.map a.eval++vs:=by apply C9;simp
   rw[e]at C;exact C
 .rename_i nd d c F;cases A:(!dr||nd)with
  |false=>rw[A]at m;cases m
  |true=>
  rw[A]at m;simp only[A4]at m;split at m
  .rename_i x B;cases m;obtain⟨y,hy,rfl⟩:=hu.Q1;obtain⟨cc,D,f,vs,K,V,L⟩:=T;have Y:a.eval H=.func (.func f) #[] vs:=AB.1 ((show cc=[a.eval H]from D).symm.trans K);have l:=A3f (λk o h=>Q.objs k o (U k o h)) B (vs:=as.toList.map a.eval) (by simp [p]) (λj s v J l=>by
    rw[AS]at l;cases B:as.toList[j]? with
    |none=>rw[B]at l;cases l
    |some x=>rw[B]at l;cases l;exact hs j s x J B)
   refine Q6.enter (uB ho Y V) ?_;have z:as.map a.eval++vs=(as.toList.map a.eval).toArray++vs:=by apply C9;simp
   rw[z];refine Calls.mono (L w G.im (Ext.refl _ _) Q.after.mem x _ l y hy) λe w' hq=>?_;obtain⟨rv,I',rfl,ha,R,qd⟩:=hq;have⟨g1,g2⟩:=Q.called (ks:=[]) (bs:=[]) (λb M=>by cases M) (ha.mono λb M=>absurd M id);exact⟨rv,rfl,⟨_,g1,g2.shrink λ_ h=>h.1,uC R⟩,λh=>qd (by have:=X h;subst this;simpa using A)⟩
  .cases m
 .rename_i d c q;cases A:(!dr)with
  |false=>rw[A]at m;cases m
  |true=>
  rw[A]at m;simp only[A4]at m;split at m
  .rename_i x B;cases m;obtain⟨y,hy,rfl⟩:=hu.Q1;have⟨F,hF,hy⟩:=B8.1 hy;have hF:q=some F:=hF;subst hF;obtain⟨cc,D,K⟩:=T;have⟨f,vs,K,V,L⟩:=A2X K;rw[h3]at V L;have Y:a.eval H=.func (.func f) #[] vs:=AB.1 ((show cc=[a.eval H]from D).symm.trans K);have l:=A3f (λk o h=>Q.objs k o (U k o h)) B (vs:=as.toList.map a.eval) (by simp [p]) (λj s v J l=>by
    rw[AS]at l;cases B:as.toList[j]? with
    |none=>rw[B]at l;cases l
    |some x=>rw[B]at l;cases l;exact hs j s x J B)
   refine Q6.enter (uB ho Y V) ?_;have z:as.map a.eval++vs=(as.toList.map a.eval).toArray++vs:=by apply C9;simp
   rw[z];refine Calls.mono (L w G.im (Ext.refl _ _) Q.after.mem x _ l y hy) λe w' hq=>?_;obtain⟨rv,I',rfl,ha,R,_⟩:=hq;have⟨g1,g2⟩:=Q.called (ks:=[]) (bs:=[]) (λb M=>by cases M) (ha.mono λb M=>absurd M id);exact⟨rv,rfl,⟨_,g1,g2.shrink λ_ h=>h.1,uC R⟩,λh=>by have:=X h;subst this;cases A⟩
  .cases m
 .cases m
theorem AHz{r:Operand}(y:o.op=.call ⟨.invoke r m,as,ts⟩)(b:as.toList=[])(z:a.eval r=.iface id v)
 {f:Nat}(x:(method (P.types.size+Made.depth) id v m).run P w=.ok (f,v) w)(p:FJ P f):(execOp a.eval o).run P w=.ok (.enter f #[v]) w:=by
 obtain⟨fn,c,e,j,l⟩:=p;have h:fn.name≠"runtime.NumGoroutine" :=by simpa using j
 have s:(callFunc f #[v]).run P w=.ok (.enter f #[v]) w:=by simp[callFunc,e,h,l]
 have d:as= #[]:=by apply C9;simpa using b
 simp_all[callMethod,Sem.run_bind,run_program,Result.andThen_ok,execOp,resolve,invoke]
theorem AI0(O:∀f s,fs f=some s->FJ P f/\Z9 P f s){D:Prop}(N:D->∀f s,fs f=some s->s.dr=true){mt:Nat->X1 Nat}
 (Q:∀id f,mt id=some f->∀(v:X2) (w:X4),(method (P.types.size+Made.depth) id v m).run P w=.ok (f,v) w){c:Ty}(W:I4 w G.im):
 ∀{u:Ty} {F:u.T->X1 c.T} {x:u.T} {y:c.T} {v:X2},eK fs mt c u=some F->F x=some y->Rel w G.im u x [v]->
 ∃id d f,v=.iface id d/\(method (P.types.size+Made.depth) id d m).run P w=.ok (f,d) w/\FJ P f/\
  Calls P f #[d] w λe w'=>∃rv I',e=.returned rv/\Q5 VU w G.im w' I'/\RetV w' I' c y rv/\(D->w.drawn<=w'.drawn):=by
 intro u;induction u with
 |inil=>intro F x y v h A _;cases h;cases A
 |ialt id t r _ B=>
  intro F x y v h A C;unfold eK at h;split at h
  .rename_i f U;cases p:N0 t with
   |true=>grind
   |false=>
   rw[p]at h;simp only[A8]at h;split at h
   .rename_i F1 F2 L M;cases h;cases x with
    |inl z=>
     obtain⟨d,cs,E,H,J⟩:=C;have V:=fK (P:=P) (w:=w) (G:=G) (fr:=⟨VU,w,G.im,λ_=>none,false⟩) (σ:=λ_=>none) (D:=D) (λk o h=>om) O (λh=>.inr ⟨N h,λ_ _ _ _ T=>by cases T⟩) L (cs:=[.func (.func f) #[] #[]]) ⟨#[],rfl,rfl⟩;obtain⟨Y,X,K,l,j⟩:=V;cases K;have R:BF w G.im t z [d]:=by
      have:∃v,[d]=[v]/\Z4 w G.im t z v:=⟨d,rfl,cs,H,J⟩;cases t with
      |prod a b=>cases p
      |_=>exact this
     have:=j w G.im (Ext.refl _ _) W z [d] R y A;exact⟨id,d,f,AB.1 E,Q id f U d w,l,this⟩
    |inr z=>exact B M A C.2
   .cases h
  .cases h
 |_=>intro F x y v h;cases h
theorem AI1(Q:∀f p,fs f=some p->FJ P f/\Z9 P f p)(O:fr.dr=true->∀f p,fs f=some p->p.dr=true){mt:String->Nat->X1 Nat}
 (R:∀m id f,mt m id=some f->∀(v:X2) (w:X4),(method (P.types.size+Made.depth) id v m).run P w=.ok (f,v) w)(K:Z2 P fr free σ w G)
 {E:Operand}(U:o.op=.call ⟨.invoke E m,as,ts⟩)(z:as.toList=[])(W:SR P w G s (a.eval E)){c:Ty}
 (j:sW fs mt c m s=some r)(X:Q4 r u):Q6 P fr.dr o a w (RD P fr free self σ w G u):=by
 unfold sW at j;split at j
 .rename_i ut x;split at j
  .rename_i F J;cases j;obtain⟨y,Z,rfl⟩:=X.Q1;obtain⟨cs,H,N⟩:=W;have B:cs=[a.eval E]:=by
    cases ut with
    |ialt _ _ _=>exact H
    |inil=>exact H
    |_=>cases J
   subst B;have⟨h3,v',f,Y,C,l,d⟩:=AI0 Q O (R m) K.after.mem J Z N;refine Q6.enter (AHz U z Y C l) ?_;refine Calls.mono d λe w' V=>?_;obtain⟨rv,I',rfl,T,D,qd⟩:=V;have⟨L,M⟩:=K.called (ks:=[]) (bs:=[]) (λb A=>by cases A) (T.mono λb A=>absurd A id);exact⟨rv,rfl,⟨_,L,M.shrink λ_ h=>h.1,uC D⟩,qd⟩
  .cases j
 .cases j
theorem Q6.calm(j:Z2 P fr free σ w G)(h:u.wr=[]/\∃z,(execOp a.eval o).run P w=.ok (.value z) w/\SR P w G u.sv z):Q6 P fr.dr o a w (RD P fr free self σ w G u):=by obtain⟨b,z,d,e⟩:=h;obtain⟨sv,wr⟩:=u;have b:wr=[]:=b;subst b;exact Q6.value d (RD.same j e)
def Q6.makes(h:∃z w',(execOp a.eval o).run P w=.ok (.value z) w'/\RD P fr free self σ w G u z w'):Q6 P fr.dr o a w (RD P fr free self σ w G u):=by obtain⟨z,w',b,d⟩:=h;exact Q6.value b d
def Q6.writes(h:∃w',(execOp a.eval o).run P w=.ok .skip w'/\RD P fr free self σ w G u undef w'):Q6 P fr.dr o a w (RD P fr free self σ w G u):=by obtain⟨w',b,d⟩:=h;exact Q6.skip b d
end
open Go.MapKept
section
variable{P:Program}{fr:Fr}{free free':Nat->Prop}{self:Nat}{σ σ':W4}{w w':X4}{G G':Gh}{I:Im}
def fQ{eq:t.T->t.T->X5}(h:O0 t=some eq)(x y:t.T):eq x y=true<->x=y:=by
 cases t<;>simp only[O0]at h<;>first|(cases h;done)|skip
 .have h:=A2 h;subst h;exact(CM (α:=X5) (a:=x) (b:=y))
 .have h:=A2 h;subst h;exact(CM (α:=Int) (a:=x) (b:=y))
 .have h:=A2 h;subst h;exact(CM (α:=DO) (a:=x) (b:=y))
theorem fR(k:Nat):K0 k (k+1)=true:=by simp_all[K0,Nat.blt,A7,CH]
def A3g{k v:Ty}{eq:k.T->k.T->X5}{d:TypeDesc}(hk:KeyAt P w I k eq d){x:k.T}(D:Z4 w I k x vx):∀(b:KX (k.T×v.T)) (Z6:KX MapEntry) (i:Nat),PI w I k v b Z6->
 (Instr.findNow d vx Z6 i=some none/\DY eq x b=none/\(∀z,EE eq x z b=b++[(x,z)])/\(∀q∈b,eq x q.1=false)/\∀e∈Z6,e.key≠vx)\/
 (∃j e q,Instr.findNow d vx Z6 i=some (some (i+j,e.val))/\Z6[j]?=some e/\b[j]?=some q/\eq x q.1=true/\DY eq x b=some q.2/\Instr.sameBits 10000 e.key vx=true/\(∀z,EE eq x z b=b.set j (x,z))/\e.key=vx):=by
 intro b;induction b with
 |nil=>intro Z6 i h;have:Z6=[]:=AK h.1;subst this;exact .inl ⟨rfl,rfl,λz=>rfl,λq a=>(by cases a),λ_ h=>om⟩
 |cons q b E=>
  intro Z6 i h;cases Z6 with
  |nil=>cases h.1
  |cons e Z6=>
   have⟨m,A⟩:=h.2 0 q e rfl rfl;have⟨s1,B,G⟩:=hk.same _ _ _ _ D m;cases a:eq x q.1 with
   |true=>rw[a]at s1;exact .inr ⟨0,e,q,by simp[Instr.findNow,s1],rfl,rfl,a,by simp[DY,a],(B a).1,λz=>by simp[EE,a],(B a).2⟩
   |false=>
    rw[a]at s1;rcases E Z6 (i+1) ⟨by simpa using h.1,λj y e m A=>h.2 (j+1) y e (by simpa using m) (by simpa using A)⟩with⟨a1,a2,a3,a4,a8⟩|⟨j,l,y,a1,a2,a3,a4,a5,a6,a7,a8⟩
    .exact .inl ⟨by simp[Instr.findNow,s1,a1],by simp[DY,a,a2],λz=>by simp[EE,a,a3],λp C=>(B1.1 C).elim (λh=>h▸a) (a4 p),λl s=>(B1.1 s).elim (λh=>h▸G a) (a8 l)⟩
    .exact .inr ⟨j+1,l,y,by grind[Instr.findNow],by simpa using a2,by simpa using a3,a4,by simp[DY,a,a5],a6,λz=>by simp[EE,a,a7],a8⟩
theorem AI2{k e:Ty}(L:Lay P (.map k (.slice e)) id)(A:Z2 P fr free σ w G)(m:free self)(d:free (self+1)){r:X1 X2}(D:∀x,r=some x->∃I n,x=.int I n):
 ∃z w',(Instr.makeMap id r).run P w=.ok z w'/\RD P fr free self σ w G ⟨.obj self 0,[(self,some (.mg el k e [] none (self+1)))]⟩ z w':=by
 obtain⟨a,b,O,_,_⟩:=L.map;have y:(Instr.makeMap id r).run P w=.ok (.map (some w.heap.size)) (w.alloc (.map #[] 0)):=by
  cases r with
  |none=>rfl
  |some x=>obtain⟨I,n,rfl⟩:=D x rfl;simp[Instr.makeMap,run_underlying O,asInt,asIntOf]
 have⟨B,H⟩:=A.ghost d (.tuple #[]);let G0:Gh:=G.Z3 (self+1) 0 (.tuple #[])
 have H:Z2 P fr (λj=>free j/\j≠self+1) σ w G0:=H;have B:PC w G w G0:=B;let G':Gh:=G0.Z3 self 0 (.map (some w.heap.size))
 have l:G'.val self 0=some (.map (some w.heap.size)):=by simp[G',Gh.Z3]
 have E:G'.val (self+1) 0=some (.tuple #[]):=by simp[G',G0,Gh.Z3]
 have p:∀c,Bk G' self (.mg el k e [] none (self+1)) c->c=w.heap.size:=by
  intro c C;rcases C with C|⟨Q,R,C⟩
  .grind
  .grind
 have⟨J,K⟩:=H.new (w':=w.alloc (.map #[] 0)) (G':=G') (o':=.mg el k e [] none (self+1)) (self:=self) ⟨m,oa⟩ rfl rfl rfl rfl (λ_ _ h=>h) (λ_ _ h=>.inl h) rfl
  (λj s=>⟨rfl,rfl,λg=>by simp [G',Gh.Z3,s]⟩) (λN M=>⟨⟨_,#[],l,E,w.heap.size,#[],0,rfl,N,⟨rfl,stamped_empty 0⟩,rfl,λi x e u h=>by simp at h,
   λi j c h=>by simp at h,AW,λh=>absurd (A.after.inO _ h) (AA _),λo h=>absurd (A.after.inC _ _ h) (AA _),A.R5⟩,p⟩)
 exact ⟨_,_,y,G',B.trans J,K.shrink λj s=>⟨⟨s.1,λe=>by have:=s.2;grind[fR]⟩,s.2⟩,_,rfl,_,l,rfl,rfl⟩
def Z2.swapG(m:Z2 P fr free σ w G){o o':Obj}(hk:σ k=some o)(D:V1 P fr w G k o')(z:∀b,Bk G k o' b->Bk G k o b):
 Z2 P fr free (EK σ [(k,some o')]) w G:=by
 refine⟨λj p h=>?_,λi j A B y hi a d l=>?_,m.after,λj a=>?_⟩
 .rw[FU]at h;by_cases e:j=k
  .grind
  .rw[if_neg e]at h;exact m.objs j p h
 .rw[FU]at hi a;by_cases s:i=k<;>by_cases x:j=k
  .rw[s,x]
  .rw[if_pos s]at hi;rw[if_neg x]at a;cases hi;subst s;exact m.sep i j o B y hk a (z _ d) l
  .rw[if_neg s]at hi;rw[if_pos x]at a;cases a;subst x;exact m.sep i j A o y hi hk d (z _ l)
  .rw[if_neg s]at hi;rw[if_neg x]at a;exact m.sep i j A B y hi a d l
 .have C:=m.fresh j a;refine⟨?_,C.2⟩;rw[FU,if_neg (λe=>?_)]<;>grind
theorem A3h{k:Ty}(H:Lay P (.map k (.slice t)) id){e:Nat}(z:w.heap[b]?=some (.map Z6 e)){d:TypeDesc}{B C:Nat}(j:P.underlying id=some (.map B C))(hd:P.underlying B=some d)
 (s:IsKey d vk){a:X1 (Nat×X2)}(G:Instr.findNow d vk Z6.toList 0=some a):
 (Instr.lookup id (.map (some b)) vk false).run P w=.ok (match a with|some p=>p.2|none=>.slice none 0 0) w:=by
 have m:=run_checkKey (P:=P) (w:=w) hd s Z6.isEmpty 9999;obtain⟨K,L,h,I,x⟩:=H.map;rw[j]at h;cases h;have y:(zeroValue C).run P w=.ok (.slice none 0 0) w:=by
  have⟨i,v,D,M,N,E,l⟩:=KE x.inf;have J:v=.slice none 0 0:=by
   simp only[zv]at l;split at l
   .cases l
   .unfold PZ at l;split at l
    .rename_i y;simp only[zc]at y;grind
    .cases l
  subst J;simp[zeroValue,typeInfo,D,E]
 have A:=run_findKey (P:=P) (w:=w) hd G;cases a with
 |none=>simp[Instr.lookup,run_underlying j,MapKept.run_getObj_map z,m,A,y]
 |some p=>simp[Instr.lookup,run_underlying j,MapKept.run_getObj_map z,m,A]
def WB{m:X2}{g:Nat}(a:SR P w G (.obj j g) m):G.val j g=some m:=by obtain⟨c,h,d,e,_,b⟩:=a;have:[m]=[d]:=(show c=[m]from h).symm.trans b;grind
theorem AI3(hl:Lay P t id)(hm:Z2 P fr free σ w G)(z1:∀k o,σ' k=some o->σ k=some o)(R:free self)(I:free (self+1)){m:SV}{vm:X2}
 (H:e9 σ' self t m s=some r)(hu:Q4 r u)(y8:SR P w G m vm)(hs:SR P w G s vk):
 ∃z,(Instr.lookup id vm vk false).run P w=.ok z w/\RD P fr free self σ w G u z w:=by
 unfold e9 at H;split at H
 .rename_i k v;split at H
  .rename_i j g;split at H
   .rename_i el J p y gk hk;cases D:(Nat.beq g 0&&(J.same k&&(Ty.slice p).same v))with
    |false=>rw[D]at H;cases H
    |true=>
     rw[D]at H;simp only[A4]at H;simp only[A7]at D;have hg:=A5 D.1;have e1:=Ty.Z7 D.2.1;have e2:=Ty.Z7 D.2.2;subst hg e1 e2;split at H
     .rename_i eq a x0 ha;cases H;rw[hu.PB];have E:=z1 _ _ hk;have⟨cv,X,q1,q2,h9⟩:=hm.objs _ _ E;have z3:=h9;have x2:=h9;obtain⟨bl,Z6,M,rfl,p1,p2,p3,p4,p5,p6,p7,p8,p9⟩:=h9;obtain⟨_,_,_,y4,hh,h6⟩:=x2.Z6;cases y4;rw[p1]at hh;cases hh;have y2:=WB y8;rw[q1]at y2;cases y2;obtain⟨ka,va,x5,y7,a0⟩:=hl.map;have h4:Z4 w G.im J a vk:=KW ha hs;have⟨d,hd,Q⟩:=key_ok (P:=P) (w:=w) (I:=G.im) y7 x0;have x1:∀{i},free i->i≠j:=λ{i} hi e=>by have V:=(hm.fresh i hi).1;rw[e,E]at V;cases V
      obtain⟨z,B,hz,T,y1,y9⟩:∃z B,(Instr.lookup id (.map (some bl)) vk false).run P w=.ok z w/\RE fr w G.im el p ((DY eq a y).getD []) false z/\
       MgOK fr w G.im el J p y (some a) B (.map (some bl))/\((∀c,Value.map (some c)∈B->Value.map (some c)∈X.toList/\I5 z≠.map (some c))/\∀c,I5 z=.map (some c)->Value.map (some c)∈X.toList):=by
       rcases A3g (P:=P) (v:=.slice p) Q h4 y Z6.toList 0 h6.1 with⟨a1,a2,a3,a4,_⟩|⟨i,e,q,a1,a2,a3,a4,a5,a6,a7,_⟩
       .refine⟨_,X.toList,A3h hl p1 x5 hd (Q.key _ _ h4) a1,?_,⟨bl,Z6,M,rfl,p1,p2,p3,λi x e u V h2 h3=>?_,p5,p6,p7,p8,p9⟩,λc l=>⟨l,λh=>om⟩,λc h=>om⟩
        .have a2:DY eq a y=(none:X1 (KX p.T)):=a2;rw[a2];exact .inl ⟨rfl,rfl⟩
        .obtain⟨b1,K⟩:=p4 i x e u V h2 h3;rcases K with⟨K,_⟩|K
         .cases K
         .exact⟨b1,.inr K⟩
       .have C:i<X.toList.length:=by rw[p3];exact(A3.1 a3).1
        have⟨b1,K⟩:=p4 i q e _ a3 (by rw[<-A_];exact a2) (A1 C);rcases K with⟨K,_⟩|⟨K,b3⟩
        .cases K
        have hq:a=q.1:=(fQ x0 _ _).1 a4;have a3:y[i]?=(some q:X1 (J.T×KX p.T)):=a3;have a5:DY eq a y=(some q.2:X1 (KX p.T)):=a5;refine⟨e.val,X.toList.set i (Value.map none),A3h hl p1 x5 hd (Q.key _ _ h4) a1,by rw[a5];exact K,⟨bl,Z6,M,rfl,p1,p2,by simpa using p3,λW x e' u V h2 h3=>?_,λi1 i2 c V h2=>?_,p6,p7,p8,p9⟩,λc l=>?_,λc l=>?_⟩
        .by_cases A:i=W
         .subst A;rw[a3]at V;cases V;rw[BY C]at h3;cases h3;have⟨b4,L⟩:=p4 i q e' _ a3 h2 (A1 C);refine⟨b4,.inl ⟨by rw[hq],rfl,?_⟩⟩;rcases L with⟨_,_,L⟩|⟨L,_⟩
          .exact L
          .exact⟨_,rfl,VW L⟩
         .rw[C4 A]at h3;have⟨b4,L⟩:=p4 W x e' u V h2 h3;rcases L with⟨L,_⟩|L
          .cases L
          .exact⟨b4,.inr L⟩
        .have x3:∀W:Nat,(X.toList.set i (Value.map none))[W]?=some (Value.map (some c))->X.toList[W]?=some (Value.map (some c)):=by
          intro W h;by_cases A:i=W
          .subst A;rw[BY C]at h;cases h
          .rw[C4 A]at h;exact h
         exact p5 i1 i2 c (x3 _ V) (x3 _ h2)
        .obtain⟨W,O⟩:=BR l;by_cases A:i=W
         .subst A;rw[BY C]at O;cases O
         .rw[C4 A]at O;refine⟨AE O,λh=>A ?_⟩;exact p5 i W c (by rw[A1 C,b3,h]) O
        .rw[<-l,<-b3];exact AG C
      obtain⟨Z,y0⟩:=y9;refine⟨z,hz,?_⟩;have⟨g0,m0⟩:=hm.ghost I (.tuple B.toArray);let G0:Gh:=G.Z3 (self+1) 0 (.tuple B.toArray)
      have m0:Z2 P fr (λj=>free j/\j≠self+1) σ w G0:=m0;have g0:PC w G w G0:=g0;have Y:G0.val j 0=some (.map (some bl)):=g0.val _ _ _ q1;have N:G0.val (self+1) 0=some (.tuple B.toArray):=by simp[G0,Gh.Z3]
      have z7:self+1≠j:=x1 I;have z4:self≠j:=x1 R;have x4:∀c,Bk G0 j (.mg el J p y (some a) (self+1)) c->Bk G0 j (.mg el J p y none gk) c:=by
       intro c l;rcases l with l|⟨z2,h8,l⟩
       .exact .inl l
       .rw[N]at h8;cases h8;exact .inr ⟨X,g0.val _ _ _ q2,(Z c (by simpa using l)).1⟩
      have m1:=m0.swapG E (o':=.mg el J p y (some a) (self+1)) ⟨_,B.toArray,Y,N,(by simpa using y1:MgOK fr w G.im el J p y (some a) B.toArray.toList (.map (some bl)))⟩ x4;let G':Gh:=(G0.Z3 self 0 z).Q7 self p
      have U:G'.val self 0=some z:=by simp[G',Gh.Z3,Gh.Q7]
      have h5:∀c,Bk G' self (.sl el p ((DY eq a y).getD []) 0 false) c->I5 z=.map (some c):=by
       intro c l;simp only[Bk,U]at l;split at l
       .rename_i ad _ _ he;cases he;cases l;rfl
       .cases l
      have y5:free self/\self≠self+1:=⟨R,oa⟩
      have⟨g1,m2⟩:=m1.add (G':=G') (o:=.sl el p ((DY eq a y).getD []) 0 false) (k:=self) y5 rfl (λi hi=>⟨rfl,by simp[G',Gh.Z3,Gh.Q7,hi],λg=>by simp[G',Gh.Z3,Gh.Q7,hi]⟩)
       (λz9=>⟨by simp[G',Gh.Z3,Gh.Q7],z,U,T⟩)
       (λc l i o' hi D=>by
        have l:=h5 c l;have y6:=y0 c l;by_cases h7:i=j
        .subst h7;rw[FU,if_pos rfl]at hi;cases hi;rcases D with D|⟨z2,h8,D⟩
         .rw[Y]at D;cases D;have⟨_,_,y3,cells,_,fz,a5,_⟩:=T.slice l;rw[p1]at a5;cases a5
         .rw[N]at h8;cases h8;exact(Z c (by simpa using D)).2 l
        .rw[FU,if_neg h7]at hi;exact h7 (m0.sep i j o' _ c hi E D (.inr ⟨X,g0.val _ _ _ q2,y6⟩)))
      refine⟨G',g0.trans g1,?_,_,rfl,z,U,?_,rfl⟩
      .have e3:EK σ [(self,some (.sl el p ((DY eq a y).getD []) 0 false)),(j,some (.mg el J p y (some a) (self+1)))]=EK (EK σ [(j,some (.mg el J p y (some a) (self+1)))]) [(self,some (.sl el p ((DY eq a y).getD []) 0 false))]:=
        GZ σ [(self,some (.sl el p ((DY eq a y).getD []) 0 false))] [(j,some (.mg el J p y (some a) (self+1)))]
       show Z2 P fr (JH free self) (EK σ [(self,some (.sl el p ((DY eq a y).getD []) 0 false)),(j,some (.mg el J p y (some a) (self+1)))]) w G';rw[e3];exact m2.shrink λi hi=>⟨⟨hi.1,λe=>by
        have:=hi.2;subst e;rw[fR]at this;cases this⟩,λe=>by
        have:=hi.2;subst e;rw[fI]at this;cases this⟩
      .rcases T with⟨rfl,_⟩|⟨b,y3,cs,rfl,_⟩<;>rfl
     .cases H
   .cases H
  .cases H
 .cases H
def MgOK.put{fr:Fr}{w w':X4}{k:Ty}{eq:k.T->k.T->X5}(D:O0 k=some eq){l:KX (k.T×KX t.T)}{tk:X1 k.T}{C:KX X2}{bl z:Nat}
 (h:MgOK fr w I el k t l tk C (.map (some bl)))(hb:w.heap[bl]?=some (.map Z6 z)){a:k.T}{xs:KX t.T}(hx:RE fr w I el t xs false vx)(x1:tk=none\/tk=some a)
 (h9:∀c,I5 vx=.map (some c)->Value.map (some c) ∉ C)(e:Ext w I w' I)(hw:∀O,O≠bl->w'.heap[O]?=w.heap[O]?){b:Array MapEntry}{d:Nat}(hh:w'.heap[bl]?=some (.map b d)){en:MapEntry}(hk:Z4 w I k a en.key)(N:en.val=vx)(E:Stamped b d)
 (hp:(EE eq a xs l=l++[(a,xs)]/\(∀q∈l,eq a q.1=false)/\b.toList=Z6.toList++[en])\/(∃j q,l[j]?=some q/\eq a q.1=true/\EE eq a xs l=l.set j (a,xs)/\b.toList=Z6.toList.set j en)):
 ∃G,MgOK fr w' I el k t (EE eq a xs l) none G (.map (some bl))/\∀c,Value.map (some c)∈G->Value.map (some c)∈C\/I5 vx=.map (some c):=by
 have A:∀{Y:KX t.T} {v:X2},RE fr w I el t Y false v->RE fr w' I el t Y false v:=by intro Y v hs;refine hs.keep e λc U=>⟨hw c λec=>?_,λ_ h=>h,λh=>h⟩;have⟨_,_,h7,cells,_,fz,Z,_⟩:=hs.slice U;rw[ec,hb]at Z;cases Z
 obtain⟨h6,T,L,h0,p1,⟨p2,_⟩,p3,p4,p5,p6,p7,p8,p9⟩:=h;cases h0;rw[hb]at p1;cases p1;have x0:∀i:Nat,Z6[i]?=Z6.toList[i]?:=λi=>by rw[A_]
 have h5:∀(i:Nat) (x:k.T×KX t.T) (s:MapEntry) (u:X2),l[i]?=some x->Z6[i]?=some s->C[i]?=some u->x.1≠a->
  Z4 w' I k x.1 s.key/\RE fr w' I el t x.2 false s.val/\u=I5 s.val:=by
  intro i x s u m p y x2;have⟨b1,H⟩:=p4 i x s u m p y;rcases H with⟨H,_⟩|⟨H,b3⟩
  .grind
  .exact⟨b1.ext e,A H,b3⟩
 rcases hp with⟨J,Q,K⟩|⟨j,q,J,Q,K,c4⟩
 .have h8:∀q∈l,q.1≠a:=λq M R=>by have:=Q q M;rw[R,(fQ D a a).2 rfl]at this;cases this
  refine⟨C++[I5 vx],⟨bl,b,d,rfl,hh,⟨?_,E⟩,oc,λi x s u m p y=>?_,λi1 i2 c m p=>?_,?_,p7,p8,p9⟩,λc U=>?_⟩
  .grind[Array.length_toList]
  .rw[J]at m;rw[<-A_,K]at p;by_cases X:i<l.length
   .grind
   .have W:l.length<=i:=D6 X;rw[BI W]at m;rw[BI oc,BD,p2]at p;rw[BI oa,p3]at y;have h0:i-l.length=0:=by have:=(A3.1 m).1;simp at this;omega
    rw[h0]at m p y;cases m;cases p;cases y;exact⟨hk.ext e,.inr ⟨N▸A hx,by rw[N]⟩⟩
  .grind
  .grind
  grind
 .have M:a=q.1:=(fQ D _ _).1 Q;have hj:j<l.length:=(A3.1 J).1;have h4:∀(i:Nat) (x:k.T×KX t.T),l[i]?=some x->i≠j->x.1≠a:=by
   intro i x hi B R;have m:(l.map (·.1))[i]?=some a:=by rw[AS,hi,<-R];rfl
   have p:(l.map (·.1))[j]?=some a:=by rw[AS,J,M];rfl
   have V:i<(l.map (·.1)).length:=(A3.1 m).1;exact B ((List.getElem?_inj V p6).1 (m.trans p.symm))
  refine⟨C.set j (I5 vx),⟨bl,b,d,rfl,hh,⟨?_,E⟩,oc,λi x s u m p y=>?_,λi1 i2 c m p=>?_,?_,p7,p8,p9⟩,λc U=>?_⟩
  .grind[Array.length_toList]
  .rw[K]at m;rw[<-A_,c4]at p;by_cases B:j=i
   .subst B;rw[BY hj]at m;rw[BY oc]at p;rw[BY oa]at y;cases m;cases p;cases y;exact⟨hk.ext e,.inr ⟨N▸A hx,by rw[N]⟩⟩
   grind
  .grind
  .rw[K,List.map_set,M];have:(l.map (·.1)).set j q.1=l.map (·.1):=by
    apply BN;intro n;by_cases hn:j=n
    .grind
    .rw[C4 hn]
   grind
  grind
theorem AI4(hl:Lay P t id)(O:Z2 P fr free σ w G)(z1:∀k o,σ' k=some o->σ k=some o)(U:free (self+1)){m sx:SV}{vm:X2}
 (D:sP σ' self t m s sx=some r)(hu:Q4 r u)(b0:SR P w G m vm)(hs:SR P w G s vk)(c1:SR P w G sx vx):
 ∃w',(Instr.mapUpdate id vm vk vx).run P w=.ok () w'/\RD P fr free self σ w G u undef w':=by
 unfold sP at D;split at D
 .rename_i k v;split at D
  .rename_i j g i h;split at D
   .rename_i el K t' C tk gk c4 Q E h2 a0 z9;cases hb:(Nat.beq g 0&&((K.same k&&(Ty.slice t').same v)&&(Nat.beq h 0&&(Nat.beq h2 0&&(Nat.beq el c4 && !(Nat.beq i j))))))with
    |false=>rw[hb]at D;cases D
    |true=>
     rw[hb]at D;simp only[A4]at D;simp only[A7,BM]at hb;obtain⟨b1,⟨b2,b3⟩,b4,b5,b6,b7⟩:=hb;have e1:=A5 b1;have e2:=Ty.Z7 b2;have e3:=Ty.Z7 b3;have e4:=A5 b4;have e5:=A5 b5;have e6:=A5 b6;subst e1 e2 e3 e4 e5 e6;have z7:i≠j:=λe=>by rw[e,CS]at b7;cases b7
     split at D
     .rename_i eq a ys h3 ha c3;obtain⟨ety,ey⟩:=Ty.cast?_some c3;injection ety with ety;subst ety;cases ey;have V:tk=none\/tk=some a->∃w',(Instr.mapUpdate id vm vk vx).run P w=.ok () w'/\RD P fr free self σ w G ⟨.undef,[(j,some (.mg el K Q (EE eq a E C) none (self+1))),(i,none)]⟩ undef w':=by
       intro c2;have A:=z1 _ _ a0;have J:=z1 _ _ z9;have⟨cv,us,q1,q2,h4⟩:=O.objs _ _ A;have⟨_,c9,x1,x2⟩:=O.objs _ _ J;have y7:=WB c1;rw[x1]at y7;cases y7;obtain⟨bl,Z6,x,z4,W,h1⟩:=h4.Z6;subst z4;have y6:=WB b0;rw[q1]at y6;cases y6;have y2:=h4;obtain⟨c5,z3,z2,h0,p1,p2,p3,p4,p5,p6,p7,p8,p9⟩:=y2;cases h0;rw[W]at p1;cases p1;obtain⟨ka,va,y4,a9,c7⟩:=hl.map;have T:Z4 w G.im K a vk:=KW ha hs;have⟨d,hd,X⟩:=key_ok (P:=P) (w:=w) (I:=G.im) a9 h3;have h9:=run_checkKey (P:=P) (w:=w) hd (X.key _ _ T) false 9999;have y3:=λo'=>heap_set (o':=o') W;have h7:∀c,I5 vx=.map (some c)->Bk G i (.sl el Q E 0 false) c:=by intro c M;have⟨_,_,c6,cells,e1,_⟩:=x2.slice M;simp only[Bk,x1,e1]
       have z:∀c,I5 vx=.map (some c)->Value.map (some c) ∉ us.toList:=λc M I=>z7 (O.sep i j _ _ c J A (h7 c M) (.inr ⟨us,q2,I⟩))
       have h6:∀(l:Array MapEntry) (b:Nat) (en:MapEntry),Z4 w G.im K a en.key->en.val=vx->Stamped l b->
        ((EE eq a E C=C++[(a,E)]/\(∀q∈C,eq a q.1=false)/\l.toList=Z6.toList++[en])\/(∃j q,C[j]?=some q/\eq a q.1=true/\EE eq a E C=C.set j (a,E)/\l.toList=Z6.toList.set j en))->
        RD P fr free self σ w G ⟨.undef,[(j,some (.mg el K Q (EE eq a E C) none (self+1))),(i,none)]⟩ undef {w with heap:=w.heap.setIfInBounds bl (.map l b)}:=by
        intro l b en x3 x4 b8 hp;have⟨s1,s2⟩:=y3 (.map l b);have m0:=O.drop i;have x0:∀y o,EK σ [(i,none)] y=some o->y≠i/\σ y=some o:=by
         intro y o B;rw[FU]at B;by_cases e:y=i
         .rw[if_pos e]at B;cases B
         .rw[if_neg e]at B;exact⟨e,B⟩
        have y0:PC w G {w with heap:=w.heap.setIfInBounds bl (.map l b)} G:=PC.of_heap (b:=bl) (λZ z=>s2 Z z) p8 p7;have⟨L,y1,y5⟩:=h4.put h3 W x2 c2 z y0.ext (w':={w with heap:=w.heap.setIfInBounds bl (.map l b)}) (λZ z=>s2 Z z) s1 x3 x4 b8 hp;have⟨g1,m1⟩:=m0.ghost U (.tuple L.toArray);let G0:Gh:=G.Z3 (self+1) 0 (.tuple L.toArray)
        have m1:Z2 P fr (λj=>free j/\j≠self+1) (EK σ [(i,none)]) w G0:=m1;have g1:PC w G w G0:=g1;have Y:G0.val (self+1) 0=some (.tuple L.toArray):=by simp[G0,Gh.Z3]
        have x5:PC w G0 {w with heap:=w.heap.setIfInBounds bl (.map l b)} G0:=PC.of_heap (b:=bl) (λZ z=>s2 Z z) p8 p7
        have m2:=m1.change (w':={w with heap:=w.heap.setIfInBounds bl (.map l b)}) (G':=G0) (b:=bl) (k:=j) (o':=some (.mg el K Q (EE eq a E C) none (self+1))) (free':=JH free self) x5
         (λy o B p H=>by have⟨y9,p⟩:=x0 y o p;exact B (O.sep y j o _ bl p A (by rw[<-H8 (O.objs y o p) g1];exact H) (.inl q1)))
         (λZ _ z=>s2 Z z) oh (by simpa using O7 W) p9 (λ_ _ h=>.inl h) (λ_ h=>.inl h) rfl rfl rfl
         (λo ho=>by
          cases ho;refine⟨⟨_,L.toArray,g1.val _ _ _ q1,Y,(by simpa using y1:MgOK fr {w with heap:=w.heap.setIfInBounds bl (.map l b)} G.im el K Q (EE eq a E C) none L.toArray.toList (.map (some bl)))⟩,λc M=>?_⟩;rcases M with M|⟨c8,h8,M⟩
          .rw[g1.val _ _ _ q1]at M;cases M;exact .inl rfl
          .rw[Y]at h8;cases h8;refine .inr λy oy B p H=>?_;have⟨y9,p⟩:=x0 y oy p;rw[H8 (O.objs y oy p) g1]at H;rcases y5 c (by simpa using M)with h|h
           .exact B (O.sep y j oy _ c p A H (.inr ⟨us,q2,h⟩))
           .exact y9 (O.sep y i oy _ c p J H (h7 c h)))
         (λy B=>by
          have N:=O.fresh y B.1;have y8:y≠self+1:=λe=>by have:=B.2;rw[e,fR]at this;cases this
          exact⟨λe=>(by rw[e,A]at N;cases N.1),⟨B.1,y8⟩,N.2.1,N.2.2.1,λg=>by simp only[G0,Gh.Z3,y8,DE,CE];exact N.2.2.2 g⟩)
        refine⟨G0,g1.trans x5,?_,_,rfl,trivial⟩
        have e3:EK σ [(j,some (.mg el K Q (EE eq a E C) none (self+1))),(i,none)]=EK (EK σ [(i,none)]) [(j,some (.mg el K Q (EE eq a E C) none (self+1)))]:=
         GZ σ [(j,some (.mg el K Q (EE eq a E C) none (self+1)))] [(i,none)]
        show Z2 P fr (JH free self) (EK σ [(j,some (.mg el K Q (EE eq a E C) none (self+1))),(i,none)]) _ G0;rw[e3];exact m2
       rcases A3g (P:=P) (v:=.slice Q) X T C Z6.toList 0 h1.1 with⟨a1,a2,a3,a4,a8⟩|⟨i',e,q,a1,a2,a3,a4,a5,a6,a7,a8⟩
       .have N:=run_findKey (P:=P) (w:=w) hd a1;refine⟨_,?_,h6 (Z6.push {key:=vk,val:=vx,born:=x}) (x+1) {key:=vk,val:=vx,born:=x} T rfl (stamped_push p2.2 a8) (.inl ⟨a3 E,a4,Array.toList_push⟩)⟩;simp[Instr.mapUpdate,run_underlying y4,MapKept.run_getObj_map W,h9,N,run_setObj_map _ W]
       .have N:=run_findKey (P:=P) (w:=w) hd a1;rw[BH]at N;have R:Z6[i']?=some e:=by rw[<-A_];exact a2
        refine⟨_,?_,h6 (Z6.modify i' λe=>{e with key:=vk,val:=vx}) x {e with key:=vk,val:=vx} T rfl (stamped_modify p2.2 i' _ (λ_ _=>rfl) (λe' _ h=>by rw[R]at h;cases h;exact a8.symm)) (.inr ⟨i',q,a3,a4,a7 E,?_⟩)⟩
        .simp[Instr.mapUpdate,run_underlying y4,MapKept.run_getObj_map W,h9,N,R,Instr.keyThatStays,a6,run_setObj_map _ W]
        .apply BN;intro n;rw[A_,Array.getElem?_modify];by_cases I:i'=n
         .subst I;rw[if_pos rfl,R,BY (by have:=(B6.1 R).1;simpa using this)];rfl
         .rw[if_neg I,C4 I,A_]
      cases tk with
      |none=>cases D;rw[hu.PB];exact V (.inl rfl)
      |some q=>
       cases D;obtain⟨y,B,rfl⟩:=hu.Q1;have h5:eq q a=true:=by
        cases h5:eq q a with
        |true=>rfl
        |false=>rw[h5]at B;cases B
       exact V (.inr (by rw[(fQ h3 _ _).1 h5]))
     .cases D
   .cases D
  .cases D
 .cases D
def fS{c:KX Nat}(h:i<bss.length):(bss.set i c).flatten=(bss.take i).flatten++(c++(bss.drop (i+1)).flatten):=by rw[List.set_eq_take_append_cons_drop,if_pos h];simp
def uD(h:i<bss.length):bss.flatten=(bss.take i).flatten++(bss.getD i []++(bss.drop (i+1)).flatten):=by have:=fS (c:=bss.getD i []) h;simp_all
def uE{c:KX Nat}(h:i<bss.length):(bss.set i c).getD j []=if i=j then c else bss.getD j []:=by grind
theorem uF:VV none i=none:=rfl
theorem uG:VV (some [j]) i=if j=i then some []else none:=by simp_all[VV,CS,if_neg,Nat.beq,B_,A5]
theorem DV.inv1{xs:KX t.T}(h:DV ow w I t [id] xs none [v] bs):
 (v=.slice none 0 0/\xs=[]/\bs=[])\/∃b o a cells,v=.slice (some ⟨b,o,none⟩) xs.length a/\bs=[b]/\IZ xs.length a/\Q9 w b cells id/\o+a*t.sz<=cells.size/\ow b/\
  (∀c,¬I.cell b c)/\¬I.obj b/\Q3 w I t xs (cells.toList.drop o):=by
 have h0:=h;obtain⟨G,m,_,d⟩:=h0;have e:v=G:=AB.1 m;subst e;rcases d with⟨d,_⟩|⟨_,j,p,s⟩|⟨_,b,o,a,_,_,l,_⟩
 .cases d
 .exact .inl ⟨j,p,s⟩
 .obtain⟨cells,j,y,z,A,B,C,D,E,J⟩:=h.leaf l;exact .inr ⟨b,o,a,cells,l,E,y,z,A,B,C,D,λi x H=>by simp_all⟩
theorem DV.mk1{o cap:Nat}{xs:KX t.T}{cells:Array X2}(a:IZ xs.length cap)(d:Q9 w b cells id)(e:o+cap*t.sz<=cells.size)(j:ow b)
 (l:∀c,¬I.cell b c)(m:¬I.obj b)(p:Q3 w I t xs (cells.toList.drop o)):DV ow w I t [id] xs none [.slice (some ⟨b,o,none⟩) xs.length cap] [b]:=
 DV.mkleaf a d e j l m λi x h=>by have:=p i x h;simp_all
def AI5{free:Nat->Prop}{self:Nat}(h:JH free self j):free j/\¬(self<=j/\j<self+2):=by
 have b:=h.2;refine⟨h.1,λa=>?_⟩;have:K0 self j=true:=by simp only[K0,Nat.blt,A7];exact⟨CH a.1,CH oa⟩
 grind
theorem Z2.mk_dp(z:Z2 P fr free σ w G)(m:free self)(d:free (self+1)){r:KX Nat}{x:(E5 (id::r) t).T}
 (hd:DV fr.owned w G.im t (id::r) x none [v] bs)(l:bs.Nodup)(a:∀b∈bs,∀j o,σ j=some o->¬Bk G j o b):
 ∃G',PC w G w G'/\Z2 P fr (JH free self) (EK σ [(self,some (.dp (id::r) t x (self+1) none true))]) w G'/\SR P w G' (.obj self 0) v:=by
 obtain ⟨G',e,p,_⟩:=A3T (n:=self) z (ids:=id::r) (t:=t) (x:=x) (cs:=[v]) ⟨(by intro h; cases h),hd.own λ_ _=>trivial⟩ l (λb s=>⟨(hd.blk b s).2.1,a b s⟩) (λk e p=>by grind);exact⟨G',e.le,e.mem.shrink λj y=>AI5 y,[v],rfl,p⟩
theorem OW{r:KX Nat}{x:(E5 (id::r) t).T}{d:Nat}{a:Array X2}(e:G.val d 0=some (.tuple a))(j:a.toList=List.map IT bs):
 Bk G k (.dp (id::r) t x d h true) b<->b∈bs:=by
 constructor
 .rintro⟨_,l,m,p⟩;grind[N1]
 .intro h;exact⟨rfl,a,e,(N1 j).2 h⟩
def Z2.touch(s:Z2 P fr free σ w G)(H:¬free k)(D:∀j o,j≠k->σ j=some o->¬Bk G j o b)(B:∀o,¬G.im.cell b o)(C:¬G.im.obj b)(p:fr.owned b)
 (A:∀a,a<w.heap.size->a≠b->w'.heap[a]?=w.heap[a]?)(z:w.heap.size<=w'.heap.size)(x:b<w'.heap.size)
 (y:w'.os=w.os)(d:w'.tape=w.tape)(m:w'.output=w.output):
 PC w G w' G/\Z2 P fr free (EK σ [(k,none)]) w' G:=by
 have l:PC w G w' G:=by
  refine⟨⟨λa o h=>⟨h,?_⟩,λa h=>⟨h,?_⟩⟩,λ_ _ _ h=>h,λ_ _ h=>h,λ_ _ h=>h⟩
  .have:a≠b:=λe=>B o (e▸h);simp only[World.cell?,A a (s.after.inC a o h) this]
  .exact A a (s.after.inO a h) (λe=>C (e▸h))
 refine⟨l,s.change (b:=b) (o':=none) l D A z x p (λ_ _ h=>.inl h) (λ_ h=>.inl h) y d m (λo h=>om) λj E=>?_⟩;have I:=s.fresh j E;grind
def uH{o:Obj}(a:Z2 P fr free σ w G)(hk:σ k=some o):¬free k:=λh=>by have:=(a.fresh k h).1;grind
theorem AI6{e':Ty}{gk:Nat}(hl:Lay P (.slice e') id)(hel:∀x,P.underlying id=some (.slice x)->el=x)(hm:Z2 P fr free σ w G)(hself:free self)(hself1:free (self+1))
 {xs ys zs:KX e'.T}(hkσ:σ k=some (.dp [el] e' xs gk none true))(hs:SR P w G (.obj k 0) v)(hv0:VZ P w G.im e' id ys vx)(hz:app? (24*e'.sz) xs ys=some zs):
 ∃z w',(Builtin.append_ #[id,id] ty #[v,vx]).run P w=.ok z w'/\RD P fr free self σ w G ⟨.obj self 0,[(self,some (.dp [el] e' zs (self+1) none true)),(k,none)]⟩ z w':=by
 have hnk:=uH hm hkσ;have⟨_,hety,v',us,bs,k1,k2,k3,k4,k5⟩:=RA.inv (hm.objs _ _ hkσ);have hv:=WB hs;rw[k1]at hv;cases hv;have hbk:∀b,Bk G k (.dp [el] e' xs gk none true) b<->b∈bs:=λb=>OW k2 k3;obtain⟨el',hun,hle,hpos⟩:=hl.slice;have:=hel _ hun;subst this;have⟨hB,hzs⟩:=tV hz;subst hzs;have⟨i,z,h1,h2',h3,h4,h5,h6⟩:=Q0 (P:=P) (w:=w) (I:=G.im) hle;have hvs:=hv0;obtain⟨news,s1,s2,s3⟩:=hvs;rw[<-h2']at s1
 have fin:∀{w':X4} {b o cap:Nat} {cells:Array X2},(∀j ob,j≠k->σ j=some ob->¬Bk G j ob b)->(∀c,¬G.im.cell b c)->¬G.im.obj b->fr.owned b->
  (∀b',b'<w.heap.size->b'≠b->w'.heap[b']?=w.heap[b']?)->w.heap.size<=w'.heap.size->w'.os=w.os->w'.tape=w.tape->w'.output=w.output->
  IZ (xs++ys).length cap->Q9 w' b cells el->o+cap*e'.sz<=cells.size->Q3 w G.im e' (xs++ys) (cells.toList.drop o)->
  RD P fr free self σ w G ⟨.obj self 0,[(self,some (.dp [el] e' (xs++ys) (self+1) none true)),(k,none)]⟩ (.slice (some ⟨b,o,none⟩) (xs++ys).length cap) w':=by
  intro w' b o cap cells a1 a2 a3 a4 a5 a6 a7 a8 a9 a10 a11 a12 a13;have⟨g1,m1⟩:=hm.touch (w':=w') hnk a1 a2 a3 a4 a5 a6 a11.lt a7 a8 a9;obtain ⟨G',g2,m2,m3⟩:=m1.mk_dp hself hself1 (id:=el) (r:=[]) (t:=e') (x:=(xs++ys:KX e'.T)) (DV.mk1 (id:=el) (t:=e') a10 a11 a12 a4 a2 a3 (a13.ext g1.ext)) oh (λb' hb' j ob hj hbj=>by
   have:b'=b:=by simpa using hb'
   subst this;rw[FU]at hj;by_cases e:j=k
   .rw[if_pos e]at hj;cases hj
   .rw[if_neg e]at hj;exact a1 j ob e hj hbj)
  exact ⟨G',g1.trans g2,by show Z2 P fr (JH free self) (EK σ ([(self,some (.dp [el] e' (xs++ys) (self+1) none true))]++[(k,none)])) w' G';rw[GZ];exact m2,m3⟩
 have hnew:(∀j ob,j≠k->σ j=some ob->¬Bk G j ob w.heap.size)/\(∀c,¬G.im.cell w.heap.size c)/\¬G.im.obj w.heap.size:=
  ⟨λj ob _ hj hbj=>absurd (LW (hm.objs j ob hj) hbj) (AA _),λc h=>absurd (hm.after.inC _ _ h) (AA _),λh=>absurd (hm.after.inO _ h) (AA _)⟩
 have grow:∀{base:X1 Addr} {cap:Nat} {olds:KX X2},cap<xs.length+ys.length->(Builtin.firstCells e'.sz xs.length (.slice base xs.length cap)).run P w.drew=.ok olds.toArray w.drew->
  olds.length=xs.length*e'.sz->Q3 w G.im e' xs olds->∃z w',(Builtin.append_ #[id,id] ty #[.slice base xs.length cap,vx]).run P w=.ok z w'/\
  RD P fr free self σ w G ⟨.obj self 0,[(self,some (.dp [el] e' (xs++ys) (self+1) none true)),(k,none)]⟩ z w':=by
  intro base cap olds hcap hold hol hor;have hbig:(xs.length+ys.length)*i.bytes<=140737488355328:=by have:(xs.length+ys.length)*i.bytes<=(xs.length+ys.length)*(24*e'.sz):=CA _ h3;have hB:(xs.length+ys.length)*(24*e'.sz)<=70368744177664:=hB;omega
  have hB:(xs.length+ys.length)*(24*e'.sz)<=70368744177664:=hB;have h63:xs.length+ys.length<=70368744177664:=by have:(xs.length+ys.length)*1<=(xs.length+ys.length)*(24*e'.sz):=CA _ oa;omega
  have hrun:=run_append_grow_src w id id ty el i z hun h1 h4 base xs.length cap olds (by rw[h2'];exact hold) vx ys.length news s1 hcap oa (growslice_fits hcap hbig);have hge:=grownCap_ge w (xs.length+ys.length) cap el;have hzs:z.cells.size=e'.sz:=by have:=h6.length;simpa using this
  have:=fin (w':=w.drew.alloc (.cells ((olds++news).toArray++Builtin.zeroCells z.cells (grownCap w (xs.length+ys.length) cap el-(xs.length+ys.length))) el)) (b:=w.heap.size) (o:=0)
   (cap:=grownCap w (xs.length+ys.length) cap el) (cells:=((olds++news).toArray++Builtin.zeroCells z.cells (grownCap w (xs.length+ys.length) cap el-(xs.length+ys.length))))
   hnew.1 hnew.2.1 hnew.2.2 hm.R5 (λb' h _=>by show(w.heap.push _)[b']?=_;rw[DL h,AU h]) (by show _<=(w.heap.push _).size;simp) rfl rfl rfl
   (by rw[AL];exact⟨hge,oa⟩) ⟨(0,0),by show(w.heap.push _)[_]?=_;rw[D7],.inl (AD _)⟩
   (by rw[BH,Array.size_append,size_zeroCells,hzs,B9,AL,hol,s2,<-C7,<-C7];refine AN _ ?_;omega)
   (by rw[DA,Array.toList_append,CF];exact Q3.append hor s3 hol s2)
  rw[AL]at this;exact⟨_,_,hrun,this⟩
 rcases k5.inv1 with⟨rfl,hx0,hb0⟩|⟨b,o,cap,cells,rfl,hb0,hcap,hrow,hsz,hown,hC,hO,hrows⟩
 .have hx0:xs=([]:KX e'.T):=hx0;subst hx0;by_cases h0:ys.length=0
  .have hy:ys=[]:=AK h0;subst hy;have hn:news=[]:=AK (by simpa using s2);subst hn;have m0:=hm.drop k;have⟨G',g2,m2,m3⟩:=m0.mk_dp hself hself1 (id:=el) (r:=[]) (t:=e') (x:=([]:KX e'.T)) (v:=.slice none 0 0) (bs:=[]) ⟨_,rfl,rfl,.inr (.inl ⟨qu,rfl,rfl,rfl⟩)⟩ AW (λb hb=>by cases hb);refine⟨.slice none 0 0,w,?_,G',g2,?_,m3⟩
   .have hl1:=s1.len w;have hc1:=s1.cells;simp at hc1;rcases s1.kind with⟨e',hk⟩|hk<;>simp[Builtin.append_,run_underlying hun,run_underlying hk,sizeOf,typeInfo,h1,hl1,hc1]
   .show Z2 P fr (JH free self) (EK σ ([(self,some (.dp [el] e' [] (self+1) none true))]++[(k,none)])) w G';rw[GZ];exact m2
  .exact grow (base:=none) (cap:=0) (olds:=[]) ot (run_firstCells_none _ _ _ _ _) oh (λi x hx=>by simp at hx)
 .have hbin:∀j ob,j≠k->σ j=some ob->¬Bk G j ob b:=λj ob hj ho hbj=>hj (hm.sep j k ob _ b ho hkσ hbj ((hbk b).2 (by rw[hb0];simp)));have hle2:xs.length*e'.sz<=cap*e'.sz:=AN _ hcap.1;have hfull:o+xs.length*e'.sz<=cells.size:=oa;have hcell:∀o,w.cell? ⟨b,o,none⟩=cells.toList[o]?:=hrow.cell;have hB':(xs.length+ys.length)*(24*e'.sz)<=70368744177664:=hB;by_cases hroom:xs.length+ys.length<=cap
  .have hroom2:(xs.length+ys.length)*e'.sz<=cap*e'.sz:=AN _ hroom;rw[C7]at hroom2;have hfit:o+xs.length*e'.sz+news.length<=cells.size:=by rw[s2];omega
   have⟨fz,hb1,hfz⟩:=(show Q9 w b cells el from hrow);have hst:=fG P b (o+xs.length*e'.sz) el fz news 0 cells w hb1 (hfz.imp (λh=>h) And.left) oa s1.one
   have hrun:(Builtin.append_ #[id,id] ty #[.slice (some ⟨b,o,none⟩) xs.length cap,vx]).run P w=
    .ok (.slice (some ⟨b,o,none⟩) (xs.length+ys.length) cap) (w.setRow b (F3 cells.toList (o+xs.length*e'.sz) news).toArray):=by
    have hl1:=s1.len w;have hc1:=s1.cells;rw[h2']at hc1;simp only[CG]at hst;rcases s1.kind with⟨e',hk2⟩|hk2<;>simp[Builtin.append_,run_underlying hun,run_underlying hk2,sizeOf,typeInfo,h1,h2',hl1,hroom,hc1,Addr.add_lit,hst,F3]
   have hspl:(F3 cells.toList (o+xs.length*e'.sz) news).length=cells.size:=by rw[MI (by simpa using hfit)];simp
   have:=fin (w':=w.setRow b (F3 cells.toList (o+xs.length*e'.sz) news).toArray) (b:=b) (o:=o) (cap:=cap) (cells:=(F3 cells.toList (o+xs.length*e'.sz) news).toArray)
    hbin hC hO hown (λb' _ hne=>setRow_other w b b' _ hne) oh rfl rfl rfl
    (by rw[AL];have h63:(xs.length+ys.length)*1<=(xs.length+ys.length)*(24*e'.sz):=CA _ oa;exact⟨hroom,oa⟩) (hrow.set (by rw[B9,hspl])) (by rw[B9,hspl];exact hsz)
    (by show Q3 w G.im e' (xs++ys) ((F3 cells.toList (o+xs.length*e'.sz) news).drop o);rw[A2q (by simpa using hfit)];exact Q3.append (Q3.take hrows (AD _)) s3 ot s2)
   rw[AL]at this;exact⟨_,_,hrun,this⟩
  .exact grow (base:=some ⟨b,o,none⟩) (cap:=cap) (olds:=(cells.toList.drop o).take (xs.length*e'.sz)) oa
    (run_firstCells_some _ _ _ _ _ _ _ (by simp; omega) (λj u hj=>by
     rw[World.cell?_drew,Addr.add_lit,hcell];rw[B0]at hj;split at hj
     .rw[B5]at hj;exact hj
     .cases hj)) ot (Q3.take hrows (AD _))
theorem AI7(hl:Lay P t id)(hm:Z2 P fr free σ w G)(hσ:∀k o,σ' k=some o->σ k=some o)(hself:free self)(hself1:free (self+1))
 {lo hi:X1 SV}{vlo vhi:X1 X2}(hr:YJ σ' self t s lo hi=some r)(hu:Q4 r u)(hs:SR P w G s v)(hlo:LV P w G lo vlo)(hhi:LV P w G hi vhi):
 ∃z,(Instr.sliceAt id v vlo vhi none).run P w=.ok z w/\RD P fr free self σ w G u z w:=by
 have key:∀{k el:Nat} {e:Ty} {xs:KX e.T} {ob:Obj} {bs:KX Nat},t=.slice e->σ k=some ob->G.val k 0=some v->DV fr.owned w G.im e [el] xs none [v] bs->(∀b∈bs,Bk G k ob b)->eE self k el e xs lo hi=some r->
  ∃z,(Instr.sliceAt id v vlo vhi none).run P w=.ok z w/\RD P fr free self σ w G u z w:=by
  intro k el e xs ob bs ht hkσ hval hdv hbk hr2;subst ht;obtain⟨el',hun,hle,_⟩:=hl.slice;have⟨inf,z0,hinf,hisz,_,_,_⟩:=KE hle.inf;have hc2:P.cellsOf el'=e.sz:=by simp[Program.cellsOf,hinf,hisz]
  unfold eE at hr2;split at hr2
  .rename_i l h' hbl hbh;cases hr2;obtain⟨y,hy,rfl⟩:=hu.Q1;obtain⟨h1,h2,h3,h4⟩:=cut?_some hy;have hylen:y.length=h'.toNat-l.toNat:=by rw[h4];simp only[C0,BK];omega
   have m0:=hm.drop k
   have fin:∀{z:X2} {bs':KX Nat},DV fr.owned w G.im e [el] y none [z] bs'->bs'.Nodup->(∀b∈bs',b∈bs)->
    RD P fr free self σ w G ⟨.obj self 0,[(self,some (.dp [el] e y (self+1) none true)),(k,none)]⟩ z w:=by
    intro z bs' d1 d2 d3;obtain ⟨G',g2,m2,m3⟩:=m0.mk_dp hself hself1 (id:=el) (r:=[]) (t:=e) (x:=(y:KX e.T)) d1 d2 (λb hb j o hj hbj=>by
     rw[FU]at hj;by_cases e:j=k
     .grind
     .rw[if_neg e]at hj;exact e (hm.sep j k o ob b hj hkσ hbj (hbk b (d3 b hb))))
    exact ⟨G',g2,by assumption,m3⟩
   rcases hdv.inv1 with⟨rfl,rfl,_⟩|⟨b,o,cap,cells,rfl,hb0,hcap,hrow,hsz,hown,hC,hO,hrows⟩
   .have hsb:=ZA (P:=P) (w:=w) (isS:=true) (len:=0) (cap:=0) (OS hbl hlo) (OS hbh hhi) h1 h2 (by simpa using h3);have hh0:h'.toNat=0:=by simp at h3;omega
    have hl0:l.toNat=0:=oa;have hy0:y=[]:=AK oa;subst hy0;refine⟨.slice none 0 0,?_,fin (bs':=[]) ⟨_,rfl,rfl,.inr (.inl ⟨qu,rfl,rfl,rfl⟩)⟩ AW (λb hb=>by cases hb)⟩;simp only[Instr.sliceAt,Sem.run_bind,run_underlying hun,Result.andThen_ok,Instr.slice,hsb,run_sizeOf w hinf,hc2,hh0,hl0];rfl
   .have hcap1:=hcap.1;have hsb:=ZA (P:=P) (w:=w) (isS:=true) (len:=xs.length) (cap:=cap) (OS hbl hlo) (OS hbh hhi) h1 h2 oa
    have hrun:(Instr.sliceAt id (.slice (some ⟨b,o,none⟩) xs.length cap) vlo vhi none).run P w=
     .ok (.slice (if cap=l.toNat then some ⟨b,o,none⟩else some ⟨b,o+l.toNat*e.sz,none⟩) (h'.toNat-l.toNat) (cap-l.toNat)) w:=by
     simp only[Instr.sliceAt,Sem.run_bind,run_underlying hun,Result.andThen_ok,Instr.slice,hsb,run_sizeOf w hinf,hc2,BG,MJ];rfl
    have hmul:l.toNat*e.sz<=cap*e.sz:=AN _ oa;refine⟨_,hrun,?_⟩;rw[<-hylen];by_cases hcl:cap=l.toNat
    .rw[if_pos hcl];have hy0:y=[]:=AK oa;subst hy0;exact fin (DV.mk1 (xs:=([]:KX e.T)) ⟨AT _,AT _⟩ hrow oc hown hC hO (λi x hx=>by simp at hx)) oh (λb' hb'=>oc)
    .rw[if_neg hcl];refine fin (DV.mk1 ⟨oa,by have:=hcap.2;omega⟩ hrow (by rw[Nat.sub_mul];omega) hown hC hO (λi x hx=>?_)) oh (λb' hb'=>oc);have hx':xs[l.toNat+i]?=some x:=by
      rw[h4,B5,B0]at hx;split at hx
      .exact hx
      .cases hx
     have:=hrows _ _ hx';grind[List.drop_drop,Nat.add_mul,Nat.add_assoc]
  .cases hr2
 unfold YJ at hr;split at hr
 .rename_i e k g;split at hr
  .rename_i el e' xs gk hk;cases hb:(Nat.beq g 0&&e'.same e)with
   |false=>grind
   |true=>rw[hb]at hr;simp only[A7]at hb;have e1:=A5 hb.1;have e3:=Ty.Z7 hb.2;subst e1 e3;have hkσ:=hσ _ _ hk;have⟨_,hety,v',us,bs,k1,k2,k3,k4,k5⟩:=RA.inv (hm.objs _ _ hkσ);have hv:=WB hs;rw[k1]at hv;cases hv;exact key rfl hkσ k1 k5 (λb hb=>(OW k2 k3).2 hb) hr
  .rename_i el e' xs g' hk;cases hb:(Nat.beq g 0&&(Nat.beq g' 0&&e'.same e))with
   |false=>grind
   |true=>rw[hb]at hr;simp only[A7]at hb;have e1:=A5 hb.1;have e2:=A5 hb.2.1;have e3:=Ty.Z7 hb.2.2;subst e1 e2 e3;have hkσ:=hσ _ _ hk;have⟨_,v',k1,k2⟩:=hm.objs _ _ hkσ;have hv:=WB hs;rw[k1]at hv;cases hv;have⟨bs,d1,d2,d3⟩:=RE.dv k2;refine key rfl hkσ k1 d1 (λb hb=>?_) hr;have⟨_,_,cap,cells,e1,_⟩:=k2.slice (d3 b hb);grind[Bk]
  .cases hr
 .cases hr
def Z2.grow1(e:Z2 P fr free σ w G)(a:∀b,b<w.heap.size->w'.heap[b]?=w.heap[b]?)(l:w.heap.size<=w'.heap.size)(y:w'.os=w.os)(m:w'.tape=w.tape)(s:w'.output=w.output):
 PC w G w' G/\Z2 P fr free σ w' G:=by
 have d:Ext w G.im w' G.im:=⟨λb o h=>⟨h,by simp only[World.cell?,a b (e.after.inC b o h)]⟩,λb h=>⟨h,a b (e.after.inO b h)⟩⟩;have p:PC w G w' G:=⟨d,λ_ _ _ h=>h,λ_ _ h=>h,λ_ _ h=>h⟩;refine⟨p,λj o h=>(e.objs j o h).keep p λb x=>⟨a b (LW (e.objs j o h) x),λ_ h=>h,λh=>h⟩,e.sep,?_,e.fresh⟩
 exact e.after.trans (gv':=VU) ⟨d,λb x _=>a b x,l,λ_ _ h=>.inl h,λ_ h=>.inl h,λb o h=>AQ (e.after.inC b o h) l,λb h=>AQ (e.after.inO b h) l,
  y,m,s,e.after.pins.ext d⟩ (λb h=>h.elim)
def AI8{z:X2}(h:i<n):((madeCells #[z] n).toList.drop i).take 1=[z]:=by simp_all[BL,size_madeCells,madeCells,Nat.mod_one]
def AI9{e:Ty}(a:Lay P (.slice e) el):∃i,P.info? el=some i/\i.size=1/\i.bytes<=24/\i.zero=some (.slice none 0 0):=by
 have⟨i,v,b,d,j,l,h⟩:=KE a.inf;have m:v=.slice none 0 0:=by
  simp only[zv]at h;split at h
  .cases h
  .unfold PZ at h;split at h
   .rename_i p;simp only[zc]at p;grind
   .cases h
 subst m;exact⟨i,b,d,j,l⟩
theorem AIA{ids:KX Nat}(V:Lay P t id)(E:Z2 P fr free σ w G)(A:free self)(s:free (self+1)){a b:Int}(U:F_ .i64 b)
 (z:VO self n ids t a b=some r)(hu:Q4 r u)(d:∃l,ids=(match P.underlying id with|some (.slice x)=>x|_=>0)::l):
 ∃v w',(Instr.makeSlice id (.int .i64 a) (.int .i64 b)).run P w=.ok v w'/\RD P fr free self σ w G u v w':=by
 unfold VO at z;split at z
 .rename_i el m q;split at z
  .rename_i lf _;cases I:(E5 (el::m::q) lf).same t with
   |false=>grind
   |true=>
    rw[I]at z;have ht:=Ty.Z7 I;subst ht;cases z;obtain⟨zs,hz,rfl⟩:=hu.Q1;have V:Lay P (.slice (E5 (m::q) lf)) id:=V;obtain⟨L,J,W,Z⟩:=V.slice;obtain⟨l,d⟩:=d;rw[J]at d;injection d with y _;have y:el=L:=y;subst y;obtain⟨h0,M,hB,rfl⟩:=A2v hz;have⟨i,h1,h2,h3,h4⟩:=AI9 (P:=P) (e:=E5 q lf) W;have Q:(i.bytes:Int)*b<=281474976710656:=by
     have O:b=(b.toNat:Int):=oa;have hh:i.bytes*b.toNat<=281474976710656:=by
      have:i.bytes*b.toNat<=b.toNat*24:=by rw[D0];exact CA _ h3
      omega
     rw[O,<-Int.natCast_mul];exact Int.ofNat_le.2 hh
    have R:b<=9223372036854775807:=U.2;have e:=run_make (P:=P) w id el i _ J h1 h4 .i64 .i64 a b h0 M Q R;rw[h2,CI]at e;have p:(Value.slice none 0 0).cells= #[.slice none 0 0]:=rfl;rw[p]at e;obtain ⟨C,m1⟩:=E.grow1 (w':=w.alloc (.cells (madeCells #[.slice none 0 0] b.toNat) el)) (λK h=>by show(w.heap.push _)[K]?=_;grind) oh rfl rfl rfl
    have H:Q9 (w.alloc (.cells (madeCells #[.slice none 0 0] b.toNat) el)) w.heap.size (madeCells #[.slice none 0 0] b.toNat) el:=
     ⟨(0,0),by show(w.heap.push _)[_]?=_;simp,.inl (AD _)⟩
    have B:a.toNat<=b.toNat:=oa
    have⟨G',g2,m2,m3⟩:=m1.mk_dp A s (id:=el) (r:=m::q) (t:=lf) (x:=(List.replicate a.toNat (E5 (m::q) lf).Q8:KX (E5 (m::q) lf).T)) (v:=.slice (some ⟨w.heap.size,0,none⟩) a.toNat b.toNat) (bs:=[w.heap.size])
     ⟨_,rfl,rfl,.inr (.inr ⟨(by intro h; cases h),w.heap.size,0,b.toNat,_,List.replicate a.toNat [],by rw [BA],by rw [BA]; exact ⟨B,oa⟩,H,
      by rw[size_madeCells,BH];exact Nat.le_of_eq (CI _),E.R5,λc h=>absurd (E.after.inC _ _ h) (AA _),λh=>absurd (E.after.inO _ h) (AA _),
      by rw[BA,BA],by rw[A2r],λi x X=>by
       have D:=lt_of_getElem? X;rw[BA]at D;have Y:x=([]:KX (E5 q lf).T):=by rw[D8,if_pos D]at X;exact(A2 X).symm
       subst Y;refine⟨.slice none 0 0,?_,rfl,.inr (.inl ⟨qu,rfl,rfl,?_⟩)⟩
       .show((madeCells #[.slice none 0 0] b.toNat).toList.drop (0+i*1)).take 1=_;rw[BH,CI];exact AI8 oa
       grind⟩)⟩ oh
     (λK N j o hj T=>by
      have:K=w.heap.size:=by simpa using N
      subst this;exact absurd (LW (E.objs j o hj) T) (AA _))
    exact⟨_,_,e,G',C.trans g2,m2,m3⟩
  .cases z
 .cases z
def Z2.ghostE(d:Z2 P fr free σ w G)(hk:free' k)(t:Ty)(B:G.ety k=none)(z:∀j,free j->j≠k:=by first|assumption|exact λj h=>h.2):
 PC w G w (G.Q7 k t)/\Z2 P fr free σ w (G.Q7 k t):=by
 have a:PC w G w (G.Q7 k t):=by refine⟨Ext.refl _ _,λj g u h=>h,λj u h=>?_,λj b h=>h⟩;have:j≠k:=λe=>oc;simp only[Gh.Q7,if_neg this];exact h
 refine⟨a,λj o h=>(d.objs j o h).keep a λb _=>⟨rfl,λ_ h=>h,λh=>h⟩,λi j s x y hi p l m=>?_,d.after,λj p=>?_⟩
 .rw[H8 (d.objs i s hi) a]at l;rw[H8 (d.objs j x p) a]at m;exact d.sep i j s x y hi p l m
 .have A:=d.fresh j p;simp_all[Gh.Q7,if_neg]
theorem DV.three{r:KX Nat}{xs:KX (E5 r t).T}(hd:DV ow w I t (id::r) xs h [v] bs)(a:h≠some []){o len cap:Nat}
 (j:v=.slice (some ⟨b,o,none⟩) len cap):∃cells bss,len=xs.length/\IZ xs.length cap/\Q9 w b cells id/\o+cap*(E5 r t).sz<=cells.size/\ow b/\(∀c,¬I.cell b c)/\¬I.obj b/\List.length bss=xs.length/\bs=b::List.flatten bss/\
  ∀i x,xs[i]?=some x->DV ow w I t r x (VV h i) ((cells.toList.drop (o+i*(E5 r t).sz)).take (E5 r t).sz) (bss.getD i []):=by
 obtain⟨l,h0,d,e⟩:=hd;grind
theorem AIB(hl:Lay P t id)(J:Z2 P fr free σ w G)(z1:∀k o,σ' k=some o->σ k=some o)(A:free self)(N:free (self+1))(O:free (self+2))
 (hr:YK σ' self t s=some r)(hu:Q4 r u)(hs:SR P w G s v):∃z,(Instr.loadAt id v).run P w=.ok z w/\RD P fr free self σ w G u z w:=by
 unfold YK at hr;split at hr
 .rename_i k g i u0;split at hr
  .rename_i D l q lf E gk hk;cases hb:(Nat.beq g 0&&(E5 (l::q) lf).same t)with
   |false=>grind
   |true=>
    rw[hb]at hr;simp only[A7]at hb;have e1:=A5 hb.1;have e2:=Ty.Z7 hb.2;subst e1 e2;cases hr;rw[hu.PB];have m:=z1 _ _ hk;have y9:=uH J m;have⟨h0,R,v',us,bs,k1,k2,k3,k4,k5⟩:=RA.inv (J.objs _ _ m);obtain⟨b,o,len,h6,e',o2,p1,p2,p3,p4,p5,rfl⟩:=S6 hs;rw[k1]at p1;cases p1;rw[R]at p2;cases p2;rw[A3Q]at p4;cases p4;obtain⟨cells,bss,rfl,q1,q2,q3,q4,q5,q6,q7,rfl,q9⟩:=k5.three (xs:=E) h0 rfl;have a1:(E5 (l::q) lf).sz=1:=rfl;have T:=getD_some (d:=(E5 (l::q) lf).Q8) (xs:=(show KX (E5 (l::q) lf).T from E)) p3;have H:=q9 i _ T;rw[uF]at H;have h8:=H;obtain⟨z,hz,y1,_⟩:=h8;rw[hz]at H;have Y:w.cell? ⟨b,o+i*(E5 (l::q) lf).sz,none⟩=some z:=by have:=fC (n:=1) (o:=o+i*(E5 (l::q) lf).sz) q2 0 oa;rw[show(cells.toList.drop (o+i*(E5 (l::q) lf).sz)).take 1=[z]from hz]at this;simpa using this
    have x4:(Instr.loadAt id (.pointer (some ⟨b,o+i*(E5 (l::q) lf).sz+0,none⟩))).run P w=.ok z w:=by have y6:(E5 (l::q) lf).isAgg=false:=rfl;simp only[Instr.loadAt,Sem.run_bind,Instr.sureAddr,Sem.run_pure,Result.andThen_ok,loadVar,ZC hl,y6,CJ,CE,CG];exact tS Y
    refine⟨z,x4,?_⟩;have hi:i<bss.length:=by rw[q7];exact p3
    have h1:=uD hi;have h9:(bss.set i []).flatten=(bss.take i).flatten++(bss.drop (i+1)).flatten:=by rw[fS hi];rfl
    have x0:=AY.1 k4;rw[h1]at x0;have x5:∀c,c∈(bss.set i []).flatten->c∈bss.flatten:=by
     intro c X;rw[h9]at X;rw[h1];rcases AX.1 X with h|h
     .grind
     .grind
    have K:=B2.1 x0.2;have U:=B2.1 K.2.1;have x1:(bss.getD i []).Nodup:=U.1;have x2:(b::(bss.set i []).flatten).Nodup:=by refine AY.2 ⟨λh=>(AY.1 k4).1 (x5 b h),?_⟩;rw[h9];exact B2.2 ⟨K.1,U.2.1,λx hx y hy=>K.2.2 x hx y (BT _ hy)⟩
    have y8:∀c,c∈bss.getD i []->c ∉ b::(bss.set i []).flatten:=by
     intro c X h;rcases B1.1 h with rfl|h
     .grind
     .grind
    let G0:Gh:=((G.Z3 (self+2) 0 (.tuple (List.map IT (b::(bss.set i []).flatten)).toArray)).Z3 (self+1) 0 (.tuple (List.map IT (bss.getD i [])).toArray)).Z3 self 0 z
    have⟨y2,z2⟩:=J.ghost O (.tuple (List.map IT (b::(bss.set i []).flatten)).toArray);have⟨y3,z3⟩:=z2.ghost (k:=self+1) ⟨N,oa⟩ (.tuple (List.map IT (bss.getD i [])).toArray);have⟨y4,z4⟩:=z3.ghost (k:=self) ⟨⟨A,oa⟩,oa⟩ z;obtain ⟨y5,h4⟩:=z4.ghostE (k:=self) A (E5 q lf) (by have:=(J.fresh self A).2.1;exact this);have p:PC w G w (G0.Q7 self (E5 q lf)):=((y2.trans y3).trans y4).trans y5;generalize C:G0.Q7 self (E5 q lf)=G1 at p;have h4:Z2 P fr (λj=>(((free j/\j≠self+2)/\j≠self+1)/\j≠self)) σ w G1:=by rw[<-C];exact h4
    have M:G1.im=G.im:=by rw[<-C];rfl
    have y0:G1.val (self+2) 0=some (.tuple (List.map IT (b::(bss.set i []).flatten)).toArray):=by rw[<-C];have n1:self+2≠self:=oa;have n2:self+2≠self+1:=oa;simp[G0,Gh.Z3,Gh.Q7]
    have V:G1.val (self+1) 0=some (.tuple (List.map IT (bss.getD i [])).toArray):=by rw[<-C];simp[G0,Gh.Z3,Gh.Q7]
    have h3:G1.val self 0=some z:=by rw[<-C];simp[G0,Gh.Z3,Gh.Q7]
    have Z:G1.ety self=some (E5 q lf):=by rw[<-C];simp[Gh.Q7]
    have y7:∀c,Bk G1 k (.dp (D::l::q) lf E (self+2) (some [i]) true) c<->c∈b::(bss.set i []).flatten:=λc=>OW y0 oh;have h7:∀c,Bk G1 self (.dp (l::q) lf ((show KX (E5 (l::q) lf).T from E).getD i (E5 (l::q) lf).Q8) (self+1) none true) c<->c∈bss.getD i []:=λc=>OW V oh;have Q:∀c,Bk G1 k (.dp (D::l::q) lf E gk none true) c<->c∈b::bss.flatten:=λc=>by rw[H8 (J.objs k _ m) p];exact OW k2 k3
    have z7:=h4.drop k;have I:∀j o,EK σ [(k,none)] j=some o->j≠k/\σ j=some o:=by
     intro j o h;rw[FU]at h;by_cases e:j=k
     .grind
     .grind
    have x3:V1 P fr w G1 k (.dp (D::l::q) lf E (self+2) (some [i]) true):=
     ⟨(by intro h; cases h),p.ety _ _ R,_,_,b::(bss.set i []).flatten,p.val _ _ _ k1,y0,oh,x2,⟨_,rfl,rfl,.inr (.inr ⟨(by intro h; cases h),b,o,h6,cells,bss.set i [],rfl,q1,q2,q3,q4,oc,oc,oc,rfl,λj x hx=>by
      rw[uE hi,uG];by_cases e:i=j
      .subst e;rw[if_pos rfl,if_pos rfl];exact ⟨z,hz,y1,.inl ⟨rfl,rfl,by rw[T]at hx;cases hx;have⟨a,cp,e1,e2⟩:=DV.head H;grind⟩⟩
      .rw[if_neg e,if_neg e];exact(q9 j x hx).keep p.ext λ_ _=>⟨rfl,λ_ h=>M▸h,λh=>M▸h⟩⟩)⟩,z,b,o,_,h6,h3,rfl,p3,by simp_all⟩
    have z9:=z7.backO (k:=k) x3 (λh=>y9 h.1.1.1) (λc X j o' B W=>by have⟨e,B⟩:=I j o' B;rw[y7]at X;refine e (J.sep j k o' _ c B m (by rw[<-H8 (J.objs j o' B) p];exact W) ?_);rw[<-H8 (J.objs k _ m) p,Q];grind)
    have L:V1 P fr w G1 self (.dp (l::q) lf ((show KX (E5 (l::q) lf).T from E).getD i (E5 (l::q) lf).Q8) (self+1) none true):=
     ⟨qu,Z,z,_,bss.getD i [],h3,V,oh,x1,H.keep p.ext (λ_ _=>⟨rfl,λ_ h=>M▸h,λh=>M▸h⟩),trivial⟩
    have a0:=z9.backO (k:=self) L (λh=>h.2 rfl) (λc X j o' B W=>by
     rw[h7]at X;rw[FU]at B;by_cases e:j=k
     .grind
     .rw[if_neg e]at B;have⟨_,B⟩:=I j o' B;refine e (J.sep j k o' _ c B m (by rw[<-H8 (J.objs j o' B) p];exact W) ?_);rw[<-H8 (J.objs k _ m) p,Q,h1];grind)
    refine⟨G1,p,?_,[z],rfl,z,h3,y1,rfl⟩;have e3:=GZ (EK σ [(k,none)]) [(self,some (Obj.dp (l::q) lf ((show KX (E5 (l::q) lf).T from E).getD i (E5 (l::q) lf).Q8) (self+1) none true))] [(k,some (Obj.dp (D::l::q) lf E (self+2) (some [i]) true))]
    have e4:EK σ ([(self,some (Obj.dp (l::q) lf ((show KX (E5 (l::q) lf).T from E).getD i (E5 (l::q) lf).Q8) (self+1) none true))]++[(k,some (Obj.dp (D::l::q) lf E (self+2) (some [i]) true))])=
     EK (EK (EK σ [(k,none)]) [(k,some (Obj.dp (D::l::q) lf E (self+2) (some [i]) true))]) [(self,some (Obj.dp (l::q) lf ((show KX (E5 (l::q) lf).T from E).getD i (E5 (l::q) lf).Q8) (self+1) none true))]:=by
     rw[<-e3];funext j;rw[GZ,GZ,FU,FU,FU,FU,FU];by_cases e:j=self
     .rw[if_pos e,if_pos e]
     .grind
    show Z2 P fr (JH free self) (EK σ ([(self,_)]++[(k,_)])) w G1;rw[e4];refine a0.shrink λj B=>?_;have h2:∀d,d<8->j≠self+d:=λd hd e=>by
     have h5:=B.2;rw[e]at h5;have:K0 self (self+d)=true:=by simp only[K0,Nat.blt,A7];exact⟨CH oa,CH oa⟩
     grind
    exact⟨⟨⟨B.1,h2 2 oa⟩,h2 1 oa⟩,h2 0 oa⟩
  .cases hr
 .cases hr
theorem AIC(hl:Lay P t id)(H:Z2 P fr free σ w G)(h4:∀k o,σ' k=some o->σ k=some o)(L:free (self+1)){sv:SV}
 (J:eF σ' self t sv s=some r)(hu:Q4 r u)(hs:SR P w G s v)(a0:SR P w G sv vx):∃w',(Instr.storeAt id v vx).run P w=.ok () w'/\RD P fr free self σ w G u undef w':=by
 unfold eF at J;split at J
 .rename_i k g i u0;split at J
  .rename_i I d q lf xs gk hh hk;cases hb:(Nat.beq g 0&&((E5 (d::q) lf).same t && !(F4 k (GQ sv))))with
   |false=>grind
   |true=>
    rw[hb]at J;simp only[A7,BM]at hb;have e1:=A5 hb.1;have e2:=Ty.Z7 hb.2.1;have z7:k ∉ GQ sv:=λh=>by grind[OU,absurd]
    subst e1 e2;simp only[A4]at J;split at J
    .rename_i y hy;cases J;obtain⟨x0,a9,rfl⟩:=hu.Q1;have x1:sQ i hh=true:=by
      cases h:sQ i hh with
      |true=>rfl
      |false=>grind
     have B:=h4 _ _ hk;have⟨h0,O,v',us,bs,k1,k2,k3,k4,k5⟩:=RA.inv (H.objs _ _ B);obtain⟨b,o,len,h5,e',o2,p1,p2,p3,p4,p5,rfl⟩:=S6 hs;rw[k1]at p1;cases p1;rw[O]at p2;cases p2;rw[A3Q]at p4;cases p4;obtain⟨cells,bss,rfl,q1,q2,q3,q4,q5,q6,q7,rfl,q9⟩:=k5.three (xs:=xs) h0 rfl;have y6:Z2 P fr free σ' w G:=H.sub h4;have y7:CR P w G sv [vx]:=a0.one (by grind[absurd,RU]);have⟨C,⟨_,d1⟩,d2,d3⟩:=A3E y6 hy y7;have d3:∀c∈C,∃j∈GQ sv,∃A,σ j=some A/\Bk G j A c:=λc l=>
      let ⟨j,h1,A,h2,h3⟩:=d3 c l
      ⟨j,h1,A,h4 _ _ h2,h3⟩
     have E:∀c,Bk G k (.dp (I::d::q) lf xs gk hh true) c<->c∈b::bss.flatten:=λc=>OW k2 k3;have y9:∀c∈C,c ∉ b::bss.flatten:=λc l h=>by have⟨j,j1,A,j2,j3⟩:=d3 c l;exact z7 ((H.sep j k A _ c j2 B j3 ((E c).2 h))▸j1)
     have a1:(E5 (d::q) lf).sz=1:=rfl;have z1:=d1;obtain⟨a3,Z,y3,_⟩:=z1;have Z:vx=a3:=AB.1 Z;subst Z;have x4:(i+1)*(E5 (d::q) lf).sz<=h5*(E5 (d::q) lf).sz:=AN _ (by have:=q1.1;omega);have a6:o+i*(E5 (d::q) lf).sz+1<=cells.size:=by rw[C6]at x4;omega
     have⟨fz,a7,a8⟩:=(show Q9 w b cells I from q2);have h8:vx.cells.toList=[vx]:=by rw[fF y3]
     have y4:(Instr.storeAt id (.pointer (some ⟨b,o+i*(E5 (d::q) lf).sz+0,none⟩)) vx).run P w=.ok () (w.setRow b (F3 cells.toList (o+i*(E5 (d::q) lf).sz) [vx]).toArray):=by simp only[Instr.storeAt,Sem.run_bind,Instr.sureAddr,Sem.run_pure,Result.andThen_ok,CG];have:=tT hl (b:=b) (o:=o+i*(E5 (d::q) lf).sz) (v:=vx) q2 (by rw[h8];rfl) oc (by assumption);rw[h8]at this;exact this
     refine⟨_,y4,?_⟩;have hi:i<bss.length:=by rw[q7];exact p3
     have z2:=uD hi;have z3:=fS (c:=C) hi;have x5:=AY.1 k4;have T:=x5.2;rw[z2]at T;have U:=B2.1 T;have y0:=B2.1 U.2.1;have a4:∀c,c∈(bss.take i).flatten->c∈bss.flatten:=λc l=>oc;have a5:∀c,c∈(bss.drop (i+1)).flatten->c∈bss.flatten:=λc l=>oc;have y1:(b::(bss.set i C).flatten).Nodup:=by
      rw[z3];refine AY.2 ⟨λh=>?_,B2.2 ⟨U.1,B2.2 ⟨d2,y0.2.1,λx hx y hy e=>?_⟩,λx hx y hy e=>?_⟩⟩
      .grind
      .grind
      .grind
     have x3:∀c,c∈b::(bss.set i C).flatten->c=b\/c∈bss.flatten\/c∈C:=by
      intro c l;rcases B1.1 l with h|h
      .exact .inl h
      .grind
     have m0:Z2 P fr free (EK σ (gone (GQ sv))) w G:=H.sub λj o h=>by rw[QA]at h;grind
     have Y:∀j A,EK σ (gone (GQ sv)) j=some A->j ∉ GQ sv/\σ j=some A:=by
      intro j A h;rw[QA]at h;by_cases e:j∈GQ sv
      .grind
      .grind
     have⟨K,m1⟩:=m0.ghost L (.tuple (List.map IT (b::(bss.set i C).flatten)).toArray);let G0:Gh:=G.Z3 (self+1) 0 (.tuple (List.map IT (b::(bss.set i C).flatten)).toArray)
     have m1:Z2 P fr (λj=>free j/\j≠self+1) (EK σ (gone (GQ sv))) w G0:=m1;have K:PC w G w G0:=K;have y8:G0.val (self+1) 0=some (.tuple (List.map IT (b::(bss.set i C).flatten)).toArray):=by simp[G0,Gh.Z3]
     let N:X4:=w.setRow b (F3 cells.toList (o+i*(E5 (d::q) lf).sz) [vx]).toArray
     have M:∀V,V≠b->N.heap[V]?=w.heap[V]?:=λV h=>setRow_other w b V _ h;have X:PC w G0 N G0:=PC.of_heap (b:=b) M q5 q6;have y5:(F3 cells.toList (o+i*(E5 (d::q) lf).sz) [vx]).length=cells.size:=by rw[MI ot];simp
     have h6:∀c,c∈bss.flatten->c≠b:=λc l e=>x5.1 (e▸l);have Q:Ext w G.im N G0.im:=K.ext.trans X.ext;have y2:RA fr N G0 k (I::d::q) lf ((show KX (E5 (d::q) lf).T from xs).set i y) (self+1) none true:=by
      refine ⟨(by intro h; cases h),K.ety _ _ O,_,_,b::(bss.set i C).flatten,K.val _ _ _ k1,y8,oh,y1,⟨_,rfl,rfl,.inr (.inr ⟨(by intro h; cases h),b,o,h5,_,bss.set i C,by rw [B4],
       by grind,q2.set (by rw[B9,y5]),oc,q4,q5,q6,oc,rfl,λj x hx=>?_⟩)⟩,trivial⟩
      rw[uF,uE hi];by_cases e:i=j
      .subst e;rw[if_pos rfl];rw[BY p3]at hx;cases hx;have h9:((F3 cells.toList (o+i*(E5 (d::q) lf).sz) [vx]).drop (o+i*(E5 (d::q) lf).sz)).take (E5 (d::q) lf).sz=[vx]:=by rw[a1];have:=A2m (cs:=cells.toList) (ds:=[vx]) (a:=o+i*1) (n:=1) (o:=0) (by assumption) oh;rw[CG]at this;rw[this];unfold F3;simp
       show DV fr.owned N G0.im lf (d::q) y none (((F3 cells.toList (o+i*(E5 (d::q) lf).sz) [vx]).toArray.toList.drop (o+i*(E5 (d::q) lf).sz)).take (E5 (d::q) lf).sz) C;rw[List.toList_toArray,h9];exact d1.keep Q λc l=>⟨M c λe=>y9 c l (e▸AF),λ_ h=>h,λh=>h⟩
      .rw[if_neg e];rw[C4 e]at hx;have l:=q9 j x hx;have W:VV hh j=none:=by
        cases hh with
        |none=>rfl
        |some p=>
         cases p with
         |nil=>rfl
         |cons a p=>
          cases p with
          |cons _ _=>cases x1
          |nil=>have ha:=A5 x1;subst ha;rw[uG,if_neg e]
       rw[W]at l;show DV fr.owned N G0.im lf (d::q) x none (((F3 cells.toList (o+i*(E5 (d::q) lf).sz) [vx]).toArray.toList.drop (o+j*(E5 (d::q) lf).sz)).take (E5 (d::q) lf).sz) (bss.getD j []);rw[List.toList_toArray,A2n ot oc];exact l.keep Q λc l=>⟨M c (h6 c (ZB l)),λ_ h=>h,λh=>h⟩
     have h7:∀c,Bk G0 k (.dp (I::d::q) lf ((show KX (E5 (d::q) lf).T from xs).set i y) (self+1) none true) c<->c∈b::(bss.set i C).flatten:=λc=>OW y8 oh
     have m2:=m1.change (w':=N) (G':=G0) (b:=b) (k:=k) (o':=some (.dp (I::d::q) lf ((show KX (E5 (d::q) lf).T from xs).set i y) (self+1) none true)) (free':=JH free self) X
      (λj A R D z=>by have⟨_,D⟩:=Y j A D;rw[H8 (H.objs j A D) K]at z;exact R (H.sep j k A _ b D B z ((E b).2 AF)))
      (λV _ z9=>M V z9) (by simp[N]) (by simpa[N]using q2.lt) q4 (λ_ _ h=>.inl h) (λ_ h=>.inl h) rfl rfl rfl
      (λA D=>by
       cases D;refine⟨y2,λc l=>?_⟩;rw[h7]at l;rcases x3 c l with h|h|h
       .exact .inl h
       .refine .inr λj oj R m z=>?_;have⟨_,m⟩:=Y j oj m;rw[H8 (H.objs j oj m) K]at z;exact R (H.sep j k oj _ c m B z ((E c).2 (AP _ h)))
       .refine .inr λj oj R m z=>?_;have⟨z4,m⟩:=Y j oj m;rw[H8 (H.objs j oj m) K]at z;have⟨j',j1,a2,j2,j3⟩:=d3 c h;exact z4 ((H.sep j j' oj a2 c m j2 z j3)▸j1))
      (λj R=>by
       have hf:=H.fresh j R.1;have x2:j≠self+1:=λe=>by have:=R.2;grind[fR]
       exact⟨λe=>(oc),⟨R.1,x2⟩,hf.2.1,hf.2.2.1,λg=>by simp only[G0,Gh.Z3,x2,DE,CE];exact hf.2.2.2 g⟩)
     refine⟨G0,K.trans X,?_,_,rfl,trivial⟩;assumption
    .cases J
  .cases J
 .cases J
def Hds(ow:Nat->Prop)(w:X4)(I:Im)(t:Ty)(r:KX Nat)(xs:KX (E5 r t).T)(bss:KX (KX Nat))(cs:KX X2):Prop:=
 ∀(i:Nat) (x:(E5 r t).T),xs[i]?=some x->∃v,cs[i]?=some v/\v.oneCell'=true/\DV ow w I t r x none [v] (bss.getD i [])
theorem AID{l:KX X2}:(l.drop i).take 1=[v]<->l[i]?=some v:=by
 constructor
 .intro h;have:=congrArg (·[0]?) h;grind
 .intro h;have a:i<l.length:=(A3.1 h).1;simp_all[BL,A1,List.take_succ_cons,List.take_zero,A2]
def Hds.keep{r:KX Nat}{xs:KX (E5 r t).T}(h:Hds ow w I t r xs bss cs)(e:Ext w I w' I')
 (p:∀b∈bss.flatten,w'.heap[b]?=w.heap[b]? /\(∀a,I'.cell b a->I.cell b a)/\(I'.obj b->I.obj b)):Hds ow w' I' t r xs bss cs:=λi x s=>by
 have⟨v,j,l,m⟩:=h i x s;exact⟨v,j,l,m.keep e λb d=>p b (ZB d)⟩
def Hds.cells{r:KX Nat}{xs:KX (E5 r t).T}(h:Hds ow w I t r xs bss cs)(e:∀i,i<xs.length->ds[i]?=cs[i]?):Hds ow w I t r xs bss ds:=λi x a=>by have⟨v,b,d,j⟩:=h i x a;grind
def Hds.append{r:KX Nat}{xs ys:KX (E5 r t).T}{d:KX (KX Nat)}{e:KX X2}(m:Hds ow w I t r xs bss cs)(p:Hds ow w I t r ys d ds)(z:bss.length=xs.length)
 (s:∀i,i<xs.length->e[i]?=cs[i]?)(y:∀i,i<ys.length->e[xs.length+i]?=ds[i]?):Hds ow w I t r (xs++ys) (bss++d) e:=λi x h=>by
 rcases Nat.lt_or_ge i xs.length with l|j
 .rw[BC l]at h;have⟨v,a,b,c⟩:=m i x h;grind
 .rw[BI j]at h;have⟨v,a,b,c⟩:=p _ x h;grind
theorem AIE(B:Lay P t id)(m:∀x,P.underlying id=some (.slice x)->el=x)(C:Z2 P fr free σ w G)(l:∀k o,σ' k=some o->σ k=some o)(d:free self)(b:free (self+1))
 {D:SV}(a:eB σ' self el t s D=some r)(M:Q4 r u)(L:SR P w G s v)(p:SR P w G D vx):
 ∃z w',(Builtin.append_ #[id,id] ty #[v,vx]).run P w=.ok z w'/\RD P fr free self σ w G u z w':=by
 have K:∀k o,σ' k=some o->V1 P fr w G k o:=λk o h=>C.objs k o (l k o h);unfold eB at a;split at a
 .rename_i e k g;split at a
  .rename_i A E O Q hk;cases j:(Nat.beq g 0&&(Nat.beq el A&&E.same e))with
   |false=>grind
   |true=>
    rw[j]at a;simp only[A4]at a;simp only[A7]at j;have H:=A5 j.1;have I:=A5 j.2.1;have J:=Ty.Z7 j.2.2;subst H I J;split at a
    .rename_i R y;cases a;obtain⟨T,N,rfl⟩:=M.Q1;exact AI6 (xs:=O) B m C d b (l _ _ hk) L (tW B (KD K y p)) N
    .cases a
  .cases a
 .cases a
theorem AIF(A:Z2 P fr free σ w G)(hn:free n){p c:SV}{Z:KX (Nat×X1 Obj)}(h:eC σ n p c=some Z):
 ∃G',PC w G w G'/\Z2 P fr (λj=>free j/\j≠n) (EK σ Z) w G':=by
 unfold eC at h;split at h
 .rename_i k _ _ _ _ j _;split at h
  .rename_i id d q e J gk i hk;cases hb:Nat.beq gk (j+2)with
   |false=>grind
   |true=>
    rw[hb]at h;have eg:=A5 hb;subst eg;simp only[A4]at h;split at h
    .rename_i h9 s M h3 hj;cases hs:PV h9 (d::q)with
     |false=>grind
     |true=>
      rw[hs]at h;have Q:=u6 hs;subst Q;simp only[A4]at h;split at h
      .rename_i y hy;cases h;obtain⟨et,ex⟩:=Ty.cast?_some hy;have h2:s=e:=by
        have:∀(l:KX Nat),E5 l s=E5 l e->s=e:=by
         intro l;induction l with
         |nil=>intro h;exact h
         |cons a l ih=>intro h;injection h with h;exact ih h
        exact this _ et
       subst h2;cases ex;have h6:k≠j:=λe=>oc;have h8:=uH A hk;have⟨h0,T,v,us,bs,k1,k2,k3,k4,k5⟩:=RA.inv (A.objs _ _ hk);obtain⟨hv,b,o,len,h1,a1,rfl,a2,a3⟩:=RA.hole (A.objs _ _ hk) k1;have⟨_,_,v2,y1,m,c1,c2,c3,c4,c5⟩:=RA.inv (A.objs _ _ hj);have a1:G.val j 0=some hv:=a1;rw[c1]at a1;cases a1;obtain⟨cells,bss,rfl,q1,q2,q3,q4,q5,q6,q7,rfl,q9⟩:=k5.three (xs:=J) h0 rfl;have x5:(E5 (d::q) s).sz=1:=rfl;have hi:i<bss.length:=by rw[q7];exact a2
       have B:∀c,Bk G k (.dp (id::d::q) s J (j+2) (some [i]) true) c<->c∈b::bss.flatten:=λc=>OW k2 k3;have C:∀c,Bk G j (.dp (d::q) s M h3 none true) c<->c∈m:=λc=>OW c2 c3;have x3:∀c∈m,c ∉ b::bss.flatten:=λc D h=>h6 (A.sep k j _ _ c hk hj ((B c).2 h) ((C c).2 D));have h4:=uD hi;have h5:=fS (c:=m) hi;have h7:=AY.1 k4;have E:=h7.2;rw[h4]at E;have H:=B2.1 E;have V:=B2.1 H.2.1;have x1:∀c,c∈(bss.take i).flatten->c∈bss.flatten:=λc D=>oc;have x2:∀c,c∈(bss.drop (i+1)).flatten->c∈bss.flatten:=λc D=>oc;have W:(b::(bss.set i m).flatten).Nodup:=by
        rw[h5];refine AY.2 ⟨λh=>?_,B2.2 ⟨H.1,B2.2 ⟨c4,V.2.1,λx O y hy e=>?_⟩,λx O y hy e=>?_⟩⟩
        .grind
        .grind
        .grind
       have U:∀c,c∈b::(bss.set i m).flatten->c∈b::bss.flatten\/c∈m:=by
        intro c D;rcases B1.1 D with h|h
        .grind
        .grind
       have⟨N,m0⟩:=A.ghost hn (.tuple (List.map IT (b::(bss.set i m).flatten)).toArray);let G0:Gh:=G.Z3 n 0 (.tuple (List.map IT (b::(bss.set i m).flatten)).toArray)
       have N:PC w G w G0:=N;have m0:Z2 P fr (λj=>free j/\j≠n) σ w G0:=m0;have Y:G0.val n 0=some (.tuple (List.map IT (b::(bss.set i m).flatten)).toArray):=by simp[G0,Gh.Z3]
       have x4:G0.im=G.im:=rfl;have X:V1 P fr w G0 k (.dp (id::d::q) s ((show KX (E5 (d::q) s).T from J).set i M) n none true):=by
        refine ⟨(by intro h; cases h),N.ety _ _ T,_,_,b::(bss.set i m).flatten,N.val _ _ _ k1,Y,oh,W,⟨_,rfl,rfl,.inr (.inr ⟨(by intro h; cases h),b,o,h1,cells,bss.set i m,by rw [B4],
         by grind,q2,q3,q4,q5,q6,oc,rfl,λa x O=>?_⟩)⟩,trivial⟩
        rw[uF,uE hi];by_cases z:i=a
        .subst z;rw[if_pos rfl];rw[BY a2]at O;cases O;have x0:(cells.toList.drop (o+i*(E5 (d::q) s).sz)).take (E5 (d::q) s).sz=[hv]:=by show(cells.toList.drop (o+i*1)).take 1=[hv];rw[AID,CI,<-q2.cell];exact a3
         grind
        .rw[if_neg z];rw[C4 z]at O;have:=q9 a x O;rw[uG,if_neg z]at this;assumption
       have m1:=(m0.drop j).drop k;have L:∀a I,EK (EK σ [(j,none)]) [(k,none)] a=some I->a≠k/\a≠j/\σ a=some I:=by
        intro a I h;rw[FU]at h;by_cases z:a=k
        .grind
        .rw[if_neg z,FU]at h;grind
       have m2:=m1.backO (k:=k) X (λh=>h8 h.1) (λc D a I R K=>by
        have⟨z,e2,R⟩:=L a I R;rw[show Bk G0 k (.dp (id::d::q) s ((show KX (E5 (d::q) s).T from J).set i M) n none true) c<->c∈b::(bss.set i m).flatten from OW Y oh]at D;rw[H8 (A.objs a I R) N]at K;rcases U c D with h|h
        .exact z (A.sep a k I _ c R hk K ((B c).2 h))
        .exact e2 (A.sep a j I _ c R hj K ((C c).2 h)))
       refine⟨G0,N,?_⟩
       have e4:EK σ [(k,some (Obj.dp (id::d::q) s ((show KX (E5 (d::q) s).T from J).set i M) n none true)),(j,none)]=
        EK (EK (EK σ [(j,none)]) [(k,none)]) [(k,some (Obj.dp (id::d::q) s ((show KX (E5 (d::q) s).T from J).set i M) n none true))]:=by
        funext a;rw[show([(k,some (Obj.dp (id::d::q) s ((show KX (E5 (d::q) s).T from J).set i M) n none true)),(j,none)]:KX (Nat×X1 Obj))=[(k,some (Obj.dp (id::d::q) s ((show KX (E5 (d::q) s).T from J).set i M) n none true))]++[(j,none)]from rfl,GZ,FU,FU,FU,FU,FU];by_cases z:a=k
        .rw[if_pos z,if_pos z]
        .rw[if_neg z,if_neg z,if_neg z]
       grind
      .cases h
    .cases h
  .cases h
 .cases h
theorem uI{E:Env}{dr:X5}(b:WT P dr E){ty:Ty}(h:VP E id ty=true):∀k v,ty=.map k v->∀x y,P.underlying id=some (.map x y)->O6 P k x=true:=by
 intro k v e x y j;subst e;simp only[VP,A7,b.ky _ _ _ j]at h;obtain⟨d,a⟩:=h;split at a
 .rename_i l hk;have:=Ty.Z7 a;subst this;exact b.eq _ _ d hk
 .cases a
def AIG{E:Env}(j:WT P fr.dr E)(p:Z2 P fr free σ w G)(b:∀k o,σ' k=some o->σ k=some o){t:X1 Ty}(h:SR P w G s v):SR P w G (YR E.fs σ' t s) v:=by
 unfold YR;split
 .rename_i d c f cs;split
  .rename_i F m;have a:CR P w G (.fn f cs) [v]:=h.one oh;have⟨y,x,e,l⟩:=fK (D:=False) (λk o h=>p.objs k o (b k o h)) j.fs (λh=>h.elim) m a;have e:=AB.1 e;subst e;exact⟨_,rfl,HofD.hV (by rw[j.pin];exact l)⟩
  .exact h
 .exact h
def uJ{ps:Array (Nat×Operand)}{ρ:Nat×Operand->SV}(h:∀p∈ps.toList,SR P w G (ρ p) (a.eval p.2)):
 ∀(j:Nat) (q:Nat×SV) (u:Nat×X2),(ps.toList.map λp=>(p.1,ρ p))[j]?=some q->(ps.map λp=>(p.1,a.eval p.2)).toList[j]?=some u->q.1=u.1/\SR P w G q.2 u.2:=by
 grind
theorem AIH{wf:X5}(m:Lay P t id)(d:∀x,P.underlying id=some (.slice x)->el=x)(A:Z2 P fr free σ w G)(l:∀k o,σ' k=some o->σ k=some o)(b:free self)
 {x:SV}(a:YI σ' wf self el t s x=some r)(J:Q4 r u)(I:SR P w G s v)(V:SR P w G x vx):
 ∃z w',(Builtin.append_ #[id,id] ty #[v,vx]).run P w=.ok z w'/\RD P fr free self σ w G u z w':=by
 have U:∀k o,σ' k=some o->V1 P fr w G k o:=λk o h=>A.objs k o (l k o h);unfold YI at a;split at a
 .rename_i e;split at a
  .rename_i X D;have K:Z4 w G.im (.slice e) X vx:=KD U D V;split at a
   .have a:=A2 a;subst a;obtain⟨Y,E,rfl⟩:=J.Q1;obtain⟨c,T,y⟩:=I;have y:c=[.slice none 0 0]:=y;have B:v=.slice none 0 0:=AB.1 ((show c=[v]from T).symm.trans y);subst B;exact tX m d A b (tW m K) E
   .rename_i k g;split at a
    .rename_i H L Z R w' hk;cases j:(Nat.beq g 0&&(Nat.beq R 0&&Nat.beq el H))with
     |false=>grind
     |true=>
      rw[j]at a;simp only[A4]at a;simp only[A7]at j;have M:=A5 j.1;have N:=A5 j.2.1;have O:=A5 j.2.2;subst M N O;split at a
      .rename_i W C;have a:=A2 a;subst a;obtain⟨Y,E,rfl⟩:=J.Q1;obtain⟨Q,ex⟩:=Ty.cast?_some C;have p:L=e:=by injection Q
       subst p;cases ex;exact A2z m d A b (l _ _ hk) I (tW m K) E
      .cases a
    .cases a
   .cases a
  .cases a
 .cases a
theorem AII{L:Ty}{id2:Nat}{wf:X5}(E:Lay P t id)(l:Lay P L id2)(b:∀x,P.underlying id=some (.slice x)->el=x)(H:Z2 P fr free σ w G)(B:∀k o,σ' k=some o->σ k=some o)(a:free self)
 {x:SV}(h:sR σ' wf self el t L s x=some r)(J:Q4 r u)(I:SR P w G s v)(V:SR P w G x vx):
 ∃z w',(Builtin.append_ #[id,id2] ty #[v,vx]).run P w=.ok z w'/\RD P fr free self σ w G u z w':=by
 unfold sR at h;split at h
 .rename_i X;have K:=AH1 l V;unfold YI at h;simp only[SV.asV,SV.as]at h;split at h
  .rename_i D y;obtain⟨_,ex⟩:=Ty.cast?_some y;have ex:FZ X=D:=ex;subst ex;split at h
   .have h:=A2 h;subst h;obtain⟨Y,A,rfl⟩:=J.Q1;obtain⟨c,U,j⟩:=I;have j:c=[.slice none 0 0]:=j;have m:v=.slice none 0 0:=AB.1 ((show c=[v]from U).symm.trans j);subst m;exact tX E b H a K A
   .rename_i k g;split at h
    .rename_i C M Z T w' hk;cases d:(Nat.beq g 0&&(Nat.beq T 0&&Nat.beq el C))with
     |false=>grind
     |true=>
      rw[d]at h;simp only[A4]at h;simp only[A7]at d;have N:=A5 d.1;have O:=A5 d.2.1;have Q:=A5 d.2.2;subst N O Q;split at h
      .rename_i W p;have h:=A2 h;subst h;obtain⟨Y,A,rfl⟩:=J.Q1;obtain⟨R,ex⟩:=Ty.cast?_some p;have e:M=.int .u8:=by injection R
       subst e;cases ex;exact A2z E b H a (B _ _ hk) I K A
      .cases h
    .cases h
   .cases h
  .cases h
 .cases h
theorem AIJ{E:Env}(L:WT P fr.dr E)(M:Z2 P fr free σ w G)(T:∀k o,σ' k=some o->σ k=some o)(R:∀k,self<=k->k<self+8->free k){ρ a3 a2:Operand->SV}
 (C:(∀c x y,o.op≠.pick c x y)->∀x∈o.op.operands,SR P w G (ρ x) (a.eval x))
 (y6:∀c x y,o.op=.pick c x y->SR P w G (ρ c) (a.eval c)/\(a.eval c=.bool true->SR P w G (a3 x) (a.eval x))/\(a.eval c=.bool false->SR P w G (a2 y) (a.eval y)))
 (A:tB E ρ a3 a2 σ' self o=some r)(O:Q4 r u):Q6 P fr.dr o a w (RD P fr free self σ w G u):=by
 have K:free self:=R self (AD _) oa;have ho:∀k o,σ' k=some o->V1 P fr w G k o:=λk o h=>M.objs k o (T k o h);unfold tB at A;cases hop:o.op with
 |move x=>rw[hop]at A;have A:=A2 A;subst A;rw[O.QM];exact Q6.calm M ⟨rfl,_,by simp[execOp,hop],C ou x oz⟩
 |assign x=>rw[hop]at A;have A:=A2 A;subst A;rw[O.QM];exact Q6.calm M ⟨rfl,_,by simp[execOp,hop],C ou x oz⟩
 |pick c x y=>rw[hop]at A;obtain⟨H,D,N⟩:=y6 c x y hop;obtain⟨e1,b,e2,e3⟩:=AGA (P:=P) (w:=w) (G:=G) A O H D N;exact Q6.calm M ⟨e1,_,by simp[execOp,hop,e2,asBool],e3⟩
 |alloc t=>
  rw[hop]at A;simp only at A;split at A
  .rename_i ty B;have A:=A2 A;subst A;rw[O.PB];obtain⟨z,w',H,D⟩:=AGm (L.ty _ _ B) M K;exact Q6.makes ⟨z,w',by simp[execOp,hop,H],D⟩
  .cases A
 |box t x=>
  rw[hop]at A;simp only at A;split at A
  .rename_i ty B;split at A
   .rename_i y hy;have A:=A2 A;subst A;rw[O.PB];obtain⟨z,w',H,D⟩:=AGn (id:=t) (L.ty _ _ B) M K hy (C ou x oz);exact Q6.makes ⟨z,w',by simp[execOp,hop,H],D⟩
   .cases A
  .cases A
 |load t x=>
  rw[hop]at A;simp only at A;split at A
  .rename_i ty B;have X:∃ Z:X5,(bif Z then (match YK σ' self ty (ρ x) with
    |some r=>some r
    |none=>(VK σ' ty (ρ x)).map Z8.v)else s_ σ' ty (ρ x))=some r:=⟨_,A⟩
   clear A;obtain⟨Z,A⟩:=X;cases Z with
   |true=>
    simp only[A4]at A;cases y8:YK σ' self ty (ρ x)with
    |some r1=>rw[y8]at A;have A:=A2 A;subst A;obtain⟨z,H,D⟩:=AIB (self:=self) (L.ty _ _ B) M T K (R _ oa oa) (R _ oa oa) y8 O (C ou x oz);exact Q6.makes ⟨z,w,by simp[execOp,hop,H],D⟩
    |none=>
    rw[y8]at A;simp only at A;cases hl:VK σ' ty (ρ x)with
    |none=>rw[hl]at A;cases A
    |some s=>rw[hl]at A;have A:=A2 A;subst A;rw[O.QM];obtain⟨z,H,D⟩:=A2o (L.ty _ _ B) ho hl (C ou x oz);exact Q6.calm M ⟨rfl,z,by simp[execOp,hop,H],D⟩
   |false=>
   simp only[A8]at A;have J:=C ou x oz;unfold s_ at A;split at A
   .rename_i e y Y;cases hs:e.same ty with
    |false=>rw[hs]at A;cases A
    |true=>rw[hs]at A;have A:=A2 A;subst A;rw[Y]at J;obtain⟨z,hz,rfl⟩:=O.Q1;have hz:y=some z:=hz;subst hz;obtain⟨c,hc,ad,D,N,cc,h4,h5⟩:=J;have hv:a.eval x=.pointer (some ad):=AB.1 ((show c=[a.eval x]from hc).symm.trans D);have y7:=Ty.Z7 hs;subst y7;obtain⟨z',k1,k2⟩:=AGa (P:=P) (w:=w) (G:=G) (L.ty _ _ B) (x:=z) (v:=.pointer (some ad)) ⟨_,rfl,ad,cc,rfl,N,h4,h5⟩;exact Q6.calm M ⟨rfl,z',by simp[execOp,hop,hv,k1],k2⟩
   .cases hl:loadAt σ' ty (ρ x)with
    |none=>rw[hl]at A;cases A
    |some s=>rw[hl]at A;have A:=A2 A;subst A;rw[O.QM];obtain⟨z,H,D⟩:=A2l (L.ty _ _ B) ho hl J;exact Q6.calm M ⟨rfl,z,by simp[execOp,hop,H],D⟩
  .cases A
 |store t x y=>
  rw[hop]at A;simp only at A;split at A
  .rename_i ty B;cases y5:eF σ' self ty (ρ y) (ρ x)with
   |some r1=>rw[y5]at A;have A:=A2 A;subst A;obtain⟨w',H,D⟩:=AIC (self:=self) (L.ty _ _ B) M T (R _ oa oa) y5 O (C ou x oz) (C ou y oz);exact Q6.writes ⟨w',by simp[execOp,hop,H],D⟩
   |none=>
   rw[y5]at A;simp only at A;cases hl:storeAt σ' ty (ρ y) (ρ x)with
   |none=>rw[hl]at A;cases A
   |some s=>rw[hl]at A;have A:=A2 A;subst A;rw[O.PB];obtain⟨k,o'⟩:=s;obtain⟨w',H,D,N⟩:=AGh (self:=self) (L.ty _ _ B) M T hl (C ou x oz) (C ou y oz);exact Q6.writes ⟨w',by simp[execOp,hop,H],G,D,N,⟨_,rfl,trivial⟩⟩
  .cases A
 |extract x i=>rw[hop]at A;obtain⟨H,z,D,N⟩:=AGB (P:=P) (w:=w) (G:=G) A O (C ou x oz);exact Q6.calm M ⟨H,z,by simp[execOp,hop,D],N⟩
 |unOp op t x=>rw[hop]at A;obtain⟨H,z,D,N⟩:=AG9 (P:=P) (w:=w) (G:=G) A O (C ou x oz);exact Q6.calm M ⟨H,z,by simp[execOp,hop,D],N⟩
 |insert t m k v=>
  rw[hop]at A;simp only at A;split at A
  .rename_i ty B;obtain⟨w',H,D⟩:=A39 (self:=self) (L.ty _ _ B) (λh=>uI L h) M T A O (C ou m oz) (C ou k oz) (C ou v oz);exact Q6.writes ⟨w',by simp[execOp,hop,H],D⟩
  .cases A
 |mapUpdate t m k v=>
  rw[hop]at A;simp only at A;split at A
  .rename_i ty B;cases z7:A2P σ' (ρ m)with
   |true=>rw[z7]at A;obtain⟨w',H,D⟩:=AI4 (self:=self) (L.ty _ _ B) M T (R _ oa oa) A O (C ou m oz) (C ou k oz) (C ou v oz);exact Q6.writes ⟨w',by simp[execOp,hop,H],D⟩
   |false=>
   rw[z7]at A;simp only[A8]at A;obtain⟨w',H,D⟩:=A39 (self:=self) (L.ty _ _ B) (λh=>uI L h) M T A O (C ou m oz) (C ou k oz) (C ou v oz);exact Q6.writes ⟨w',by simp[execOp,hop,H],D⟩
  .cases A
 |lookup t m k ok=>
  rw[hop]at A;simp only at A;split at A
  .rename_i ty B;have X:∃ b:X5,(b=true->ok=false)/\(bif b then e9 σ' self ty (ρ m) (ρ k) else d_ σ' (VP E t ty) ty ok (ρ m) (ρ k))=some r:=⟨_,λh=>by simp only[A7,BM]at h;exact h.2,A⟩
   clear A;obtain⟨b,hb,A⟩:=X;cases b with
   |true=>have x1:=hb rfl;subst x1;obtain⟨z,D,N⟩:=AI3 (self:=self) (L.ty _ _ B) M T K (R _ oa oa) A O (C ou m oz) (C ou k oz);exact Q6.makes ⟨z,w,by simp[execOp,hop,D],N⟩
   |false=>
   simp only[A8]at A;obtain⟨H,z,D,N⟩:=AHK (L.ty _ _ B) (λh=>uI L h) ho A O (C ou m oz) (C ou k oz);exact Q6.calm M ⟨H,z,by simp[execOp,hop,D],N⟩
  .cases A
 |fieldAddr t x f=>
  rw[hop]at A;simp only at A;split at A
  .rename_i p B;cases hf:Nat.blt f p.fields with
   |false=>rw[hf]at A;cases A
   |true=>
    rw[hf]at A;rw[C2]at hf;simp only[A4]at A;have J:=C ou x oz;split at A
    .rename_i e y Y;rw[Y]at J;cases hd:(O1 p f (.ref e e.Q8)).isSome with
     |false=>rw[hd]at A;cases A
     |true=>rw[hd]at A;have A:=A2 A;subst A;obtain⟨z,hz,rfl⟩:=O.Q1;have hz:y=some z:=hz;subst hz;obtain⟨s,hs⟩:=Option.isSome_iff_exists.1 ((AGR (z':=z))▸hd:(O1 p f (.ref e z)).isSome=true);obtain⟨c,hc,ad,D,N,cc,h4,h5⟩:=J;have hv:a.eval x=.pointer (some ad):=AB.1 ((show c=[a.eval x]from hc).symm.trans D);obtain⟨z',q2,q3⟩:=A2i (L.ty _ _ B) hf hs (w:=w) (G:=G) (v:=a.eval x) ⟨_,rfl,ad,cc,by rw[hv],N,h4,h5⟩;exact Q6.calm M ⟨rfl,z',by simp[execOp,hop,q2],by rw[hs];exact q3⟩
    .cases hl:O1 p f (ρ x)with
     |none=>rw[hl]at A;cases A
     |some s=>rw[hl]at A;have A:=A2 A;subst A;rw[O.QM];obtain⟨z,D,N⟩:=A2i (L.ty _ _ B) hf hl J;exact Q6.calm M ⟨rfl,z,by simp[execOp,hop,D],N⟩
  .cases A
 |indexAddr t x i=>
  rw[hop]at A;simp only at A;split at A
  .rename_i ty kd n B hi;have x5:=C ou i oz;rw[hi]at x5;obtain⟨e,_⟩:=x5.int;obtain⟨H,z,D,N⟩:=AGS (k:=kd) (L.ty _ _ B) ho A O (C ou x oz);exact Q6.calm M ⟨H,z,by simp[execOp,hop,e,D],N⟩
  .cases A
 |index t x i=>
  rw[hop]at A;simp only at A;split at A
  .rename_i ty kd n B hi;have x5:=C ou i oz;rw[hi]at x5;obtain⟨e,_⟩:=x5.int;obtain⟨H,z,D,N⟩:=AGE (k:=kd) (L.ty _ _ B) A O (C ou x oz);exact Q6.calm M ⟨H,z,by simp[execOp,hop,e,D],N⟩
  .cases A
 |slice t x lo hi mx=>
  rw[hop]at A;cases mx with
  |some _=>cases A
  |none=>
   simp only at A;split at A
   .rename_i ty B;have x2:∀b:X1 Operand,(∀y,b=some y->y∈o.op.operands)->LV P w G (b.map ρ) (b.map a.eval):=by
     intro b hb;cases b with
     |none=>exact trivial
     |some y=>exact C ou y (hb y rfl)
    have X:∃ Z:X5,(match (bif Z then YJ σ' self ty (ρ x) (lo.map ρ) (hi.map ρ) else none) with
     |some r=>some r
     |none=>dZ σ' ty (ρ x) (lo.map ρ) (hi.map ρ))=some r:=⟨_,A⟩
    clear A;obtain⟨Z,A⟩:=X;cases y3:(bif Z then YJ σ' self ty (ρ x) (lo.map ρ) (hi.map ρ)else none)with
    |some r1=>
     rw[y3]at A;have A:=A2 A;subst A;cases Z with
     |false=>cases y3
     |true=>
     obtain⟨z,D,N⟩:=AI7 (self:=self) (L.ty _ _ B) M T K (R _ oa oa) y3 O (C ou x oz) (x2 lo (λy hy=>by simp[hop,Op.operands,hy])) (x2 hi (λy hy=>by simp[hop,Op.operands,hy]));exact Q6.makes ⟨z,w,by simp[execOp,hop,D],N⟩
    |none=>
    rw[y3]at A;simp only at A;obtain⟨H,z,D,N⟩:=AGU (L.ty _ _ B) ho A O (C ou x oz) (x2 lo (λy hy=>by simp[hop,Op.operands,hy])) (x2 hi (λy hy=>by simp[hop,Op.operands,hy]));exact Q6.calm M ⟨H,z,by simp[execOp,hop,D],N⟩
   .cases A
 |makeInterface t x=>
  rw[hop]at A;simp only at A;split at A
  .rename_i ta tu b3 b7;cases hi:ta.isIface with
   |true=>rw[hi]at A;cases A
   |false=>
    rw[hi]at A;simp only[A8]at A;split at A
    .rename_i y hy;cases hj:OQ t ta y tu with
     |none=>rw[hj]at A;cases A
     |some z=>rw[hj]at A;have A:=A2 A;subst A;rw[O.QM];have hv:=KD ho hy (C ou x oz);obtain⟨v,D,N⟩:=AHN (P:=P) (w:=w) (G:=G) (L.ty _ _ b3) hi hv hj;exact Q6.calm M ⟨rfl,v,by simp[execOp,hop,D],N⟩
    .cases A
  .cases A
 |makeSlice t l c=>
  rw[hop]at A;simp only at A;split at A
  .rename_i e x y B hl hc;have z4:=C ou l oz;have z2:=C ou c oz;rw[hl]at z4;rw[hc]at z2;obtain⟨e1,_⟩:=z4.int;obtain⟨e2,e3⟩:=z2.int;have X:∃ dd:Nat,(match VO self dd (TI E.el dd t) (.slice e) x y with
    |some r=>some r
    |none=>some (Z8.may (KX e.T) (mks? (24*e.sz) x y e.Q8) [] λzs=>⟨.obj self 0,[(self,some (.sl (E.el t) e zs 0 (match o.dst with|some d=>E.wr d|none=>false)))]⟩))=some r:=⟨_,A⟩
   clear A;obtain⟨dd,A⟩:=X;cases y2:VO self dd (TI E.el dd t) (.slice e) x y with
   |some r1=>
    rw[y2]at A;have A:=A2 A;subst A;obtain ⟨z,w',H,D⟩:=AIA (self:=self) (id:=t) (L.ty _ _ B) M K (R _ oa oa) e3 y2 O (by
     obtain⟨el,a1,_,_⟩:=(show Lay P (.slice e) t from L.ty _ _ B).slice;cases dd with
     |zero=>exact absurd y2 (by simp[TI,VO])
     |succ n=>exact⟨TI E.el n el,by simp only[TI,a1,L.el _ _ a1]⟩)
    exact Q6.makes ⟨z,w',by simp[execOp,hop,e1,e2,H],D⟩
   |none=>
   rw[y2]at A;simp only at A;have A:=A2 A;subst A;obtain⟨zs,hz,rfl⟩:=O.Q1;obtain⟨z,w',H,D⟩:=AGp (wr:=(match o.dst with|some d=>E.wr d|none=>false)) (L.ty _ _ B) M K e3 hz (λx J=>L.el _ _ J);exact Q6.makes ⟨z,w',by simp[execOp,hop,e1,e2,H],D⟩
  .cases A
 |range t m=>
  rw[hop]at A;simp only at A;split at A
  .rename_i ty B;unfold A2Q at A;split at A
   .rename_i k v;split at A
    .rename_i es a8;have A:=A2 A;subst A;rw[O.PB];have J:=KD (λk o h=>M.objs k o (T k o h)) a8 (C ou m oz);obtain⟨z,w',N,h4⟩:=AHS (L.ty _ _ B) M K J;exact Q6.makes ⟨z,w',by simp[execOp,hop,N],h4⟩
    .cases A
   .cases A
  .cases A
 |makeMap t h=>
  rw[hop]at A;simp only at A;split at A
  .rename_i k v B;have x0:∃b,∃Z:X5,(bif b then(bif Z then A2O (E.el t) self k v else some (Z8.pure ⟨.obj self 0,[(self,some (.mp k v [] true))]⟩))else none)=some r/\(b=true->∀x,h.map a.eval=some x->∃kd n,x=.int kd n):=by
    refine⟨_,_,A,λhb x J=>?_⟩;cases h with
    |none=>cases J
    |some y=>
     have hy:=C ou y oz;have J:a.eval y=x:=A2 J;simp only at hb;split at hb
     .rename_i kd n Y;rw[Y]at hy;exact⟨kd,n,by rw[<-J];exact hy.int.1⟩
     .cases hb
   obtain⟨b,Z,H,D⟩:=x0;cases b with
   |false=>cases H
   |true=>
    cases Z with
    |true=>
     simp only[A4]at H;cases v<;>first|(cases H;done)|skip
     rename_i e B;have H:=A2 H;subst H;rw[O.PB];obtain⟨z,w',N,h4⟩:=AI2 (el:=E.el t) (L.ty _ _ B) M K (R _ oa oa) (D rfl);exact Q6.makes ⟨z,w',by simp[execOp,hop,N],h4⟩
    |false=>
    have H:=A2 H;subst H;rw[O.PB];obtain⟨z,w',N,h4⟩:=AGy (L.ty _ _ B) M K (D rfl);exact Q6.makes ⟨z,w',by simp[execOp,hop,N],h4⟩
  .cases A
 |build t ps=>
  rw[hop]at A;simp only at A;split at A
  .rename_i ty B;have X:∃Z:X5,(bif Z then YD σ' ty (ps.toList.map λp=>(p.1,ρ p.2))else dY σ' ty (ps.toList.map λp=>(p.1,YR E.fs σ' (tA ty p.1) (ρ p.2))))=some r:=⟨_,A⟩;clear A;obtain⟨Z,A⟩:=X;cases Z with
   |true=>obtain⟨H,z,D,N⟩:=AGv (L.ty _ _ B) M T A O (vs:=ps.map λp=>(p.1,a.eval p.2)) oh (uJ (ρ:=λp=>ρ p.2) λp hp=>C ou p.2 (by simp[hop,Op.operands];exact⟨p.1,by simpa using hp⟩));exact Q6.calm M ⟨H,z,by simp[execOp,hop,D],N⟩
   |false=>obtain⟨H,z,D,N⟩:=AGs (L.ty _ _ B) M T A O (vs:=ps.map λp=>(p.1,a.eval p.2)) oh (uJ (ρ:=λp=>YR E.fs σ' (tA ty p.1) (ρ p.2)) λp hp=>AIG L M T (C ou p.2 (by simp[hop,Op.operands];exact⟨p.1,by simpa using hp⟩)));exact Q6.calm M ⟨H,z,by simp[execOp,hop,D],N⟩
  .cases A
 |buildSlice t len ps=>
  rw[hop]at A;simp only at A;split at A
  .rename_i e B;split at A
   .rename_i xs J;have A:=A2 A;subst A;rw[O.PB];cases hz:Nat.beq len 0 with
    |true=>
     rw[hz]at J;have e0:=A5 hz;subst e0;simp only[A4]at J;split at J
     .rename_i b0;cases J;have a5:ps= #[]:=by simpa using b0
      subst a5;obtain⟨z,w',D,N⟩:=AGx (wr:=(match o.dst with|some d=>E.wr d|none=>false)) (L.ty _ _ B) M K (λx J=>L.el _ _ J);exact Q6.makes ⟨z,w',by simp[execOp,hop,D],N⟩
     .cases J
    |false=>
    have J:(bif Nat.blt 0 len&&Nat.ble (len*e.sz) 16777216 then RZ σ' e (ps.toList.map λp=>(p.1,ρ p.2)) (List.replicate len e.Q8)else none)=some xs:=by
     rw[hz]at J;have z9:Nat.blt 0 len=true:=by rw[C2];apply Nat.pos_of_ne_zero;intro e0;rw[e0]at hz;cases hz
     rw[z9];exact J
    obtain⟨z,w',D,N⟩:=AGw (wr:=(match o.dst with|some d=>E.wr d|none=>false)) (L.ty _ _ B) M T K J (vs:=ps.map λp=>(p.1,a.eval p.2)) oh (λx J=>L.el _ _ J) (uJ λp hp=>C ou p.2 (by simp[hop,Op.operands];exact⟨p.1,by simpa using hp⟩));exact Q6.makes ⟨z,w',by simp[execOp,hop,D],N⟩
   .cases A
  .cases A
 |binOp op t x y z=>
  rw[hop]at A;simp only at A;split at A
  .rename_i r0 V;have A:=A2 A;subst A;obtain⟨e1,v,e2,e3⟩:=AG7 (P:=P) (w:=w) (G:=G) V O (C ou x oz) (C ou y oz) (λq hq=>L.ty _ _ hq) x y;exact Q6.calm M ⟨e1,v,by simp only[execOp,hop,Sem.run_bind]at e2 ⊢;rw[e2];rfl,e3⟩
  split at A
  .rename_i r0 V;have A:=A2 A;subst A;unfold A2I at V;split at V
   .rename_i ty B;cases x1:(E.eq t&&A2H ty)with
    |false=>rw[x1]at V;cases V
    |true=>
     rw[x1]at V;simp only[A4]at V;simp only[A7]at x1;split at V
     .rename_i xu xv b5 b6;split at V
      .rename_i bb a6;have ha:∃p,ty=.agg p:=by cases ty<;>first|exact⟨_,rfl⟩|cases x1.2
       have H:=KW b5 (C ou x oz);have D:=KW b6 (C ou y oz);obtain⟨q1,q2⟩:=AGW (op:=op) (ox:=x) (oy:=y) (L.ty _ _ B) ha (L.eq _ _ x1.1 B) H D a6;cases op<;>simp only[VH,AJ]at V<;>first|(cases V;done)|skip
       .subst V;rw[O.QM];have e2:=q1 rfl;exact Q6.calm M ⟨rfl,.bool bb,by simp only[execOp,hop,Sem.run_bind]at e2 ⊢;rw[e2];rfl,SR.W9 _⟩
       .subst V;rw[O.QM];have e2:=q2 rfl;exact Q6.calm M ⟨rfl,.bool (!bb),by simp only[execOp,hop,Sem.run_bind]at e2 ⊢;rw[e2];rfl,SR.W9 _⟩
      .cases V
     .cases V
   .cases V
  have x0:∃b,(bif b then dX op (ρ x) (ρ y)else none)=some r/\(b=true->∀c,ρ x=.val .bool c->P.underlying t=some .bool):=by
   refine⟨_,A,λhb c hc=>?_⟩;rw[hc]at hb;simp only at hb;split at hb
   .rename_i ht;exact(L.ty _ _ ht).bool
   .cases hb
  obtain⟨b,H,D⟩:=x0;cases b with
  |false=>cases H
  |true=>obtain⟨e1,v,e2,e3⟩:=AG8 (P:=P) (w:=w) (G:=G) H O (C ou x oz) (C ou y oz) t x y (D rfl);exact Q6.calm M ⟨e1,v,by simp only[execOp,hop,Sem.run_bind]at e2 ⊢;rw[e2];rfl,e3⟩
 |makeFunc fn first U=>
  rw[hop]at A;cases fn with
  |func f=>
   simp only at A;split at A
   .rename_i y1;have a9:first= #[]:=by simpa using y1
    subst a9;have X:∃ Z:X5,(bif Z then (match E.ty o.type with
     |some (.hV d c)=>(PU false E.fs σ' d c (.fn f (SV.ofList (U.toList.map ρ)))).map λF=>Z8.v (.val (.hV d c) (some F:X1 (d.T->X1 c.T)))
     |_=>none)else some (.v (.fn f (SV.ofList (U.toList.map ρ)))))=some r:=⟨_,A⟩
    clear A;obtain⟨Z,A⟩:=X;have a7:CR P w G (.fn f (SV.ofList (U.toList.map ρ))) [.func (.func f) #[] (U.map a.eval)]:=by
     refine⟨U.map a.eval,rfl,?_⟩;refine t_ oh λj s v H D=>?_;rw[AS]at H;rw[DN,AS]at D;cases hp:U.toList[j]? with
     |none=>rw[hp]at H;cases H
     |some p=>rw[hp]at H D;cases H;cases D;have h8:=AE hp;exact C ou p (by simp[hop,Op.operands];simpa using h8)
    cases Z with
    |true=>
     simp only[A4]at A;split at A
     .rename_i d c B;cases hh:PU false E.fs σ' d c (.fn f (SV.ofList (U.toList.map ρ)))with
      |none=>rw[hh]at A;cases A
      |some F=>rw[hh]at A;have A:=A2 A;subst A;rw[O.QM];obtain⟨f',c2,e1,e2⟩:=fK (D:=False) (λk o h=>M.objs k o (T k o h)) L.fs (λh=>h.elim) hh a7;injection e1 with e1 _;refine Q6.calm M ⟨rfl,.func (.func f) #[] (U.map a.eval),by simp[execOp,hop,Instr.makeFunc],_,rfl,?_⟩;rw[e1];exact HofD.hV (by rw[L.pin];exact e2)
     .cases A
    |false=>
    have A:=A2 A;subst A;rw[O.QM];refine Q6.calm M ⟨rfl,.func (.func f) #[] (U.map a.eval),by simp[execOp,hop,Instr.makeFunc],_,rfl,U.map a.eval,rfl,?_⟩;refine t_ oh λj s v H D=>?_;rw[AS]at H;rw[DN,AS]at D;cases hp:U.toList[j]? with
    |none=>rw[hp]at H;cases H
    |some p=>rw[hp]at H D;cases H;cases D;have h8:=AE hp;exact C ou p (by simp[hop,Op.operands];simpa using h8)
   .cases A
  |_=>cases A
 |nilCheck x=>
  rw[hop]at A;have J:=C ou x oz;have y0:∀{s:SV} {ad:Addr},a.eval x=.pointer (some ad)->SR P w G s (.pointer (some ad))->u=⟨s,[]⟩->Q6 P fr.dr o a w (RD P fr free self σ w G u):=by intro s ad H D N;subst N;exact Q6.calm M ⟨rfl,_,by simp only[execOp,hop,H];rfl,D⟩
  have z1:∀{s:SV} {f:Nat} {vs:Array X2},a.eval x=.func (.func f) #[] vs→SR P w G s (.func (.func f) #[] vs)→u=⟨s,[]⟩→Q6 P fr.dr o a w (RD P fr free self σ w G u):=by intro s f vs H D N;subst N;exact Q6.calm M ⟨rfl,_,by simp only[execOp,hop,H];rfl,D⟩
  simp only at A;split at A
  .rename_i k p q Y;have A:=A2 A;subst A;rw[Y]at J;obtain⟨b,t,oo,_,_,_,hv⟩:=O5 J;exact y0 hv (hv▸J) O.QM
  .rename_i k p i q uu Y;have A:=A2 A;subst A;rw[Y]at J;obtain⟨b,t,oo,n,e,o',_,_,_,_,_,_,hv⟩:=fB J;exact y0 hv (hv▸J) O.QM
  .rename_i t y Y;have A:=A2 A;subst A;rw[Y]at J;obtain⟨ad,c,hv,_⟩:=TO J;exact y0 hv (hv▸J) O.QM
  .rename_i e y Y;have A:=A2 A;subst A;rw[Y]at J;obtain⟨z,hz,rfl⟩:=O.Q1;have hz:y=some z:=hz;subst hz;obtain⟨c,hc,ad,D,N,cc,h4,h5⟩:=J;have hv:a.eval x=.pointer (some ad):=AB.1 ((show c=[a.eval x]from hc).symm.trans D);exact y0 (s:=.ref e z) hv ⟨_,rfl,ad,cc,rfl,N,h4,h5⟩ rfl
  .rename_i d c y Y;have A:=A2 A;subst A;rw[Y]at J;obtain⟨F,hF,rfl⟩:=O.Q1;have hF:y=some F:=hF;subst hF;obtain⟨cc,hc,D⟩:=J;obtain⟨f,vs,N,h4⟩:=A2X D;have hv:a.eval x=.func (.func f) #[] vs:=AB.1 ((show cc=[a.eval x]from hc).symm.trans N);exact z1 (s:=.hof false d c F) hv ⟨_,rfl,f,vs,rfl,by rw[<-L.pin];exact⟨h4.1,λw' I' Y M x l J y hy=>(h4.2 w' I' Y M x l J y hy).mono λ_ _ ⟨rv,I'',q1,q2,q3,_⟩=>⟨rv,I'',q1,q2,q3,λh=>om⟩⟩⟩ rfl
  .cases A
 |convert st t x=>
  rw[hop]at A;simp only at A;have J:=C ou x oz;split at A
  .rename_i sy ty b2 B;have z3:=L.ty _ _ b2;have h9:∃d,P.underlying st=some d:=let ⟨d,hd,_⟩:=z3.isAgg;⟨d,hd⟩
   have x3:=L.ty _ _ B;have X:∃Z:X5,(bif Z then sZ self (E.el t) ty (ρ x)else sY σ' sy ty (ρ x))=some r:=⟨_,A⟩;clear A;obtain⟨Z,A⟩:=X;cases Z with
   |true=>
    simp only[A4]at A;unfold sZ at A;split at A
    .rename_i s Y;have A:=A2 A;subst A;rw[O.PB];rw[Y]at J;obtain⟨z,w',H,D⟩:=AH3 L.pin (wr:=true) x3 (λx J=>L.el _ _ J) h9 M K J;exact Q6.makes ⟨z,w',by simp[execOp,hop,H],D⟩
    .cases A
   |false=>
   simp only[A8]at A;unfold sY at A;split at A
   .split at A
    .rename_i s Y;have A:=A2 A;subst A;rw[O.QM];rw[Y]at J;obtain⟨z,w',H,D⟩:=AH2 x3 h9 M J;exact Q6.makes ⟨z,w',by simp[execOp,hop,H],D⟩
    .cases A
   .split at A
    .rename_i s Y;rw[Y]at J;obtain⟨H,z,D,N⟩:=A3A (t:=.str) x3 h9 (s:=.val .str s) rfl (show Q4 (.v (.val .str s)) u from by have:=A2 A;rw[this];exact O) J;exact Q6.calm M ⟨H,z,by simp[execOp,hop,D],N⟩
    .rename_i k n Y;have A:=A2 A;subst A;rw[O.QM];rw[Y]at J;obtain⟨z,D,N⟩:=AHR x3 h9 J;exact Q6.calm M ⟨rfl,z,by simp[execOp,hop,D],N⟩
    .cases hs:sy.same (.slice (.int .u8))with
     |false=>rw[hs]at A;cases A
     |true=>
      rw[hs]at A;have es:=Ty.Z7 hs;subst es;simp only[A4]at A;split at A
      .rename_i xs b4;have A:=A2 A;subst A;obtain⟨s,b1,rfl⟩:=O.Q1;obtain⟨z,D,N⟩:=AH6 (G:=G) x3 z3 (KD ho b4 J) b1;exact Q6.calm M ⟨rfl,z,by simp[execOp,hop,D],N⟩
      .cases A
   .obtain⟨H,z,D,N⟩:=A3A x3 h9 A O J;exact Q6.calm M ⟨H,z,by simp[execOp,hop,D],N⟩
  .cases A
 |call c=>
  obtain⟨a4,as,ts⟩:=c;rw[hop]at A;cases a4 with
  |invoke ro m=>
   simp only at A;have H:=C ou ro (by simp[hop,Op.operands,Call.operands]);split at A
   .rename_i c W B;exact AI1 L.fs L.drs L.mt M hop W H A O
   .cases A
  |value fo=>
   have H:=C ou fo (by simp[hop,Op.operands,Call.operands]);exact AHy L.pin L.fs L.drs L.drE M T R hop H oh (λj s x hj J=>by rw[AS,J]at hj;cases hj;have h8:=AE J;exact C ou x (by simp[hop,Op.operands,Call.operands];right;simpa using h8)) A O
  |builtin b=>
   have Q:∀x∈as.toList,SR P w G (ρ x) (a.eval x):=λx J=>C ou x (by simp[hop,Op.operands,Call.operands];simpa using J);cases b<;>first|(cases A;done)|skip
   case append=>
    rcases W:as.toList with _|⟨s,_|⟨x,_|⟨y,rr⟩⟩⟩<;>simp only[W]at A<;>first|(cases A;done)|skip
    rcases hts:ts.toList with _|⟨t,_|⟨t',_|⟨b8,rr⟩⟩⟩<;>simp only[hts]at A<;>first|(cases A;done)|skip
    cases y9:Nat.beq t t' with
    |false=>
     rw[y9]at A;simp only[A8]at A;split at A
     .rename_i ty c1 B a0;have h7:as= #[s,x]:=by apply C9;simpa using W
      have x4:ts= #[t,t']:=by apply C9;simpa using hts
      subst h7 x4;obtain⟨z,w',H,D⟩:=AII (ty:=o.type) (wf:=(match o.dst with|some d=>E.wr d|none=>false)) (L.ty _ _ B) (L.ty _ _ a0) (λx J=>L.el _ _ J) M T K A O (Q s oh) (Q x oh);exact Q6.makes ⟨z,w',by simp[execOp,hop,resolve,invoke,builtin,H],D⟩
     .cases A
    |true=>
     rw[y9]at A;have:=A5 y9;subst this;simp only[A4]at A;split at A
     .rename_i ty B;have h7:as= #[s,x]:=by apply C9;simpa using W
      have x4:ts= #[t,t]:=by apply C9;simpa using hts
      subst h7 x4;cases y4:eB σ' self (E.el t) ty (ρ s) (ρ x)with
      |some r1=>rw[y4]at A;have A:=A2 A;subst A;obtain⟨z,w',H,D⟩:=AIE (ty:=o.type) (L.ty _ _ B) (λx J=>L.el _ _ J) M T K (R _ oa oa) y4 O (Q s oh) (Q x oh);exact Q6.makes ⟨z,w',by simp[execOp,hop,resolve,invoke,builtin,H],D⟩
      |none=>
      rw[y4]at A;simp only at A;obtain⟨z,w',H,D⟩:=AIH (ty:=o.type) (wf:=(match o.dst with|some d=>E.wr d|none=>false)) (L.ty _ _ B) (λx J=>L.el _ _ J) M T K A O (Q s oh) (Q x oh);exact Q6.makes ⟨z,w',by simp[execOp,hop,resolve,invoke,builtin,H],D⟩
     .cases A
   case len=>
    rcases W:as.toList with _|⟨x,_|⟨y,rr⟩⟩<;>simp only[W]at A<;>first|(cases A;done)|skip
    rcases hts:ts.toList with _|⟨t,_|⟨t',rr⟩⟩<;>simp only[hts]at A<;>first|(cases A;done)|skip
    split at A
    .rename_i ty B;have h7:as= #[x]:=by apply C9;simpa using W
     have x4:ts= #[t]:=by apply C9;simpa using hts
     subst h7 x4;obtain⟨H,z,D,N⟩:=AGG (L.ty _ _ B) ho A O (Q x oh) #[t] rfl o.type;exact Q6.calm M ⟨H,z,by simp[execOp,hop,resolve,invoke,builtin,D],N⟩
    .cases A
   case max=>
    rcases W:as.toList with _|⟨x,_|⟨y,_|⟨yy,rr⟩⟩⟩<;>simp only[W]at A<;>first|(cases A;done)|skip
    .have h7:as= #[x,y]:=by apply C9;simpa using W
     subst h7;split at A
     .rename_i k m l n J hy;have H:=Q x oh;have D:=Q y oh;rw[J]at H;rw[hy]at D;obtain⟨e1,e2⟩:=H.int;obtain⟨e3,e4⟩:=D.int;cases hk:ON k l with
      |false=>rw[hk]at A;cases A
      |true=>rw[hk]at A;have:=V8 hk;subst this;have A:=A2 A;subst A;rw[O.QM];obtain⟨z,h5,h6⟩:=AHP (P:=P) (w:=w) (G:=G) ts o.type e2 e4;exact Q6.calm M ⟨rfl,z,by simp[execOp,hop,resolve,invoke,builtin,e1,e3,h5],h6⟩
     .cases A
   case min=>
    rcases W:as.toList with _|⟨x,_|⟨y,_|⟨yy,rr⟩⟩⟩<;>simp only[W]at A<;>first|(cases A;done)|skip
    .have h7:as= #[x,y]:=by apply C9;simpa using W
     subst h7;split at A
     .rename_i k m l n J hy;have H:=Q x oh;have D:=Q y oh;rw[J]at H;rw[hy]at D;obtain⟨e1,e2⟩:=H.int;obtain⟨e3,e4⟩:=D.int;cases hk:ON k l with
      |false=>rw[hk]at A;cases A
      |true=>rw[hk]at A;have:=V8 hk;subst this;have A:=A2 A;subst A;rw[O.QM];obtain⟨z,h5,h6⟩:=AHO (P:=P) (w:=w) (G:=G) ts o.type e2 e4;exact Q6.calm M ⟨rfl,z,by simp[execOp,hop,resolve,invoke,builtin,e1,e3,h5],h6⟩
     .cases A
 |_=>cases hop▸A
end
end Go.Ev
