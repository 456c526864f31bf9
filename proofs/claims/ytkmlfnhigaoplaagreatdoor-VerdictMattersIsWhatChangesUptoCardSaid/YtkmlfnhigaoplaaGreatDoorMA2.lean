/-
  The law as plain Lean, second part: bills, matching.
-/
import Derived.Test.YtkmlfnhigaoplaaGreatDoorMA1
set_option linter.all false
set_option maxRecDepth 100000
noncomputable section
namespace Go.Ev.Pv
def LX{α:Type}{m:Option α}{v:α}(h:Tot m λr=>r=v):m=some v:=let ⟨_,h1,h2⟩:=h;h2▸h1
def E_{X R σ:Type}{r:(X->Option R)->X->Option R}(n:Nat)(enc:σ->Int->X)(J:Nat->σ->Prop){Q:R->Prop}(j:n<4611686018427387904)
 (h:∀next s (i:Nat),i<n->J i s->(∀d,J (i+1) d->Tot (next (enc d ((i:Int)+1))) Q)->Tot (r next (enc s (i:Int))) Q)
 (a:∀next s,J n s->Tot (r next (enc s (n:Int))) Q)(s0:σ)(h0:J 0 s0):Tot (DX r fuel (enc s0 0)) Q:=by
 have key:∀(m i k:Nat) s,i+m=n->m<k->J i s->Tot (DX r k (enc s (i))) Q:=by
  intro m;induction m with
  |zero=>
   intro i k s hi hk b;cases k with
   |zero=>omega
   |succ k=>
    rw[show i=n by omega]at b ⊢;exact a _ s b
  |succ m l=>
   intro i k s hi hk b;cases k with
   |zero=>omega
   |succ k=>
    refine h _ s i oa b λd e=>?_;grind
 have:=key n 0 fuel s0 oa (by unfold fuel;omega) h0;exact this
def EU{i:Nat}(h:i<4611686018427387904):IntKind.i64.wrap ((i:Int)+1)=(i:Int)+1:=EG oa oa
theorem ER{α:Type}{l:List α}{i:Nat}{x:α}(h:l[i]?=some x):at? l (i:Int)=some x:=by
 assumption
def ANa{n i:Nat}(h:i<n):in? n (i:Int)=some ():=by
 grind[in?,decide_eq_true,Int.natCast_nonneg]
theorem E0(i n:Nat):decide ((i:Int)<(n:Int))=decide (i<n):=by
 simp
def WR(s:Int):Prop:=0<=s/\s<65536
def bt(s:Int)(i:Nat):Bool:=s.toNat.testBit i
abbrev MI:=DK×(Int×List ((Bool×Bool×DK)×(Bool×Bool×DK)))×Int
abbrev SB:=DK×DK×List MI×Bool
abbrev O4:=DK×DK
abbrev ANb:=Int×(List (DK×(List DK)×DK×Int×Bool×DK×(List (DK×Int×(List (Int×DK))×(List DK)×(List DK)))))×(List Int)
abbrev GT:=List SB×List MI×Int×List O4×List DK×Bool×ANb
def ANc{α:Type}(p:α->Bool)(l:List α):Int:=match l.findIdx? p with
 |some i=>i
 |none=>-1
def KT(l:List O4)(name:DK):DK×Bool:=match l.find? (λp=>decide (p.1=name))with
 |some p=>(p.2,true)
 |none=>([],false)
def WS(sc:Int)(l:List MI):List MI:=l.filter λn=>decide (n.2.2<=sc)
def A0F(t:GT)(p:O4):List MI:=match t.1.find? (λo=>decide (o.1=p.1)&&decide (o.2.1=p.2))with
 |some o=>WS t.2.2.1 o.2.2.1
 |none=>[]
def ANd{k:Int}{w:DK}{v:Vr}(h:K8 (k,w)=some (v,0)):w.length<=100:=by
 apply BI;intro b;have a:decide ((100:Int)<(w.length))=true:=A6 oa;unfold K8 at h;grind
def A7W(x:Int×(Bool×Bool×(List UInt8)))(h:x.2.2.2.length<=1048576):Tot (S0 x) (λr:(List UInt8)×Int=>r.2=0->x.2.2.2.length<=100):=by
 refine DN.2 ⟨λ_=>DN.2 ⟨λ_=>DM.2 oh,λp=>DM.2 λ_=>?_⟩,λ_=>?_⟩
 .grind[Bool.or_eq_false_iff,D_]
 have⟨l,e,h1⟩:=U4.1 (x.1,x.2.2.2) h;rw[e];refine DN.2 ⟨λd=>DM.2 λh0=>(by rw[h0]at d;cases d),λd=>?_⟩;have h0:=by rw[DR]at d;simpa using d
 have a:=h1 h0;have b:=ANd (by rw[<-h0];exact e);revert a;generalize l.1=v;intro a;refine DL.2 (Tot.mono (P:=λr:List UInt8=>r.length<=10000000) ?_ λm j=>?_)
 .rcases v with x|x|x|x|x|x
  .exact DL.2 ((A0A _ a).mono λ_ h=>DM.2 oa)
  .exact DL.2 ((A0B.1 _ a).mono λ_ h=>DM.2 oa)
  .exact DL.2 ((A0C.1 _ a).mono λ_ h=>DM.2 oa)
  .exact DL.2 ((A0D _ a).mono λ_ h=>DM.2 oa)
  .simp_all[DL,A0E,trivial,DM]
  .exact a.elim
 refine DN.2 ⟨λ_=>DM.2 λ_=>b,λ_=>?_⟩;refine DL.2 (Tot.mono (P:=λr:List UInt8=>r.length<=10000000) ?_ λm j=>DM.2 λ_=>b)
 .rcases v with x|x|x|x|x|x
  .exact DL.2 ((oY _ a).mono λ_ h=>DM.2 oa)
  .exact DL.2 ((oZ.1 _ a).mono λ_ h=>DM.2 oa)
  .exact DL.2 ((o_ _ a).mono λ_ h=>DM.2 oa)
  .exact DL.2 ((pB.1 _ a).mono λ_ h=>DM.2 oa)
  .exact DL.2 ((pC.1 _ a).mono λ_ h=>DM.2 oa)
  .exact a.elim
abbrev pD(s:bK):Prop:=s.1.2.2.length<=1048576/\s.2.2.2.length<=1048576
def ANe(r:Rg)(G:∀s∈r.2,pD s)(R:r.2.length<=200):
 Tot (yG (r,([]:List I_),r.2,(r.2.length:Int),0)) (λq=>(∀y,q=.inl y->y.length<=200)/\∀y,q=.inr y->y.1=[]/\y.2≠0):=by
 refine EQ
  (λy:Rg×(List I_)×(List bK)×Int×Int=>y.1=r/\y.2.2.1=r.2/\y.2.2.2.1=r.2.length/\0<=y.2.2.2.2/\y.2.2.2.2<=r.2.length/\y.2.1.length<=y.2.2.2.2/\∀x∈y.2.1,HH x)
  (λy=>((r.2.length:Int)-y.2.2.2.2).toNat) ?_ _ _ ⟨rfl,rfl,rfl,AS _,BA _,oh,oh⟩ (by grind[fuel])
 rintro next ⟨l,o,T,n,i⟩ m p
 dsimp only at m p;obtain⟨rfl,rfl,rfl,i0,i1,Q,C⟩:=m;unfold A5J;dsimp only;refine DN.2 ⟨λd=>?_,λd=>DM.2 ⟨λy e=>?_,λy e=>(by cases e)⟩⟩
 .have d:=AC d;rw[EG (n:=i+1) oa oa,EG oa oa];refine DL.2 (EH.2 ⟨⟨i0,d⟩,λs w=>?_⟩);have⟨L,M⟩:=G s (P0 w);refine DL.2 ((A7W _ oa).mono λN k1=>DN.2 ⟨λa=>DM.2 ⟨λy e=>(by cases e),λy e=>?_⟩,λH=>?_⟩)
  .cases e;rw[DR]at a;grind
  refine DL.2 ((A7W _ oa).mono λO J=>DN.2 ⟨λa=>DM.2 ⟨λy e=>(by cases e),λy e=>?_⟩,λI=>?_⟩)
  .cases e;rw[DR]at a;grind
  have s1:s.1.2.2.length<=100:=k1 (by grind[DR]);have z:s.2.2.2.length<=100:=J (by grind[DR]);refine DL.2 ((A7M.1 _ s1).mono λA D=>DL.2 ((A7N.1 _ z).mono λB E=>?_));refine DL.2 ((U3.1 _ trivial).mono λU _=>?_);refine DL.2 (Tot.mono (P:=λ_=>True) (DN.2 ⟨λj=>?_,λ_=>DM.2 trivial⟩) λW _=>?_)
  .have j:=AC (CV.1 j).2;exact EH.2 ⟨⟨oa,oa⟩,λ_ _=>trivial⟩
  refine DL.2 (Tot.mono (P:=λ_=>True) (DN.2 ⟨λj=>U3.1 _ trivial,λ_=>DM.2 trivial⟩) λV _=>?_);refine DN.2 ⟨λ_=>DM.2 ⟨λy e=>(by cases e),λy e=>(oc)⟩,λ_=>?_⟩
  have b:Tot (next (l,o++[(A,B)],l.2,(l.2.length:Int),i+1)) (λq:Sum (List I_) ((List I_)×Int)=>(∀y,q=.inl y->y.length<=200)/\∀y,q=.inr y->y.1=[]/\y.2≠0):=by
   refine p _ ⟨rfl,rfl,rfl,oc,oc,?_,λx w=>?_⟩ oc
   .grind
   .grind
  have h:(o.length+1)*192<=70368744177664:=oa
  refine DN.2 ⟨λ_=>?_,λ_=>DL.2 (F4.2 ⟨h,b⟩)⟩;refine DL.2 ((ANY s o ⟨s1,z⟩ C oa).mono λK _=>DN.2 ⟨λa=>DM.2 ⟨λy e=>(by cases e),λy e=>?_⟩,λ_=>DL.2 (F4.2 ⟨h,b⟩)⟩);cases e;rw[DR]at a;grind
 grind
def ANf(r:Rg)(b:∀s∈r.2,pD s):Tot (aI r) (λq=>q.1.length<=200):=by
 refine DN.2 ⟨λ_=>DM.2 oh,λ_=>DN.2 ⟨λ_=>DM.2 oh,λh=>?_⟩⟩;have h:=AK h;refine DL.2 ((ANe r b oa).mono λq a=>?_);rcases q with y|y
 .exact DM.2 (a.1 y rfl)
 .refine DM.2 ?_;grind
def pE(r:Rg)(w:DK):Bool:=((aK (r,w)).getD (false,0)).1
def ANg(r:Rg)(w:DK)(p:∀s∈r.2,pD s)(x:w.length<=1048576):Tot (aK (r,w)) (λq=>q.1=pE r w):=by
 suffices h:∃q,aK _=some q by
  obtain⟨q,h⟩:=h;exact⟨q,h,by grind[pE]⟩
 show ∃q,((aI r).bind λy=>bif (!(DO y.2 _))then some _ else(K8 _).bind λd=>bif (!(DO d.2 _))then some _ else(bL d.1).bind _)=some q;have⟨⟨L,e⟩,h1,z⟩:=ANf r p;rw[h1,A0];cases C:!(DO e 0)with
 |true=>simp
 |false=>
  rw[A8];have⟨⟨v,b⟩,j,l⟩:=U4.1 (r.1,w) x;rw[j,A0];cases a:!(DO b 0)with
  |true=>simp
  |false=>
   rw[A8];have m:b=0:=by rw[DR]at a;simpa using a
   have⟨k,A,_⟩:=A7S (l m);have⟨n,B,_⟩:=ANZ L k oc;simp_all
def bM(name:DK):Int×Bool:=(nY name).getD (0,false)
def ANh(k:Int)(w:DK):Bool:=((AIm (k,w)).getD (false,0)).1
def ANi(t:GT)(name:DK)(o:SB):Bool:=((KT t.2.2.2.1 name).2&&decide (o.2.1=(KT t.2.2.2.1 name).1))||((!o.2.2.2)&&(t.2.2.2.2.2.1||(!ANh (bM name).1 o.2.1)))
def chF(t:GT)(name:DK):List DK:=((t.1.filter λo=>decide (o.1=name)).filter (ANi t name)).map λo=>o.2.1
def NdB(n:MI):Prop:=n.1.length<=1048576/\∀s∈n.2.1.2,pD s
structure TkB(t:GT):Prop where
 offers:t.1.length<=1048576
 offer:∀o∈t.1,o.1.length<=1048576/\o.2.1.length<=1048576/\o.2.2.1.length<=1048576/\∀n∈o.2.2.1,NdB n
 needs:t.2.1.length<=1048576
 need:∀n∈t.2.1,NdB n
 old:t.2.2.2.1.length<=1048576
 pin:∀p∈t.2.2.2.1,p.1.length<=1048576/\p.2.length<=1048576
 frozen:t.2.2.2.2.1.length<=1048576
 name:∀s∈t.2.2.2.2.1,s.length<=1048576
abbrev Pu:=DK×DK×DK×DK×(List (DK×DK))×DK
def ANj(n:Int):-9223372036854775808<=IntKind.i64.wrap n/\IntKind.i64.wrap n<=9223372036854775807:=by
 grind[IntKind.wrap,IntKind.signed,IntKind.bits]
def Bd(n:Int)(b:Int):Prop:=-b<=n/\n<=b
def ANk(x:DK×(List Int)×(List (List (Int×Int)))×Int)(h:0<=x.2.2.2/\x.2.2.2<=6/\x.2.2.1.length=6/\x.1.length=6):Tot (gI x) (λr=>∀y,r=.inr y->y.1=0):=by
 refine EQ (λy:DK×(List Int)×(List _)×Int=>0<=y.2.2.2/\y.2.2.2<=6/\y.2.2.1.length=6/\y.1.length=6)
  (λy=>(6-y.2.2.2).toNat) ?_ _ _ h (by grind[fuel])
 rintro next ⟨v,w,t,i⟩ a d
 dsimp only at a d;obtain⟨i0,i1,j,l⟩:=a;unfold vE;refine DN.2 ⟨λb=>?_,λ_=>DM.2 λy e=>(by cases e)⟩;have b:=AC b;refine DL.2 (EH.2 ⟨⟨i0,oa⟩,λ_ _=>DL.2 (EH.2 ⟨⟨i0,oa⟩,λ_ _=>DN.2 ⟨λ_=>DM.2 λy e=>(by cases e;rfl),λ_=>?_⟩⟩)⟩);grind[DL,ET,EG]
def ANl(x:DK):Tot (TL x) (λr=>Bd r.1 1000000000000):=by
 refine DL.2 ((A7Q.1 _ trivial).mono λr1 h1=>DN.2 ⟨λ_=>DM.2 (by unfold Bd;decide),λhc=>?_⟩)
 have hl : x.length = 6 := by rw [DR] at hc; have := by simpa using hc;
                              omega
 refine DL.2 ((ANk _ ⟨AS _,oh,h1,hl⟩).mono λq hq=>?_);rcases q with y|y
 .refine DN.2 ⟨λ_=>DM.2 (by unfold Bd;decide),λ_=>DL.2 (oN.2 ⟨oi,DM.2 ?_⟩)⟩;generalize hX:IntKind.i64.wrap (IntKind.i64.wrap _-1)=X;have hr:-9223372036854775808<=X/\X<=9223372036854775807:=by rw[<-hX];exact ANj _
  have hq:-92233720369<=X.tdiv 100000000/\X.tdiv 100000000<=92233720369:=by
   rcases Int.le_total 0 X with h|h
   .grind
   .grind
  rw[EG oa oa];unfold Bd Y3;grind
 .exact DM.2 (by have:=hq y rfl;grind[Bd])
def ANm(a:List Af)(l:∀z∈a,O_ z)(x:a.length<=50):Tot (VZ ([],a,(a.length:Int),0)) (λr=>(∀o,r=.inl o->o.length=a.length/\∀z∈o,∀s∈z.2,GW s)/\∀y,r=.inr y->y.2≠0):=by
 refine EQ
  (λy:(List Rg)×(List Af)×Int×Int=>y.2.1=a/\y.2.2.1=a.length/\0<=y.2.2.2/\y.2.2.2<=a.length/\(y.1.length)=y.2.2.2/\∀z∈y.1,∀s∈z.2,GW s)
  (λy=>((a.length)-y.2.2.2).toNat) ?_ _ _ ⟨rfl,rfl,AS _,BA _,rfl,λz j=>by simp at j⟩ (by grind[fuel])
 rintro next ⟨o,t,n,i⟩ b d
 dsimp only at b d;obtain⟨rfl,rfl,i0,i1,B,C⟩:=b;unfold xQ;refine DN.2 ⟨λh=>?_,λh=>DM.2 ⟨λy e=>?_,λy e=>(by cases e)⟩⟩
 .have h:=AC h;rw[EG oa oa];refine DL.2 (EH.2 ⟨⟨i0,h⟩,λw m=>DL.2 ((A7O.1 w (l w (P0 m))).mono λq A=>DN.2 ⟨λp=>DM.2 ⟨λy e=>(by cases e),λy e=>?_⟩,λ_=>?_⟩)⟩)
  .grind[DR]
  .refine DL.2 (F4.2 ⟨oc,d _ ⟨rfl,rfl,oc,oc,ot,λz j=>?_⟩ oc⟩);grind
 .cases e;grind
def ANn(a:FZ)(h:LW a):Tot (N8 a) (λr=>r.2=0->r.1.length=a.2.2.2.2.2.2.length/\∀z∈r.1,∀s∈z.2,GW s):=by
 unfold N8 VY;have j:∀{l:List Rg} {c:Int},c≠0->Tot (some (l,c)) (λr:(List Rg)×Int=>r.2=0->r.1.length=a.2.2.2.2.2.2.length/\∀z∈r.1,∀s∈z.2,GW s):=λw=>DM.2 λe=>absurd e w
 have b:Tot (bif (decide ((50:Int)<(a.2.2.2.2.2.2.length))) then some (([]),(3)) else (VZ (([]),a.2.2.2.2.2.2,(a.2.2.2.2.2.2.length),(0))).bind λm =>
  match m with
  | .inl p=>some (p,(0))
  | .inr d=>some (d.1,d.2)) (λr:(List Rg)×Int=>r.2=0->r.1.length=a.2.2.2.2.2.2.length/\∀z∈r.1,∀s∈z.2,GW s):=by
  refine DN.2 ⟨λ_=>j oi,λw=>DL.2 ((ANm _ h.2.2.2.2.2.2 oc).mono λq A=>?_)⟩;rcases q with y|y
  .exact DM.2 λ_=>A.1 y rfl
  .grind
 refine DL.2 ((oL.1 _ h.1).mono λB _=>DN.2 ⟨λ_=>j oi,λ_=>?_⟩);refine DL.2 ((A7P.1 _ h.2.2.1).mono λC _=>DN.2 ⟨λx=>j (by grind[DR]),λ_=>?_⟩);refine DL.2 ((oL.1 _ h.2.2.2.1).mono λD _=>DN.2 ⟨λ_=>j oi,λ_=>DN.2 ⟨λ_=>j oi,λ_=>?_⟩⟩);refine DL.2 (DN.2 ⟨λ_=>DL.2 ((ANl _).mono λE _=>DN.2 ⟨λx=>DM.2 ?_,λ_=>DM.2 b⟩),λ_=>DM.2 b⟩);grind[DR]
abbrev C3:=Int×Int×Int
def CB(c:C3)(n:Int):Prop:=Bd c.1 (2000000000000000*n)/\Bd c.2.1 n/\Bd c.2.2 (3*n)
def pcF(t:GT)(x:O4):C3:=(AIx (t,x)).getD (0,0,0)
def ANo(s:List DK)(o:SB):List DK:=if o.1∈s then s else s++[o.1]
def SC(l:List SB):List DK:=l.foldl ANo []
def ANp(t:GT)(name:DK):List DK:=(chF t name).reverse
def getD_set_ne{α:Type}{l:List α}{i j:Nat}{x d:α}(h:i≠j):(l.set i x).getD j d=l.getD j d:=by
 rw[AH,BX h,AH]
structure Fx(ns:List DK)(os:List (List DK)):Prop where
 len:os.length=ns.length
 few:ns.length<=12
 small:∀o∈os,o.length<=8
def wa(W:List (List Int))(i a:Nat):Int:=(W.getD i []).getD a 0
def al(A:List (List (List Int)))(i a j:Nat):Int:=((A.getD i []).getD a []).getD j 0
def cnt(os:List (List DK))(i:Nat):Nat:=(os.getD i []).length
structure ShW(n:Nat)(os:List (List DK))(W:List (List Int)):Prop where
 len:W.length=n
 row:∀i<n,(W.getD i []).length=cnt os i+1
 in16:∀i a,WR (wa W i a)
structure ShA(n:Nat)(os:List (List DK))(A:List (List (List Int))):Prop where
 len:A.length=n
 row:∀i<n,(A.getD i []).length=cnt os i+1
 cell:∀i<n,∀a,a<cnt os i+1->((A.getD i []).getD a []).length=n
 in16:∀i a j,WR (al A i a j)
structure ShS(n:Nat)(st:List Int):Prop where
 len:st.length=n
 in16:∀i,WR (st.getD i 0)
def bN(o:List DK)(r:Rg):Nat->Bool
 |0=>false
 |k+1=>match o[k]? with
  |some v=>pE r v
  |none=>false
structure Fy(ns:List DK)(os:List (List DK)):Prop extends Fx ns os where
 nodup:ns.Nodup
 vers:∀o∈os,∀v∈o,v.length<=1048576
structure RelW(ns:List DK)(os:List (List DK))(M:Nat->Nat->MI->Prop)(W:List (List Int))(A:List (List (List Int)))(st:List Int):Prop where
 shW:ShW ns.length os W
 shA:ShA ns.length os A
 shS:ShS ns.length st
 st:∀i<ns.length,∀a,bt (st.getD i 0) a=true<->a<=cnt os i/\∀nd,M i a nd->nd.1∈ns
 wa:∀i<ns.length,∀a≤cnt os i,∀k,bt (wa W i a) k=true<->∃nd,M i a nd/\ns[k]?=some nd.1
 al:∀i<ns.length,∀a≤cnt os i,∀j<ns.length,∀b,bt (al A i a j) b=true<->b<=cnt os j/\(∀nd,M i a nd->ns[j]?=some nd.1->bN (os.getD j []) nd.2.1 b=true)/\
  (∀nd,M j b nd->ns[i]?=some nd.1->bN (os.getD i []) nd.2.1 a=true)
def RelW.congr{b:List DK}{os:List (List DK)}{M M':Nat->Nat->MI->Prop}{W:List (List Int)}{A:List (List (List Int))}{st:List Int}(h:RelW b os M W A st)(e:∀i a nd,M i a nd<->M' i a nd):RelW b os M' W A st:=by
 have:=funext λi=>funext λa=>funext λnd=>propext (e i a nd);rwa[<-this]
def bO(t:GT)(ns:List DK)(os:List (List DK))(i:Nat):Nat->List MI
 |0=>[]
 |k+1=>match(os.getD i [])[k]?,ns[i]? with
  |some v,some nm=>A0F t (nm,v)
  |_,_=>[]
structure Dm(n:Nat)(P:Nat->Nat->Prop)(R:Nat->Prop)(st:List Int)(rt:Int):Prop where
 shS:ShS n st
 in16:WR rt
 st:∀i<n,∀a,bt (st.getD i 0) a=true<->P i a
 rt:∀i,bt rt i=true<->R i
def Dm.congr{n:Nat}{P P':Nat->Nat->Prop}{R R':Nat->Prop}{st:List Int}{rt:Int}(h:Dm n P R st rt)(e:∀i<n,∀a,P i a<->P' i a)(e':∀i,R i<->R' i):Dm n P' R' st rt:=
 ⟨h.shS,h.in16,λi hi a=>(h.st i hi a).trans (e i hi a),λi=>(h.rt i).trans (e' i)⟩
def oF(o:List DK)(v:DK)(a:Nat):Bool:=match ANc (λx=>decide (v=x)) o with
 | .ofNat k=>decide (a=k+1)
 | .negSucc _=>false
structure Good(t:GT)(ns:List DK)(os:List (List DK))(W:List (List Int))(A:List (List (List Int)))(st:List Int)(rt:Int):Prop where
 shW:ShW ns.length os W
 shA:ShA ns.length os A
 shS:ShS ns.length st
 in16:WR rt
 st:∀i<ns.length,∀a,bt (st.getD i 0) a=true<->a<=cnt os i/\(∀nd∈bO t ns os i a,nd.1∈ns)/\(∀nd∈WS t.2.2.1 t.2.1,ns[i]?=some nd.1->bN (os.getD i []) nd.2.1 a=true)/\
  (∀fz∈t.2.2.2.2.1,ns[i]?=some fz->oF (os.getD i []) (KT t.2.2.2.1 fz).1 a=true)
 wa:∀i<ns.length,∀a≤cnt os i,∀k,bt (wa W i a) k=true<->∃nd∈bO t ns os i a,ns[k]?=some nd.1
 al:∀i<ns.length,∀a≤cnt os i,∀j<ns.length,∀b,bt (al A i a j) b=true<->b<=cnt os j/\(∀nd∈bO t ns os i a,ns[j]?=some nd.1->bN (os.getD j []) nd.2.1 b=true)/\
  (∀nd∈bO t ns os j b,ns[i]?=some nd.1->bN (os.getD i []) nd.2.1 a=true)
 rt:∀i,bt rt i=true<->(∃nd∈WS t.2.2.1 t.2.1,ns[i]?=some nd.1)\/∃fz∈t.2.2.2.2.1,ns[i]?=some fz
def ANq(t:GT)(ns:List DK):Prop:=(∀nd∈WS t.2.2.1 t.2.1,nd.1∈ns)/\∀fz∈t.2.2.2.2.1,fz∈ns
def pF(t:GT):List (List DK):=(SC t.1).map (ANp t)
inductive Reach (n:Nat) (os:List (List DK)) (W:List (List Int)) (rt:Int) (h:Nat->Nat->Prop):Nat->Prop
 |root {i:Nat}:bt rt i=true->Reach n os W rt h i
 |step {i a j:Nat}:Reach n os W rt h i->i<n->a<=cnt os i->h i a->bt (wa W i a) j=true->Reach n os W rt h j
def Reach.mono{n:Nat}{os:List (List DK)}{W:List (List Int)}{rt:Int}{h b:Nat->Nat->Prop}(m:∀i<n,∀a,h i a->b i a){j:Nat}(r:Reach n os W rt h j):Reach n os W rt b j:=by
 induction r with
 |root h1=>exact .root h1
 |step _ h1 d e l p=>exact .step p h1 d (m _ h1 _ e) l
section
variable{t:GT}{ns:List DK}{os:List (List DK)}{W:List (List Int)}{A:List (List (List Int))}{st:List Int}{rt:Int}(hF:Fy ns os)(hG:Good t ns os W A st rt)
include hF hG
structure Pass(P:Prop)(R:Nat->Prop)(o:Int)(g:Bool)(o':Int)(g':Bool):Prop where
 in16:WR o'
 le:o<=o'
 sub:∀k,bt o k=true->bt o' k=true
 snd:(∀k,bt o k=true->R k)->∀k,bt o' k=true->R k
 up:g'=true->g=true\/o<o'
 cl:g'=false->g=false/\o'=o/\P
omit hF hG in
theorem Pass.next{P P':Prop}{R:Nat->Prop}{o o1 o2:Int}{g b d:Bool}(h1:Pass P R o g o1 b)(a:Pass P' R o1 b o2 d):Pass (P/\(o1=o->P')) R o g o2 d:=
 ⟨a.in16,Int.le_trans h1.le a.le,λk h=>a.sub k (h1.sub k h),λh=>a.snd (h1.snd h),
  λh=>(a.up h).elim (λh=>(h1.up h).imp id λh=>Int.lt_of_lt_of_le h a.le) λh=>.inr (Int.lt_of_le_of_lt h1.le h),
  λh=>by
   have⟨e,j,l⟩:=a.cl h;have⟨m,p,s⟩:=h1.cl e;grind⟩
def PN(ns:List DK)(os:List (List DK))(W:List (List Int))(rt:Int)(h:Nat->Nat->Prop):Prop:=∀i<ns.length,h i 0\/Reach ns.length os W rt h i
include hF hG
structure Tk(n:Nat)(A:List (List (List Int)))(left:List Int)(i a:Nat)(m:Nat)(o:List Int):Prop where
 sh:ShS n o
 bit:∀j<n,∀b,bt (o.getD j 0) b=true<->(if j=i then b=a else bt (left.getD j 0) b=true/\(j<m->bt (al A i a j) b=true))
end
def ANr(a b:C3):C3:=(a.1+b.1,a.2.1+b.2.1,a.2.2+b.2.2)
def cc(cs:List (List C3))(j a:Nat):C3:=(cs.getD j []).getD a (0,0,0)
structure Cst(n:Nat)(os:List (List DK))(cs:List (List C3)):Prop where
 len:cs.length=n
 row:∀j<n,(cs.getD j []).length=cnt os j+1
 bd:∀j a,CB (cc cs j a) 1
section
variable(ns:List DK)(os:List (List DK))(W:List (List Int))(A:List (List (List Int)))(st:List Int)(rt:Int)
structure Val(p:List Nat):Prop where
 len:p.length=ns.length
 st:∀j<ns.length,bt (st.getD j 0) (p.getD j 0)=true
 al:∀j<ns.length,∀k<ns.length,k≠j->bt (al A k (p.getD k 0) j) (p.getD j 0)=true
 pn:PN ns os W rt (λi a=>p.getD i 0=a)
structure Dp(pre:List Nat)(left:List Int):Prop where
 sh:ShS ns.length left
 bit:∀j<ns.length,∀b,bt (left.getD j 0) b=true<->bt (st.getD j 0) b=true/\(j<pre.length->b=pre.getD j 0)/\∀k<pre.length,k≠j->bt (al A k (pre.getD k 0) j) b=true
end
def met(l:List O4)(nd:MI):Prop:=(KT l nd.1).2=true/\pE nd.2.1 (KT l nd.1).1=true
def ANs(t:GT):List DK:=t.2.2.2.2.1++(WS t.2.2.1 t.2.1).map λnd=>nd.1
inductive CR (t:GT) (l:List O4):DK->Prop
 |root {s:DK}:s∈ANs t->(KT l s).2=true->CR t l s
 |step {s:DK} {nd:MI}:CR t l s->nd∈A0F t (s,(KT l s).1)->(KT l nd.1).2=true->CR t l nd.1
def CR.pinned{t:GT}{l:List O4}{s:DK}(h:CR t l s):(KT l s).2=true:=by
 cases h<;>grind
structure Right(t:GT)(l:List O4):Prop where
 needs:∀nd∈WS t.2.2.1 t.2.1,met l nd
 pins:∀p∈l,p.2∈chF t p.1/\∀nd∈A0F t p,met l nd
 more:∀p∈l,CR t l p.1
 frozen:∀s∈t.2.2.2.2.1,(KT l s).2=true/\(KT l s).1=(KT t.2.2.2.1 s).1
def crF(r:Rg):Int:=(A5v r).getD 0
structure NdOk(nd:MI):Prop where
 kind:(bM nd.1).2=true
 range:crF nd.2.1=0
 same:nd.2.1.1=(bM nd.1).1
 scope:1<=nd.2.2/\nd.2.2<=4
structure NdsOk(l:List MI):Prop where
 few:l.length<=12
 ok:∀nd∈l,NdOk nd
 asc:l.Pairwise λa b=>a.1<b.1
def pnF(name v:DK):Int×Int:=(zM (name,v)).getD (0,0)
structure LkOk(l:List O4):Prop where
 few:l.length<=12
 ok:∀p∈l,(pnF p.1 p.2).2=0
 asc:l.Pairwise λa b=>a.1<b.1
structure OfOk(o:SB):Prop where
 pin:(pnF o.1 o.2.1).2=0
 needs:NdsOk o.2.2.1
 other:∀nd∈o.2.2.1,nd.1≠o.1
def ANt(a b:SB):Prop:=a.1<b.1\/a.1=b.1/\ky (bM a.1).1 a.2.1<ky (bM b.1).1 b.2.1
def nOf(l:List SB)(nm:DK):Nat:=(l.filter λo=>decide (o.1=nm)).length
structure RegOk(l:List SB):Prop where
 ok:∀o∈l,OfOk o
 asc:l.Pairwise ANt
 few:(SC l).length<=12
 few8:∀nm,nOf l nm<=8
structure TaskOk(t:GT):Prop where
 reg:RegOk t.1
 needs:NdsOk t.2.1
 scope:1<=t.2.2.1/\t.2.2.1<=4
 old:LkOk t.2.2.2.1
 frozen:∀s∈t.2.2.2.2.1,(KT t.2.2.2.1 s).2=true
 asc:t.2.2.2.2.1.Pairwise λa b=>a<b
 base:WQ t.2.2.2.2.2.2
structure Of(ns:List DK)(os:List (List DK))(p:List Nat)(l:List O4):Prop where
 pin:∀j nm,ns[j]?=some nm->(p.getD j 0=0/\KT l nm=([],false))\/∃k v,p.getD j 0=k+1/\(os.getD j [])[k]?=some v/\KT l nm=(v,true)
 inn:∀nm,(KT l nm).2=true->nm∈ns
section
variable{t:GT}(ht:TkB t)(hB:BB t.2.2.2.2.2.2)(hl:t.2.2.2.2.2.2.2.1.length<=2000)(hR:RegOk t.1)
structure CsOk(t:GT)(cs:List (List C3)):Prop where
 cst:Cst (SC t.1).length (pF t) cs
 zero:∀j nm,(SC t.1)[j]?=some nm->cc cs j 0=pcF t (nm,[])
 pin:∀j nm,(SC t.1)[j]?=some nm->∀k v,((pF t).getD j [])[k]?=some v->cc cs j (k+1)=pcF t (nm,v)
include ht hR in
include ht hB hl in
include ht hB hl hR in
def sl:List C3->C3
 |[]=>(0,0,0)
 |c::l=>ANr c (sl l)
include ht hB hl in
include ht hR in
end
def U5(c:UInt8):Prop:=32<=c.toNat/\c.toNat≠127
def Gd(f:Int->Option Bool):Prop:=∀c:UInt8,f (c.toNat:Int)=some true->U5 c
def ANu:Gd λx=>(H0 x).bind λr=>some r:=λc h=>by
 have:=A70 c h;grind[U2,U5]
theorem ANv{c:UInt8}(h:N6 (c.toNat:Int)=some true):U5 c:=by
 grind[N6,U5]
def ANw{c:UInt8}(h:H0 (c.toNat:Int)=some true):U5 c:=ANu c (by assumption)
def cls{c:UInt8}{g:Bool->Option Bool}{p:Bool->Bool->Bool}(h:((H0 (c.toNat:Int)).bind λr1=>(bif (!r1)then N6 (c.toNat:Int)else some false).bind λr2=>g (p r1 r2))=some true)
 (hg:g (p false false)=some true->U5 c):U5 c:=by
 have⟨r1,h1,h⟩:=B5.1 h;cases r1 with
 |true=>exact ANw h1
 |false=>
  grind[Option.bind_eq_some_iff,ANv]
section
variable{α β X R:Type}
def ANx{m:Option α}{P:α->Prop}(h:Tot m P){x:α}(e:m=some x):P x:=by
 obtain⟨y,h1,a⟩:=h;grind
def P1{b:Bool}{m n:Option α}{x:α}(h:(bif b then m else n)=some x):(b=true/\m=some x)\/(b=false/\n=some x):=by
 grind
def MJ{m:Option α}{f:α->Option β}{y:β}(h:m.bind f=some y):∃x,m=some x/\f x=some y:=B5.1 h
theorem at_some{l:List α}{i:Int}{x:α}(e:at? l i=some x):0<=i/\i<l.length/\l[i.toNat]?=some x:=by
 have⟨⟨h1,h⟩,a⟩:=EH.1 (⟨x,e,rfl⟩);grind
end
abbrev FU:=DK×Pu×List (DK×DK)×DK×List DK
abbrev GM:=DK×DK×Int
abbrev JI:=DK×DK×DK×List FU×List GM
structure CoOk(c:FU):Prop where
 ref:VM (c.1,100)=some true
 purl:KQ c.2.1=some 0
 dig:c.2.2.1=[]
 lic:c.2.2.2.1=[]
 files:c.2.2.2.2=[]
def pG{α j:Type} [DecidableEq α]{eq:α->α->Bool}(l:∀x y,eq x y=decide (x=y))(k d:α)(v:j):∀m:List (α×j),DU eq k (EB eq d v m)=if k=d then some v else DU eq k m:=by
 intro m;induction m with
 |nil=>
  grind[EB,DU]
 |cons e r p=>
  obtain⟨a,b⟩:=e;simp only[EB];by_cases h:d=a
  .simp_all[decide_true,A7,DU]
  .simp only[A9 h,A8,DU,l,p];grind
structure BiOk(lo:Bool)(b:JI):Prop where
 name:b.1≠[]/\TJ b.1=some true
 vers:TJ b.2.1=some true
 few:b.2.2.2.1.length<=3000/\b.2.2.2.2.length<=20000
 comp:∀c∈b.2.2.2.1,CoOk c
 asc:lo=false->b.2.2.2.1.Pairwise λa c=>a.1<c.1
 root:∃c∈b.2.2.2.1,c.1=b.2.2.1
 edge:∀e∈b.2.2.2.2,1<=e.2.2/\e.2.2<=4/\(∃c∈b.2.2.2.1,c.1=e.1)/\(∃c∈b.2.2.2.1,c.1=e.2.1)/\e.1≠e.2.1
 easc:lo=false->∀(i:Nat) (x y:GM),b.2.2.2.2[i]?=some x->b.2.2.2.2[i+1]?=some y->∃r,VP (x,y)=some r/\r<0
def MK:List Int->Int
 |[]=>0
 |a::r=>if a=0 then MK r else a
def ANy:∀{l:List Int},(∀a∈l,a=0)->MK l=0:=by
 intro l;induction l<;>simp_all[MK,if_pos,AE,AN]
def ANz:∀{l:List Int} {i:Nat} {a:Int},l[i]?=some a->a≠0->(∀x∈l.take i,x=0)->MK l=a:=by
 intro l;induction l with
 |nil=>simp
 |cons b r j=>
  intro i a h e d;cases i with
  |zero=>
   simp_all[MK,if_neg]
  |succ i=>
   have h:r[i]?=some a:=by simpa using h
   show(if b=0 then MK r else b)=a;rw[if_pos (d b oh)];grind
def A7X(l:List Int)(j:l.length<=1000):QD l=some (MK l):=by
 unfold QD
 have:Tot (gD ((0),l,(l.length),(0))) (λq=>match q with
  | .inl _=>MK l=0
  | .inr y=>MK l=y):=by
  refine E_ l.length (λ_ i=>((0),l,(l.length:Int),i)) (λi _=>∀x∈l.take i,x=0) oa (λnext _ i hi a b=>?_) (λnext _ a=>?_) () oh
  .unfold gC;dsimp only;rw[E0,A6 hi,A7,ER (A1 hi),A0,DR,EU oa];refine DN.2 ⟨λh=>DM.2 (ANz (A1 hi) (by simpa using h) a),λh=>b () λx d=>?_⟩;rw[GX (A1 hi),AV,AP]at d;grind
  .simp_all[gC,E0,A9,AA,A8,AX,DM,ANy]
 obtain⟨q,h1,e⟩:=this;grind
theorem WU(a b:DK):J8 a b=0<->a=b:=by
 grind[J8,MH]
def bP(a b:Int):O3 a b=0<->a=b:=by
 grind[O3]
theorem A0G(a b:Int):O3 a b<0<->a<b:=by
 grind[O3]
section
variable{T:Type}
def A7Y(xs:List T)(F:T×T->Option Int)(lt:T->T->Prop)(l:∀a b,∃c,F (a,b)=some c/\(c<0<->lt a b))(hi:∀a,¬lt a a)(y:∀a b c,lt a b->lt b c->lt a c)(x:∀a b c,¬lt a b->¬lt b c->¬lt a c):
 Tot (MA xs F) (λr=>r.Perm xs/\r.Pairwise λa b=>¬lt b a):=by
 have e:∀i j,IH xs F i j=true<->lt (xs.get i) (xs.get j):=λi j=>by
  have⟨c,h1,d⟩:=l (xs.get i) (xs.get j);unfold IH NR;grind
 have w:∀i j,IH xs F i j=false<->¬lt (xs.get i) (xs.get j):=λi j=>by rw[<-e,BU]
 have s:TE xs F:=by
  refine⟨λi j=>?_,λi=>?_,λi j k h1 d=>?_,λi j k h1 d=>?_⟩
  .obtain⟨c,h1,_⟩:=l (xs.get i) (xs.get j);rw[h1];rfl
  .grind
  .grind
  .grind
 refine(A08 xs F s).mono λr m=>⟨m.1,m.2.imp λ{a b} h p=>?_⟩;have⟨c,h1,d⟩:=l b a;grind
end
def bQ(a b:Int×Int):Prop:=a.1<b.1\/a.1=b.1/\a.2<b.2
def AO0(xs:List (Int×Int)):Tot (uP (xs,λx=>(lO x).bind λr=>some r)) (λr=>r.Perm xs):=by
 refine(A7Y xs _ bQ (λa b=>?_) (λa h=>?_) (λa b c h1 d=>?_) λa b c h1 d l=>?_).mono λr e=>e.1
 .refine⟨MK [O3 a.1 b.1,O3 a.2 b.2],?_,?_⟩
  .simp_all[lO,oV,A0,A7X]
  .simp only[MK];unfold bQ;by_cases h:a.1=b.1
   .rw[if_pos ((bP _ _).2 h)];by_cases j:a.2=b.2<;>simp_all[if_pos,bP,if_neg,A0G]
   simp_all[if_neg,bP,A0G]
 .unfold bQ at h;omega
 .unfold bQ at *;omega
 grind[bQ]
def KB(a b:GM):Prop:=a.1<b.1\/a.1=b.1/\(a.2.1<b.2.1\/a.2.1=b.2.1/\a.2.2<b.2.2)
theorem A7Z(a:GM):¬KB a a:=by
 grind[KB,MH]
theorem A7_(a b c:GM)(h1:KB a b)(h:KB b c):KB a c:=by
 grind[KB,WN]
def A0H(a b:GM):KB a b\/a=b\/KB b a:=by
 grind[KB,bI,Int.lt_trichotomy,Prod.ext]
def AO1(a b c:GM)(h1:¬KB a b)(e:¬KB b c):¬KB a c:=by
 rcases A0H a b with h|rfl|h
 .grind
 .exact e
 .rcases A0H b c with d|rfl|d
  .grind
  .exact h1
  grind[A7Z,A7_]
def A7a(a b:GM):∃c,VP (a,b)=some c/\(c<0<->KB a b):=by
 refine⟨MK [J8 a.1 b.1,J8 a.2.1 b.2.1,O3 a.2.2 b.2.2],?_,?_⟩
 .simp_all[VP,bJ,A0,oV,A7X]
 .simp only[MK];unfold KB;by_cases h:a.1=b.1
  .rw[if_pos ((WU _ _).2 h)];have l:¬a.1<b.1:=by rw[h];exact MH _
   by_cases d:a.2.1=b.2.1
   .rw[if_pos ((WU _ _).2 d)];have m:¬a.2.1<b.2.1:=by rw[d];exact MH _
    by_cases j:a.2.2=b.2.2
    .simp_all[if_pos,bP,absurd]
    .rw[if_neg λe=>j ((bP _ _).1 e),A0G];grind
   .rw[if_neg λe=>d ((WU _ _).1 e),WO];grind
  simp_all[if_neg,WU,WO,absurd]
theorem AO2{a:FZ}{rs:List Rg}(h:N8 a=some (rs,0)):a.2.2.2.2.2.2.length<=50:=by
 unfold N8 VY at h;have⟨_,_,h⟩:=MJ h;rcases P1 h with⟨_,h⟩|⟨_,h⟩
 .cases h
 have⟨m,_,h⟩:=MJ h;rcases P1 h with⟨c,h⟩|⟨_,h⟩
 .have e:m=0:=congrArg Prod.snd (A2 h);rw[e]at c;cases c
 have⟨_,_,h⟩:=MJ h;rcases P1 h with⟨_,h⟩|⟨_,h⟩
 .cases h
 rcases P1 h with⟨_,h⟩|⟨_,h⟩
 .cases h
 have l:((bif (decide ((50)<(a.2.2.2.2.2.2.length:Int))) then some (([]),(3)) else
  (VZ (([]),a.2.2.2.2.2.2,(a.2.2.2.2.2.2.length),(0))).bind λd=>
  match d with
  | .inl j=>some (j,(0))
  | .inr y=>some (y.1,y.2))=some (rs,0))->a.2.2.2.2.2.2.length<=50:=λp=>by
  grind
 have⟨w,b,h⟩:=MJ h;rcases P1 b with⟨_,b⟩|⟨_,b⟩
 .obtain⟨s,_,b⟩:=MJ b;rcases P1 b with⟨c,b⟩|⟨_,b⟩
  .have b:=A2 b;rw[<-b]at h;have e:=congrArg Prod.snd (A2 h);rw[e]at c;cases c
  grind
 grind
def SD(a:FZ):List Rg:=((N8 a).getD ([],0)).1
def AO3{a:FZ}(h:LW a)(d:QK a=0):N8 a=some (SD a,0)∧(SD a).length=a.2.2.2.2.2.2.length∧(∀z∈SD a,∀s∈z.2,GW s)∧a.2.2.2.2.2.2.length≤50:=by
 have⟨⟨rs,e⟩,h1,b⟩:=ANn a h;have hk:=A7T h;unfold TT at hk;rw[h1,d]at hk;have j:=A2 hk;subst j;have l:SD a=rs:=by unfold SD;rw[h1];rfl
 rw[l];have⟨m,p⟩:=b rfl;grind[AO2]
def afB(x:Af)(r:Rg)(key v:DK):Bool:=(TW (x,r,key,v)).getD false
def AO4(x:Af){r:Rg}(p:∀s∈r.2,GW s)(key:DK){v:DK}(a:v.length<=1048576):TW (x,r,key,v)=some (afB x r key v)/\(afB x r key v=true->x.1=key/\v≠[]):=by
 suffices h:Tot (TW (x,r,key,v)) (λb=>b=true->x.1=key/\v≠[]) by
  obtain⟨b,h1,m⟩:=h;grind[afB]
 unfold TW;dsimp only;refine DL.2 (Tot.mono (P:=λ_=>True) (DN.2 ⟨λ_=>(ANX _ _ a).mono λ_ _=>trivial,λ_=>DM.2 trivial⟩) λw _=>DN.2 ⟨λ_=>DM.2 λh=>(oq),λl=>?_⟩);have⟨d,_⟩:=BK.1 l;have⟨e,j⟩:=BK.1 d;refine DL.2 ((ANg r _ (λs h=>⟨oc,oc⟩) a).mono λ_ _=>DM.2 λ_=>⟨by simpa[D_]using e,by simpa[D_]using j⟩)
def pH(c:FU):DK:=((MD c.2.1).getD ([],0)).1
def WV(c:FU):DK:=c.2.1.2.2.2.1
structure KyOk(cs:List FU):Prop where
 few:cs.length<=3000
 key:∀c∈cs,MD c.2.1=some (pH c,0)/\(WV c).length<=1048576
 once:∀(i j:Nat) (c d:FU),cs[i]?=some c->cs[j]?=some d->pH c=pH d->WV c≠[]->WV d≠[]->i=j
abbrev KM:=List (DK×List Int)
def LY(m:KM)(k:DK):List Int:=(DU DP k m).getD []
theorem AO5(k a:DK)(v:List Int)(m:KM):DU DP k (EB DP a v m)=if k=a then some v else DU DP k m:=pG D_ k a v m
structure BkOk(cs:List FU)(n:Nat)(m:KM):Prop where
 asc:∀k,(LY m k).Pairwise λa b=>a<b
 mem:∀k x,x∈LY m k<->∃(j:Nat) (c:FU),j<n/\cs[j]?=some c/\x=(j:Int)/\pH c=k
def bk_len{cs:List FU}{n:Nat}{m:KM}(h:BkOk cs n m)(k:DK):(LY m k).length<=n:=by
 have d:(LY m k).Nodup:=(h.asc k).imp λ{a b} l e=>oa
 have:=List.Nodup.length_le_of_subset d (l₂:=(List.range n).map λj:Nat=>(j:Int)) λx p=>by
  have⟨j,c,h1,_,s,_⟩:=(h.mem k x).1 p;grind
 grind
abbrev ID:=DK×DK×Int
def AO6{bs:Bs}(d:WQ bs):bs.2.1.Pairwise λa b=>a.1<b.1:=by
 have step:∀i (h:i+1<bs.2.1.length),bs.2.1[i].1<bs.2.1[i+1].1:=λi h=>
  ((d.2.2.2 (i+1) h).1 _ (A1 h)).2 oa _ oh
 refine C4.2 λi j hi l e=>?_;induction j<;>grind
end Go.Ev.Pv
