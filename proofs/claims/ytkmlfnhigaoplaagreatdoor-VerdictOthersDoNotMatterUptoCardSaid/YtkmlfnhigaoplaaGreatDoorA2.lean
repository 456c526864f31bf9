/-
  The law as plain Lean, second part: bills, matching.
-/
import Derived.Test.YtkmlfnhigaoplaaGreatDoorA1
set_option linter.all false
set_option maxRecDepth 100000
noncomputable section
namespace Go.Ev.Pv
def L5{α:Type}{m:Option α}{v:α}(h:Tot m λr=>r=v):m=some v:=let ⟨_,h1,h2⟩:=h;h2▸h1
def F3{X R σ:Type}{r:(X->Option R)->X->Option R}(n:Nat)(enc:σ->Int->X)(J:Nat->σ->Prop){Q:R->Prop}(j:n<4611686018427387904)
 (h:∀next s (i:Nat),i<n->J i s->(∀d,J (i+1) d->Tot (next (enc d ((i:Int)+1))) Q)->Tot (r next (enc s (i:Int))) Q)
 (a:∀next s,J n s->Tot (r next (enc s (n:Int))) Q)(s0:σ)(h0:J 0 s0):Tot (DX r fuel (enc s0 0)) Q:=by
 have key:∀(m i k:Nat) s,i+m=n->m<k->J i s->Tot (DX r k (enc s (i))) Q:=by
  intro m;induction m with
  |zero=>
   intro i k s hi hk b;cases k with
   |zero=>omega
   |succ k=>
    rw[show i=n by omega]at b ⊢;exact a _ s b
  |succ m l=>
   intro i k s hi hk b;cases k with
   |zero=>omega
   |succ k=>
    refine h _ s i oa b λd e=>?_;grind
 have:=key n 0 fuel s0 oa (by unfold fuel;omega) h0;exact this
def EY{i:Nat}(h:i<4611686018427387904):IntKind.i64.wrap ((i:Int)+1)=(i:Int)+1:=EI oa oa
theorem ET{α:Type}{l:List α}{i:Nat}{x:α}(h:l[i]?=some x):at? l (i:Int)=some x:=by
 assumption
theorem A7P{n i:Nat}(h:i<n):in? n (i:Int)=some ():=by
 grind[in?,decide_eq_true,Int.natCast_nonneg]
theorem E2(i n:Nat):decide ((i:Int)<(n:Int))=decide (i<n):=by
 simp
def WM(s:Int):Prop:=0<=s/\s<65536
def bt(s:Int)(i:Nat):Bool:=s.toNat.testBit i
abbrev MD:=DM×(Int×List ((Bool×Bool×DM)×(Bool×Bool×DM)))×Int
abbrev S6:=DM×DM×List MD×Bool
abbrev O1:=DM×DM
abbrev ANL:=Int×(List (DM×(List DM)×DM×Int×Bool×DM×(List (DM×Int×(List (Int×DM))×(List DM)×(List DM)))))×(List Int)
abbrev GR:=List S6×List MD×Int×List O1×List DM×Bool×ANL
def ANM{α:Type}(p:α->Bool)(l:List α):Int:=match l.findIdx? p with
 |some i=>i
 |none=>-1
def KS(l:List O1)(name:DM):DM×Bool:=match l.find? (λp=>decide (p.1=name))with
 |some p=>(p.2,true)
 |none=>([],false)
def WN(sc:Int)(l:List MD):List MD:=l.filter λn=>decide (n.2.2<=sc)
def A02(t:GR)(p:O1):List MD:=match t.1.find? (λo=>decide (o.1=p.1)&&decide (o.2.1=p.2))with
 |some o=>WN t.2.2.1 o.2.2.1
 |none=>[]
def ANN{k:Int}{w:DM}{v:Vr}(h:KB (k,w)=some (v,0)):w.length<=100:=by
 apply BS;intro b;have a:decide ((100:Int)<(w.length))=true:=A6 oa;unfold KB at h;grind
def A7Q(x:Int×(Bool×Bool×(List UInt8)))(h:x.2.2.2.length<=1048576):Tot (RW x) (λr:(List UInt8)×Int=>r.2=0->x.2.2.2.length<=100):=by
 refine DP.2 ⟨λ_=>DP.2 ⟨λ_=>DO.2 oh,λp=>DO.2 λ_=>?_⟩,λ_=>?_⟩
 .grind[Bool.or_eq_false_iff,E1]
 have⟨l,e,h1⟩:=TX.1 (x.1,x.2.2.2) h;rw[e];refine DP.2 ⟨λd=>DO.2 λh0=>(by rw[h0]at d;cases d),λd=>?_⟩;have h0:=by rw[DU]at d;simpa using d
 have a:=h1 h0;have b:=ANN (by rw[<-h0];exact e);revert a;generalize l.1=v;intro a;refine DN.2 (Tot.mono (P:=λr:List UInt8=>r.length<=10000000) ?_ λm j=>?_)
 .rcases v with x|x|x|x|x|x
  .exact DN.2 ((zY _ a).mono λ_ h=>DO.2 oa)
  .exact DN.2 ((zZ.1 _ a).mono λ_ h=>DO.2 oa)
  .exact DN.2 ((z_.1 _ a).mono λ_ h=>DO.2 oa)
  .exact DN.2 ((A00 _ a).mono λ_ h=>DO.2 oa)
  .simp_all[DN,A01,trivial,DO]
  .exact a.elim
 refine DP.2 ⟨λ_=>DO.2 λ_=>b,λ_=>?_⟩;refine DN.2 (Tot.mono (P:=λr:List UInt8=>r.length<=10000000) ?_ λm j=>DO.2 λ_=>b)
 .rcases v with x|x|x|x|x|x
  .exact DN.2 ((oQ _ a).mono λ_ h=>DO.2 oa)
  .exact DN.2 ((oR.1 _ a).mono λ_ h=>DO.2 oa)
  .exact DN.2 ((oS _ a).mono λ_ h=>DO.2 oa)
  .exact DN.2 ((oU.1 _ a).mono λ_ h=>DO.2 oa)
  .exact DN.2 ((oV.1 _ a).mono λ_ h=>DO.2 oa)
  .exact a.elim
abbrev oW(s:bF):Prop:=s.1.2.2.length<=1048576/\s.2.2.2.length<=1048576
def ANO(r:Rg)(G:∀s∈r.2,oW s)(R:r.2.length<=200):
 Tot (xT (r,([]:List J0),r.2,(r.2.length:Int),0)) (λq=>(∀y,q=.inl y->y.length<=200)/\∀y,q=.inr y->y.1=[]/\y.2≠0):=by
 refine ES
  (λy:Rg×(List J0)×(List bF)×Int×Int=>y.1=r/\y.2.2.1=r.2/\y.2.2.2.1=r.2.length/\0<=y.2.2.2.2/\y.2.2.2.2<=r.2.length/\y.2.1.length<=y.2.2.2.2/\∀x∈y.2.1,HH x)
  (λy=>((r.2.length:Int)-y.2.2.2.2).toNat) ?_ _ _ ⟨rfl,rfl,rfl,AS _,B9 _,oh,oh⟩ (by grind[fuel])
 rintro next ⟨l,o,T,n,i⟩ m p
 dsimp only at m p;obtain⟨rfl,rfl,rfl,i0,i1,Q,C⟩:=m;unfold A5D;dsimp only;refine DP.2 ⟨λd=>?_,λd=>DO.2 ⟨λy e=>?_,λy e=>(by cases e)⟩⟩
 .have d:=AC d;rw[EI (n:=i+1) oa oa,EI oa oa];refine DN.2 (EJ.2 ⟨⟨i0,d⟩,λs w=>?_⟩);have⟨L,M⟩:=G s (OT w);refine DN.2 ((A7Q _ oa).mono λN k1=>DP.2 ⟨λa=>DO.2 ⟨λy e=>(by cases e),λy e=>?_⟩,λH=>?_⟩)
  .cases e;rw[DU]at a;grind
  refine DN.2 ((A7Q _ oa).mono λO J=>DP.2 ⟨λa=>DO.2 ⟨λy e=>(by cases e),λy e=>?_⟩,λI=>?_⟩)
  .cases e;rw[DU]at a;grind
  have s1:s.1.2.2.length<=100:=k1 (by grind[DU]);have z:s.2.2.2.length<=100:=J (by grind[DU]);refine DN.2 ((A7F.1 _ s1).mono λA D=>DN.2 ((A7G.1 _ z).mono λB E=>?_));refine DN.2 ((TW.1 _ trivial).mono λU _=>?_);refine DN.2 (Tot.mono (P:=λ_=>True) (DP.2 ⟨λj=>?_,λ_=>DO.2 trivial⟩) λW _=>?_)
  .have j:=AC (CV.1 j).2;exact EJ.2 ⟨⟨oa,oa⟩,λ_ _=>trivial⟩
  refine DN.2 (Tot.mono (P:=λ_=>True) (DP.2 ⟨λj=>TW.1 _ trivial,λ_=>DO.2 trivial⟩) λV _=>?_);refine DP.2 ⟨λ_=>DO.2 ⟨λy e=>(by cases e),λy e=>(oc)⟩,λ_=>?_⟩
  have b:Tot (next (l,o++[(A,B)],l.2,(l.2.length:Int),i+1)) (λq:Sum (List J0) ((List J0)×Int)=>(∀y,q=.inl y->y.length<=200)/\∀y,q=.inr y->y.1=[]/\y.2≠0):=by
   refine p _ ⟨rfl,rfl,rfl,oc,oc,?_,λx w=>?_⟩ oc
   .grind
   .grind
  have h:(o.length+1)*192<=70368744177664:=oa
  refine DP.2 ⟨λ_=>?_,λ_=>DN.2 (F9.2 ⟨h,b⟩)⟩;refine DN.2 ((ANH s o ⟨s1,z⟩ C oa).mono λK _=>DP.2 ⟨λa=>DO.2 ⟨λy e=>(by cases e),λy e=>?_⟩,λ_=>DN.2 (F9.2 ⟨h,b⟩)⟩);cases e;rw[DU]at a;grind
 grind
def ANP(r:Rg)(b:∀s∈r.2,oW s):Tot (aF r) (λq=>q.1.length<=200):=by
 refine DP.2 ⟨λ_=>DO.2 oh,λ_=>DP.2 ⟨λ_=>DO.2 oh,λh=>?_⟩⟩;have h:=AG h;refine DN.2 ((ANO r b oa).mono λq a=>?_);rcases q with y|y
 .exact DO.2 (a.1 y rfl)
 .refine DO.2 ?_;grind
def oX(r:Rg)(w:DM):Bool:=((aH (r,w)).getD (false,0)).1
def ANQ(r:Rg)(w:DM)(p:∀s∈r.2,oW s)(x:w.length<=1048576):Tot (aH (r,w)) (λq=>q.1=oX r w):=by
 suffices h:∃q,aH _=some q by
  obtain⟨q,h⟩:=h;exact⟨q,h,by grind[oX]⟩
 show ∃q,((aF r).bind λy=>bif (!(DQ y.2 _))then some _ else(KB _).bind λd=>bif (!(DQ d.2 _))then some _ else(bG d.1).bind _)=some q;have⟨⟨L,e⟩,h1,z⟩:=ANP r p;rw[h1,A0];cases C:!(DQ e 0)with
 |true=>simp
 |false=>
  rw[A8];have⟨⟨v,b⟩,j,l⟩:=TX.1 (r.1,w) x;rw[j,A0];cases a:!(DQ b 0)with
  |true=>simp
  |false=>
   rw[A8];have m:b=0:=by rw[DU]at a;simpa using a
   have⟨k,A,_⟩:=A7L (l m);have⟨n,B,_⟩:=ANI L k oc;simp_all
def bH(name:DM):Int×Bool:=(nR name).getD (0,false)
def ANR(k:Int)(w:DM):Bool:=((AIW (k,w)).getD (false,0)).1
def ANS(t:GR)(name:DM)(o:S6):Bool:=((KS t.2.2.2.1 name).2&&decide (o.2.1=(KS t.2.2.2.1 name).1))||((!o.2.2.2)&&(t.2.2.2.2.2.1||(!ANR (bH name).1 o.2.1)))
def chF(t:GR)(name:DM):List DM:=((t.1.filter λo=>decide (o.1=name)).filter (ANS t name)).map λo=>o.2.1
def NdB(n:MD):Prop:=n.1.length<=1048576/\∀s∈n.2.1.2,oW s
structure TkB(t:GR):Prop where
 offers:t.1.length<=1048576
 offer:∀o∈t.1,o.1.length<=1048576/\o.2.1.length<=1048576/\o.2.2.1.length<=1048576/\∀n∈o.2.2.1,NdB n
 needs:t.2.1.length<=1048576
 need:∀n∈t.2.1,NdB n
 old:t.2.2.2.1.length<=1048576
 pin:∀p∈t.2.2.2.1,p.1.length<=1048576/\p.2.length<=1048576
 frozen:t.2.2.2.2.1.length<=1048576
 name:∀s∈t.2.2.2.2.1,s.length<=1048576
abbrev Pu:=DM×DM×DM×DM×(List (DM×DM))×DM
def ANT(n:Int):-9223372036854775808<=IntKind.i64.wrap n/\IntKind.i64.wrap n<=9223372036854775807:=by
 grind[IntKind.wrap,IntKind.signed,IntKind.bits]
def Bd(n:Int)(b:Int):Prop:=-b<=n/\n<=b
def ANU(x:DM×(List Int)×(List (List (Int×Int)))×Int)(h:0<=x.2.2.2/\x.2.2.2<=6/\x.2.2.1.length=6/\x.1.length=6):Tot (gD x) (λr=>∀y,r=.inr y->y.1=0):=by
 refine ES (λy:DM×(List Int)×(List _)×Int=>0<=y.2.2.2/\y.2.2.2<=6/\y.2.2.1.length=6/\y.1.length=6)
  (λy=>(6-y.2.2.2).toNat) ?_ _ _ h (by grind[fuel])
 rintro next ⟨v,w,t,i⟩ a d
 dsimp only at a d;obtain⟨i0,i1,j,l⟩:=a;unfold uR;refine DP.2 ⟨λb=>?_,λ_=>DO.2 λy e=>(by cases e)⟩;have b:=AC b;refine DN.2 (EJ.2 ⟨⟨i0,oa⟩,λ_ _=>DN.2 (EJ.2 ⟨⟨i0,oa⟩,λ_ _=>DP.2 ⟨λ_=>DO.2 λy e=>(by cases e;rfl),λ_=>?_⟩⟩)⟩);grind[DN,EV,EI]
def ANV(x:DM):Tot (TC x) (λr=>Bd r.1 1000000000000):=by
 refine DN.2 ((A7J.1 _ trivial).mono λr1 h1=>DP.2 ⟨λ_=>DO.2 (by unfold Bd;decide),λhc=>?_⟩)
 have hl : x.length = 6 := by rw [DU] at hc; have := by simpa using hc;
                              omega
 refine DN.2 ((ANU _ ⟨AS _,oh,h1,hl⟩).mono λq hq=>?_);rcases q with y|y
 .refine DP.2 ⟨λ_=>DO.2 (by unfold Bd;decide),λ_=>DN.2 (oE.2 ⟨oi,DO.2 ?_⟩)⟩;generalize hX:IntKind.i64.wrap (IntKind.i64.wrap _-1)=X;have hr:-9223372036854775808<=X/\X<=9223372036854775807:=by rw[<-hX];exact ANT _
  have hq:-92233720369<=X.tdiv 100000000/\X.tdiv 100000000<=92233720369:=by
   rcases Int.le_total 0 X with h|h
   .grind
   .grind
  rw[EI oa oa];unfold Bd XY;grind
 .exact DO.2 (by have:=hq y rfl;grind[Bd])
def ANW(a:List Af)(l:∀z∈a,OS z)(x:a.length<=50):Tot (VT ([],a,(a.length:Int),0)) (λr=>(∀o,r=.inl o->o.length=a.length/\∀z∈o,∀s∈z.2,GV s)/\∀y,r=.inr y->y.2≠0):=by
 refine ES
  (λy:(List Rg)×(List Af)×Int×Int=>y.2.1=a/\y.2.2.1=a.length/\0<=y.2.2.2/\y.2.2.2<=a.length/\(y.1.length)=y.2.2.2/\∀z∈y.1,∀s∈z.2,GV s)
  (λy=>((a.length)-y.2.2.2).toNat) ?_ _ _ ⟨rfl,rfl,AS _,B9 _,rfl,λz j=>by simp at j⟩ (by grind[fuel])
 rintro next ⟨o,t,n,i⟩ b d
 dsimp only at b d;obtain⟨rfl,rfl,i0,i1,B,C⟩:=b;unfold xC;refine DP.2 ⟨λh=>?_,λh=>DO.2 ⟨λy e=>?_,λy e=>(by cases e)⟩⟩
 .have h:=AC h;rw[EI oa oa];refine DN.2 (EJ.2 ⟨⟨i0,h⟩,λw m=>DN.2 ((A7H.1 w (l w (OT m))).mono λq A=>DP.2 ⟨λp=>DO.2 ⟨λy e=>(by cases e),λy e=>?_⟩,λ_=>?_⟩)⟩)
  .grind[DU]
  .refine DN.2 (F9.2 ⟨oc,d _ ⟨rfl,rfl,oc,oc,ot,λz j=>?_⟩ oc⟩);grind
 .cases e;grind
def ANX(a:FZ)(h:LV a):Tot (N2 a) (λr=>r.2=0->r.1.length=a.2.2.2.2.2.2.length/\∀z∈r.1,∀s∈z.2,GV s):=by
 unfold N2 VS;have j:∀{l:List Rg} {c:Int},c≠0->Tot (some (l,c)) (λr:(List Rg)×Int=>r.2=0->r.1.length=a.2.2.2.2.2.2.length/\∀z∈r.1,∀s∈z.2,GV s):=λw=>DO.2 λe=>absurd e w
 have b:Tot (bif (decide ((50:Int)<(a.2.2.2.2.2.2.length))) then some (([]),(3)) else (VT (([]),a.2.2.2.2.2.2,(a.2.2.2.2.2.2.length),(0))).bind λm =>
  match m with
  | .inl p=>some (p,(0))
  | .inr d=>some (d.1,d.2)) (λr:(List Rg)×Int=>r.2=0->r.1.length=a.2.2.2.2.2.2.length/\∀z∈r.1,∀s∈z.2,GV s):=by
  refine DP.2 ⟨λ_=>j oi,λw=>DN.2 ((ANW _ h.2.2.2.2.2.2 oc).mono λq A=>?_)⟩;rcases q with y|y
  .exact DO.2 λ_=>A.1 y rfl
  .grind
 refine DN.2 ((oC.1 _ h.1).mono λB _=>DP.2 ⟨λ_=>j oi,λ_=>?_⟩);refine DN.2 ((A7I.1 _ h.2.2.1).mono λC _=>DP.2 ⟨λx=>j (by grind[DU]),λ_=>?_⟩);refine DN.2 ((oC.1 _ h.2.2.2.1).mono λD _=>DP.2 ⟨λ_=>j oi,λ_=>DP.2 ⟨λ_=>j oi,λ_=>?_⟩⟩);refine DN.2 (DP.2 ⟨λ_=>DN.2 ((ANV _).mono λE _=>DP.2 ⟨λx=>DO.2 ?_,λ_=>DO.2 b⟩),λ_=>DO.2 b⟩);grind[DU]
abbrev C3:=Int×Int×Int
def CB(c:C3)(n:Int):Prop:=Bd c.1 (2000000000000000*n)/\Bd c.2.1 n/\Bd c.2.2 (3*n)
def pcF(t:GR)(x:O1):C3:=(AIg (t,x)).getD (0,0,0)
def ANY(s:List DM)(o:S6):List DM:=if o.1∈s then s else s++[o.1]
def S7(l:List S6):List DM:=l.foldl ANY []
def ANZ(t:GR)(name:DM):List DM:=(chF t name).reverse
def getD_set_ne{α:Type}{l:List α}{i j:Nat}{x d:α}(h:i≠j):(l.set i x).getD j d=l.getD j d:=by
 rw[AF,BX h,AF]
structure Fx(ns:List DM)(os:List (List DM)):Prop where
 len:os.length=ns.length
 few:ns.length<=12
 small:∀o∈os,o.length<=8
def wa(W:List (List Int))(i a:Nat):Int:=(W.getD i []).getD a 0
def al(A:List (List (List Int)))(i a j:Nat):Int:=((A.getD i []).getD a []).getD j 0
def cnt(os:List (List DM))(i:Nat):Nat:=(os.getD i []).length
structure ShW(n:Nat)(os:List (List DM))(W:List (List Int)):Prop where
 len:W.length=n
 row:∀i<n,(W.getD i []).length=cnt os i+1
 in16:∀i a,WM (wa W i a)
structure ShA(n:Nat)(os:List (List DM))(A:List (List (List Int))):Prop where
 len:A.length=n
 row:∀i<n,(A.getD i []).length=cnt os i+1
 cell:∀i<n,∀a,a<cnt os i+1->((A.getD i []).getD a []).length=n
 in16:∀i a j,WM (al A i a j)
structure ShS(n:Nat)(st:List Int):Prop where
 len:st.length=n
 in16:∀i,WM (st.getD i 0)
def bI(o:List DM)(r:Rg):Nat->Bool
 |0=>false
 |k+1=>match o[k]? with
  |some v=>oX r v
  |none=>false
structure Fy(ns:List DM)(os:List (List DM)):Prop extends Fx ns os where
 nodup:ns.Nodup
 vers:∀o∈os,∀v∈o,v.length<=1048576
structure RelW(ns:List DM)(os:List (List DM))(M:Nat->Nat->MD->Prop)(W:List (List Int))(A:List (List (List Int)))(st:List Int):Prop where
 shW:ShW ns.length os W
 shA:ShA ns.length os A
 shS:ShS ns.length st
 st:∀i<ns.length,∀a,bt (st.getD i 0) a=true<->a<=cnt os i/\∀nd,M i a nd->nd.1∈ns
 wa:∀i<ns.length,∀a≤cnt os i,∀k,bt (wa W i a) k=true<->∃nd,M i a nd/\ns[k]?=some nd.1
 al:∀i<ns.length,∀a≤cnt os i,∀j<ns.length,∀b,bt (al A i a j) b=true<->b<=cnt os j/\(∀nd,M i a nd->ns[j]?=some nd.1->bI (os.getD j []) nd.2.1 b=true)/\
  (∀nd,M j b nd->ns[i]?=some nd.1->bI (os.getD i []) nd.2.1 a=true)
def RelW.congr{b:List DM}{os:List (List DM)}{M M':Nat->Nat->MD->Prop}{W:List (List Int)}{A:List (List (List Int))}{st:List Int}(h:RelW b os M W A st)(e:∀i a nd,M i a nd<->M' i a nd):RelW b os M' W A st:=by
 have:=funext λi=>funext λa=>funext λnd=>propext (e i a nd);rwa[<-this]
def bJ(t:GR)(ns:List DM)(os:List (List DM))(i:Nat):Nat->List MD
 |0=>[]
 |k+1=>match(os.getD i [])[k]?,ns[i]? with
  |some v,some nm=>A02 t (nm,v)
  |_,_=>[]
structure Dm(n:Nat)(P:Nat->Nat->Prop)(R:Nat->Prop)(st:List Int)(rt:Int):Prop where
 shS:ShS n st
 in16:WM rt
 st:∀i<n,∀a,bt (st.getD i 0) a=true<->P i a
 rt:∀i,bt rt i=true<->R i
def Dm.congr{n:Nat}{P P':Nat->Nat->Prop}{R R':Nat->Prop}{st:List Int}{rt:Int}(h:Dm n P R st rt)(e:∀i<n,∀a,P i a<->P' i a)(e':∀i,R i<->R' i):Dm n P' R' st rt:=
 ⟨h.shS,h.in16,λi hi a=>(h.st i hi a).trans (e i hi a),λi=>(h.rt i).trans (e' i)⟩
def oF(o:List DM)(v:DM)(a:Nat):Bool:=match ANM (λx=>decide (v=x)) o with
 | .ofNat k=>decide (a=k+1)
 | .negSucc _=>false
structure Good(t:GR)(ns:List DM)(os:List (List DM))(W:List (List Int))(A:List (List (List Int)))(st:List Int)(rt:Int):Prop where
 shW:ShW ns.length os W
 shA:ShA ns.length os A
 shS:ShS ns.length st
 in16:WM rt
 st:∀i<ns.length,∀a,bt (st.getD i 0) a=true<->a<=cnt os i/\(∀nd∈bJ t ns os i a,nd.1∈ns)/\(∀nd∈WN t.2.2.1 t.2.1,ns[i]?=some nd.1->bI (os.getD i []) nd.2.1 a=true)/\
  (∀fz∈t.2.2.2.2.1,ns[i]?=some fz->oF (os.getD i []) (KS t.2.2.2.1 fz).1 a=true)
 wa:∀i<ns.length,∀a≤cnt os i,∀k,bt (wa W i a) k=true<->∃nd∈bJ t ns os i a,ns[k]?=some nd.1
 al:∀i<ns.length,∀a≤cnt os i,∀j<ns.length,∀b,bt (al A i a j) b=true<->b<=cnt os j/\(∀nd∈bJ t ns os i a,ns[j]?=some nd.1->bI (os.getD j []) nd.2.1 b=true)/\
  (∀nd∈bJ t ns os j b,ns[i]?=some nd.1->bI (os.getD i []) nd.2.1 a=true)
 rt:∀i,bt rt i=true<->(∃nd∈WN t.2.2.1 t.2.1,ns[i]?=some nd.1)\/∃fz∈t.2.2.2.2.1,ns[i]?=some fz
def AN_(t:GR)(ns:List DM):Prop:=(∀nd∈WN t.2.2.1 t.2.1,nd.1∈ns)/\∀fz∈t.2.2.2.2.1,fz∈ns
def oY(t:GR):List (List DM):=(S7 t.1).map (ANZ t)
inductive Reach (n:Nat) (os:List (List DM)) (W:List (List Int)) (rt:Int) (h:Nat->Nat->Prop):Nat->Prop
 |root {i:Nat}:bt rt i=true->Reach n os W rt h i
 |step {i a j:Nat}:Reach n os W rt h i->i<n->a<=cnt os i->h i a->bt (wa W i a) j=true->Reach n os W rt h j
def Reach.mono{n:Nat}{os:List (List DM)}{W:List (List Int)}{rt:Int}{h b:Nat->Nat->Prop}(m:∀i<n,∀a,h i a->b i a){j:Nat}(r:Reach n os W rt h j):Reach n os W rt b j:=by
 induction r with
 |root h1=>exact .root h1
 |step _ h1 d e l p=>exact .step p h1 d (m _ h1 _ e) l
section
variable{t:GR}{ns:List DM}{os:List (List DM)}{W:List (List Int)}{A:List (List (List Int))}{st:List Int}{rt:Int}(hF:Fy ns os)(hG:Good t ns os W A st rt)
include hF hG
structure Pass(P:Prop)(R:Nat->Prop)(o:Int)(g:Bool)(o':Int)(g':Bool):Prop where
 in16:WM o'
 le:o<=o'
 sub:∀k,bt o k=true->bt o' k=true
 snd:(∀k,bt o k=true->R k)->∀k,bt o' k=true->R k
 up:g'=true->g=true\/o<o'
 cl:g'=false->g=false/\o'=o/\P
omit hF hG in
theorem Pass.next{P P':Prop}{R:Nat->Prop}{o o1 o2:Int}{g b d:Bool}(h1:Pass P R o g o1 b)(a:Pass P' R o1 b o2 d):Pass (P/\(o1=o->P')) R o g o2 d:=
 ⟨a.in16,Int.le_trans h1.le a.le,λk h=>a.sub k (h1.sub k h),λh=>a.snd (h1.snd h),
  λh=>(a.up h).elim (λh=>(h1.up h).imp id λh=>Int.lt_of_lt_of_le h a.le) λh=>.inr (Int.lt_of_le_of_lt h1.le h),
  λh=>by
   have⟨e,j,l⟩:=a.cl h;have⟨m,p,s⟩:=h1.cl e;grind⟩
def PN(ns:List DM)(os:List (List DM))(W:List (List Int))(rt:Int)(h:Nat->Nat->Prop):Prop:=∀i<ns.length,h i 0\/Reach ns.length os W rt h i
include hF hG
structure Tk(n:Nat)(A:List (List (List Int)))(left:List Int)(i a:Nat)(m:Nat)(o:List Int):Prop where
 sh:ShS n o
 bit:∀j<n,∀b,bt (o.getD j 0) b=true<->(if j=i then b=a else bt (left.getD j 0) b=true/\(j<m->bt (al A i a j) b=true))
end
def ANa(a b:C3):C3:=(a.1+b.1,a.2.1+b.2.1,a.2.2+b.2.2)
def cc(cs:List (List C3))(j a:Nat):C3:=(cs.getD j []).getD a (0,0,0)
structure Cst(n:Nat)(os:List (List DM))(cs:List (List C3)):Prop where
 len:cs.length=n
 row:∀j<n,(cs.getD j []).length=cnt os j+1
 bd:∀j a,CB (cc cs j a) 1
section
variable(ns:List DM)(os:List (List DM))(W:List (List Int))(A:List (List (List Int)))(st:List Int)(rt:Int)
structure Val(p:List Nat):Prop where
 len:p.length=ns.length
 st:∀j<ns.length,bt (st.getD j 0) (p.getD j 0)=true
 al:∀j<ns.length,∀k<ns.length,k≠j->bt (al A k (p.getD k 0) j) (p.getD j 0)=true
 pn:PN ns os W rt (λi a=>p.getD i 0=a)
structure Dp(pre:List Nat)(left:List Int):Prop where
 sh:ShS ns.length left
 bit:∀j<ns.length,∀b,bt (left.getD j 0) b=true<->bt (st.getD j 0) b=true/\(j<pre.length->b=pre.getD j 0)/\∀k<pre.length,k≠j->bt (al A k (pre.getD k 0) j) b=true
end
def met(l:List O1)(nd:MD):Prop:=(KS l nd.1).2=true/\oX nd.2.1 (KS l nd.1).1=true
def ANb(t:GR):List DM:=t.2.2.2.2.1++(WN t.2.2.1 t.2.1).map λnd=>nd.1
inductive CR (t:GR) (l:List O1):DM->Prop
 |root {s:DM}:s∈ANb t->(KS l s).2=true->CR t l s
 |step {s:DM} {nd:MD}:CR t l s->nd∈A02 t (s,(KS l s).1)->(KS l nd.1).2=true->CR t l nd.1
def CR.pinned{t:GR}{l:List O1}{s:DM}(h:CR t l s):(KS l s).2=true:=by
 cases h<;>grind
structure Right(t:GR)(l:List O1):Prop where
 needs:∀nd∈WN t.2.2.1 t.2.1,met l nd
 pins:∀p∈l,p.2∈chF t p.1/\∀nd∈A02 t p,met l nd
 more:∀p∈l,CR t l p.1
 frozen:∀s∈t.2.2.2.2.1,(KS l s).2=true/\(KS l s).1=(KS t.2.2.2.1 s).1
def crF(r:Rg):Int:=(A5o r).getD 0
structure NdOk(nd:MD):Prop where
 kind:(bH nd.1).2=true
 range:crF nd.2.1=0
 same:nd.2.1.1=(bH nd.1).1
 scope:1<=nd.2.2/\nd.2.2<=4
structure NdsOk(l:List MD):Prop where
 few:l.length<=12
 ok:∀nd∈l,NdOk nd
 asc:l.Pairwise λa b=>a.1<b.1
def pnF(name v:DM):Int×Int:=(z6 (name,v)).getD (0,0)
structure LkOk(l:List O1):Prop where
 few:l.length<=12
 ok:∀p∈l,(pnF p.1 p.2).2=0
 asc:l.Pairwise λa b=>a.1<b.1
structure OfOk(o:S6):Prop where
 pin:(pnF o.1 o.2.1).2=0
 needs:NdsOk o.2.2.1
 other:∀nd∈o.2.2.1,nd.1≠o.1
def ANc(a b:S6):Prop:=a.1<b.1\/a.1=b.1/\ky (bH a.1).1 a.2.1<ky (bH b.1).1 b.2.1
def nOf(l:List S6)(nm:DM):Nat:=(l.filter λo=>decide (o.1=nm)).length
structure RegOk(l:List S6):Prop where
 ok:∀o∈l,OfOk o
 asc:l.Pairwise ANc
 few:(S7 l).length<=12
 few8:∀nm,nOf l nm<=8
structure TaskOk(t:GR):Prop where
 reg:RegOk t.1
 needs:NdsOk t.2.1
 scope:1<=t.2.2.1/\t.2.2.1<=4
 old:LkOk t.2.2.2.1
 frozen:∀s∈t.2.2.2.2.1,(KS t.2.2.2.1 s).2=true
 asc:t.2.2.2.2.1.Pairwise λa b=>a<b
 base:WL t.2.2.2.2.2.2
structure Of(ns:List DM)(os:List (List DM))(p:List Nat)(l:List O1):Prop where
 pin:∀j nm,ns[j]?=some nm->(p.getD j 0=0/\KS l nm=([],false))\/∃k v,p.getD j 0=k+1/\(os.getD j [])[k]?=some v/\KS l nm=(v,true)
 inn:∀nm,(KS l nm).2=true->nm∈ns
section
variable{t:GR}(ht:TkB t)(hB:BB t.2.2.2.2.2.2)(hl:t.2.2.2.2.2.2.2.1.length<=2000)(hR:RegOk t.1)
structure CsOk(t:GR)(cs:List (List C3)):Prop where
 cst:Cst (S7 t.1).length (oY t) cs
 zero:∀j nm,(S7 t.1)[j]?=some nm->cc cs j 0=pcF t (nm,[])
 pin:∀j nm,(S7 t.1)[j]?=some nm->∀k v,((oY t).getD j [])[k]?=some v->cc cs j (k+1)=pcF t (nm,v)
include ht hR in
include ht hB hl in
include ht hB hl hR in
def sl:List C3->C3
 |[]=>(0,0,0)
 |c::l=>ANa c (sl l)
include ht hB hl in
include ht hR in
end
def TY(c:UInt8):Prop:=32<=c.toNat/\c.toNat≠127
def Gd(f:Int->Option Bool):Prop:=∀c:UInt8,f (c.toNat:Int)=some true->TY c
def ANd:Gd λx=>(H0 x).bind λr=>some r:=λc h=>by
 have:=A6t c h;grind[TV,TY]
theorem ANe{c:UInt8}(h:N0 (c.toNat:Int)=some true):TY c:=by
 grind[N0,TY]
def ANf{c:UInt8}(h:H0 (c.toNat:Int)=some true):TY c:=ANd c (by assumption)
def cls{c:UInt8}{g:Bool->Option Bool}{p:Bool->Bool->Bool}(h:((H0 (c.toNat:Int)).bind λr1=>(bif (!r1)then N0 (c.toNat:Int)else some false).bind λr2=>g (p r1 r2))=some true)
 (hg:g (p false false)=some true->TY c):TY c:=by
 have⟨r1,h1,h⟩:=B6.1 h;cases r1 with
 |true=>exact ANf h1
 |false=>
  grind[Option.bind_eq_some_iff,ANe]
section
variable{α β X R:Type}
def ANg{m:Option α}{P:α->Prop}(h:Tot m P){x:α}(e:m=some x):P x:=by
 obtain⟨y,h1,a⟩:=h;grind
def OU{b:Bool}{m n:Option α}{x:α}(h:(bif b then m else n)=some x):(b=true/\m=some x)\/(b=false/\n=some x):=by
 grind
def ME{m:Option α}{f:α->Option β}{y:β}(h:m.bind f=some y):∃x,m=some x/\f x=some y:=B6.1 h
theorem at_some{l:List α}{i:Int}{x:α}(e:at? l i=some x):0<=i/\i<l.length/\l[i.toNat]?=some x:=by
 have⟨⟨h1,h⟩,a⟩:=EJ.1 (⟨x,e,rfl⟩);grind
end
abbrev FU:=DM×Pu×List (DM×DM)×DM×List DM
abbrev S8:=DM×DM×Int
abbrev JM:=DM×DM×DM×List FU×List S8
structure CoOk(c:FU):Prop where
 ref:VH (c.1,100)=some true
 purl:KQ c.2.1=some 0
 dig:c.2.2.1=[]
 lic:c.2.2.2.1=[]
 files:c.2.2.2.2=[]
def A03{α j:Type} [DecidableEq α]{eq:α->α->Bool}(l:∀x y,eq x y=decide (x=y))(k d:α)(v:j):∀m:List (α×j),DZ eq k (ED eq d v m)=if k=d then some v else DZ eq k m:=by
 intro m;induction m with
 |nil=>
  grind[ED,DZ]
 |cons e r p=>
  obtain⟨a,b⟩:=e;simp only[ED];by_cases h:d=a
  .simp_all[decide_true,A7,DZ]
  .simp only[A9 h,A8,DZ,l,p];grind
structure BiOk(lo:Bool)(b:JM):Prop where
 name:b.1≠[]/\TA b.1=some true
 vers:TA b.2.1=some true
 few:b.2.2.2.1.length<=3000/\b.2.2.2.2.length<=20000
 comp:∀c∈b.2.2.2.1,CoOk c
 asc:lo=false->b.2.2.2.1.Pairwise λa c=>a.1<c.1
 root:∃c∈b.2.2.2.1,c.1=b.2.2.1
 edge:∀e∈b.2.2.2.2,1<=e.2.2/\e.2.2<=4/\(∃c∈b.2.2.2.1,c.1=e.1)/\(∃c∈b.2.2.2.1,c.1=e.2.1)/\e.1≠e.2.1
 easc:lo=false->∀(i:Nat) (x y:S8),b.2.2.2.2[i]?=some x->b.2.2.2.2[i+1]?=some y->∃r,YX (x,y)=some r/\r<0
def MF:List Int->Int
 |[]=>0
 |a::r=>if a=0 then MF r else a
def ANh:∀{l:List Int},(∀a∈l,a=0)->MF l=0:=by
 intro l;induction l<;>simp_all[MF,if_pos,AE,AN]
def ANi:∀{l:List Int} {i:Nat} {a:Int},l[i]?=some a->a≠0->(∀x∈l.take i,x=0)->MF l=a:=by
 intro l;induction l with
 |nil=>simp
 |cons b r j=>
  intro i a h e d;cases i with
  |zero=>
   simp_all[MF,if_neg]
  |succ i=>
   have h:r[i]?=some a:=by simpa using h
   show(if b=0 then MF r else b)=a;rw[if_pos (d b oh)];grind
def A7R(l:List Int)(j:l.length<=1000):RU l=some (MF l):=by
 unfold RU
 have:Tot (fZ ((0),l,(l.length),(0))) (λq=>match q with
  | .inl _=>MF l=0
  | .inr y=>MF l=y):=by
  refine F3 l.length (λ_ i=>((0),l,(l.length:Int),i)) (λi _=>∀x∈l.take i,x=0) oa (λnext _ i hi a b=>?_) (λnext _ a=>?_) () oh
  .unfold fY;dsimp only;rw[E2,A6 hi,A7,ET (A1 hi),A0,DU,EY oa];refine DP.2 ⟨λh=>DO.2 (ANi (A1 hi) (by simpa using h) a),λh=>b () λx d=>?_⟩;rw[GW (A1 hi),AZ,AP]at d;grind
  .simp_all[fY,E2,A9,AA,A8,AW,DO,ANh]
 obtain⟨q,h1,e⟩:=this;grind
theorem WO(a b:DM):J9 a b=0<->a=b:=by
 grind[J9,N6]
def bK(a b:Int):O0 a b=0<->a=b:=by
 grind[O0]
theorem A04(a b:Int):O0 a b<0<->a<b:=by
 grind[O0]
section
variable{T:Type}
def ANj(xs:List T)(F:T×T->Option Int)(lt:T->T->Prop)(l:∀a b,∃c,F (a,b)=some c/\(c<0<->lt a b))(hi:∀a,¬lt a a)(y:∀a b c,lt a b->lt b c->lt a c)(x:∀a b c,¬lt a b->¬lt b c->¬lt a c):
 Tot (NP xs F) (λr=>r.Perm xs/\r.Pairwise λa b=>¬lt b a):=by
 have e:∀i j,IG xs F i j=true<->lt (xs.get i) (xs.get j):=λi j=>by
  have⟨c,h1,d⟩:=l (xs.get i) (xs.get j);unfold IG NO;grind
 have w:∀i j,IG xs F i j=false<->¬lt (xs.get i) (xs.get j):=λi j=>by rw[<-e,BV]
 have s:T6 xs F:=by
  refine⟨λi j=>?_,λi=>?_,λi j k h1 d=>?_,λi j k h1 d=>?_⟩
  .obtain⟨c,h1,_⟩:=l (xs.get i) (xs.get j);rw[h1];rfl
  .grind
  .grind
  .grind
 refine(zV xs F s).mono λr m=>⟨m.1,m.2.imp λ{a b} h p=>?_⟩;have⟨c,h1,d⟩:=l b a;grind
end
def bL(a b:Int×Int):Prop:=a.1<b.1\/a.1=b.1/\a.2<b.2
def ANk(xs:List (Int×Int)):Tot (uB (xs,λx=>(lI x).bind λr=>some r)) (λr=>r.Perm xs):=by
 refine(ANj xs _ bL (λa b=>?_) (λa h=>?_) (λa b c h1 d=>?_) λa b c h1 d l=>?_).mono λr e=>e.1
 .refine⟨MF [O0 a.1 b.1,O0 a.2 b.2],?_,?_⟩
  .simp_all[lI,oN,A0,A7R]
  .simp only[MF];unfold bL;by_cases h:a.1=b.1
   .rw[if_pos ((bK _ _).2 h)];by_cases j:a.2=b.2<;>simp_all[if_pos,bK,if_neg,A04]
   simp_all[if_neg,bK,A04]
 .unfold bL at h;omega
 .unfold bL at *;omega
 grind[bL]
def ltE(a b:S8):Prop:=a.1<b.1\/a.1=b.1/\(a.2.1<b.2.1\/a.2.1=b.2.1/\a.2.2<b.2.2)
def ANl(a b:S8):∃c,YX (a,b)=some c/\(c<0<->ltE a b):=by
 refine⟨MF [J9 a.1 b.1,J9 a.2.1 b.2.1,O0 a.2.2 b.2.2],?_,?_⟩
 .simp_all[YX,bE,A0,oN,A7R]
 .simp only[MF];unfold ltE;by_cases h:a.1=b.1
  .rw[if_pos ((WO _ _).2 h)];have l:¬a.1<b.1:=by rw[h];exact N6 _
   by_cases d:a.2.1=b.2.1
   .rw[if_pos ((WO _ _).2 d)];have m:¬a.2.1<b.2.1:=by rw[d];exact N6 _
    by_cases j:a.2.2=b.2.2
    .simp_all[if_pos,bK,absurd]
    .rw[if_neg λe=>j ((bK _ _).1 e),A04];grind
   .rw[if_neg λe=>d ((WO _ _).1 e),WJ];grind
  simp_all[if_neg,WO,WJ,absurd]
theorem ANm{a:FZ}{rs:List Rg}(h:N2 a=some (rs,0)):a.2.2.2.2.2.2.length<=50:=by
 unfold N2 VS at h;have⟨_,_,h⟩:=ME h;rcases OU h with⟨_,h⟩|⟨_,h⟩
 .cases h
 have⟨m,_,h⟩:=ME h;rcases OU h with⟨c,h⟩|⟨_,h⟩
 .have e:m=0:=congrArg Prod.snd (A2 h);rw[e]at c;cases c
 have⟨_,_,h⟩:=ME h;rcases OU h with⟨_,h⟩|⟨_,h⟩
 .cases h
 rcases OU h with⟨_,h⟩|⟨_,h⟩
 .cases h
 have l:((bif (decide ((50)<(a.2.2.2.2.2.2.length:Int))) then some (([]),(3)) else
  (VT (([]),a.2.2.2.2.2.2,(a.2.2.2.2.2.2.length),(0))).bind λd=>
  match d with
  | .inl j=>some (j,(0))
  | .inr y=>some (y.1,y.2))=some (rs,0))->a.2.2.2.2.2.2.length<=50:=λp=>by
  grind
 have⟨w,b,h⟩:=ME h;rcases OU b with⟨_,b⟩|⟨_,b⟩
 .obtain⟨s,_,b⟩:=ME b;rcases OU b with⟨c,b⟩|⟨_,b⟩
  .have b:=A2 b;rw[<-b]at h;have e:=congrArg Prod.snd (A2 h);rw[e]at c;cases c
  grind
 grind
def S9(a:FZ):List Rg:=((N2 a).getD ([],0)).1
def ANn{a:FZ}(h:LV a)(d:QE a=0):N2 a=some (S9 a,0)/\(S9 a).length=a.2.2.2.2.2.2.length/\(∀z∈S9 a,∀s∈z.2,GV s)/\a.2.2.2.2.2.2.length<=50:=by
 have⟨⟨rs,e⟩,h1,b⟩:=ANX a h;have hk:=A7M h;unfold TJ at hk;rw[h1,d]at hk;have j:=A2 hk;subst j;have l:S9 a=rs:=by unfold S9;rw[h1];rfl
 rw[l];have⟨m,p⟩:=b rfl;grind[ANm]
def afB(x:Af)(r:Rg)(key v:DM):Bool:=(TN (x,r,key,v)).getD false
def ANo(x:Af){r:Rg}(p:∀s∈r.2,GV s)(key:DM){v:DM}(a:v.length<=1048576):TN (x,r,key,v)=some (afB x r key v)/\(afB x r key v=true->x.1=key/\v≠[]):=by
 suffices h:Tot (TN (x,r,key,v)) (λb=>b=true->x.1=key/\v≠[]) by
  obtain⟨b,h1,m⟩:=h;grind[afB]
 unfold TN;dsimp only;refine DN.2 (Tot.mono (P:=λ_=>True) (DP.2 ⟨λ_=>(ANG _ _ a).mono λ_ _=>trivial,λ_=>DO.2 trivial⟩) λw _=>DP.2 ⟨λ_=>DO.2 λh=>(oq),λl=>?_⟩);have⟨d,_⟩:=BL.1 l;have⟨e,j⟩:=BL.1 d;refine DN.2 ((ANQ r _ (λs h=>⟨oc,oc⟩) a).mono λ_ _=>DO.2 λ_=>⟨by simpa[E1]using e,by simpa[E1]using j⟩)
def oZ(c:FU):DM:=((M9 c.2.1).getD ([],0)).1
def WP(c:FU):DM:=c.2.1.2.2.2.1
structure KyOk(cs:List FU):Prop where
 few:cs.length<=3000
 key:∀c∈cs,M9 c.2.1=some (oZ c,0)∧(WP c).length≤1048576
 once:∀(i j:Nat) (c d:FU),cs[i]?=some c->cs[j]?=some d->oZ c=oZ d->WP c≠[]->WP d≠[]->i=j
abbrev KM:=List (DM×List Int)
def LW(m:KM)(k:DM):List Int:=(DZ DR k m).getD []
theorem ANp(k a:DM)(v:List Int)(m:KM):DZ DR k (ED DR a v m)=if k=a then some v else DZ DR k m:=A03 E1 k a v m
structure BkOk(cs:List FU)(n:Nat)(m:KM):Prop where
 asc:∀k,(LW m k).Pairwise λa b=>a<b
 mem:∀k x,x∈LW m k<->∃(j:Nat) (c:FU),j<n/\cs[j]?=some c/\x=(j:Int)/\oZ c=k
def bk_len{cs:List FU}{n:Nat}{m:KM}(h:BkOk cs n m)(k:DM):(LW m k).length<=n:=by
 have d:(LW m k).Nodup:=(h.asc k).imp λ{a b} l e=>oa
 have:=List.Nodup.length_le_of_subset d (l₂:=(List.range n).map λj:Nat=>(j:Int)) λx p=>by
  have⟨j,c,h1,_,s,_⟩:=(h.mem k x).1 p;grind
 grind
abbrev IR:=DM×DM×Int
def ANq{bs:Bs}(d:WL bs):bs.2.1.Pairwise λa b=>a.1<b.1:=by
 have step:∀i (h:i+1<bs.2.1.length),bs.2.1[i].1<bs.2.1[i+1].1:=λi h=>
  ((d.2.2.2 (i+1) h).1 _ (A1 h)).2 oa _ oh
 refine C7.2 λi j hi l e=>?_;induction j<;>grind
end Go.Ev.Pv
