/-
  The law as plain Lean, second part: bills, matching.
-/
import Derived.Test.YtkmeffadhdmdhaaGreatDoorA1
set_option linter.all false
set_option maxRecDepth 100000
noncomputable section
namespace Go.Ev.Pv
def JN{α:Type}{m:X1 α}{v:α}(h:Z1 m λr=>r=v):m=some v:=let ⟨_,h1,h2⟩:=h;h2▸h1
def E_{X R σ:Type}{r:(X->X1 R)->X->X1 R}(n:Nat)(enc:σ->Int->X)(J:Nat->σ->Prop){Q:R->Prop}(j:n<4611686018427387904)
 (h:∀next s (i:Nat),i<n->J i s->(∀d,J (i+1) d->Z1 (next (enc d ((i:Int)+1))) Q)->Z1 (r next (enc s (i:Int))) Q)
 (a:∀next s,J n s->Z1 (r next (enc s (n:Int))) Q)(s0:σ)(h0:J 0 s0):Z1 (E0 r fuel (enc s0 0)) Q:=by
 have key:∀(m i k:Nat) s,i+m=n->m<k->J i s->Z1 (E0 r k (enc s (i))) Q:=by
  intro m;induction m with
  |zero=>
   intro i k s hi hk b;cases k with
   |zero=>omega
   |succ k=>rw[show i=n by omega]at b ⊢;exact a _ s b
  |succ m l=>
   intro i k s hi hk b;cases k with
   |zero=>omega
   |succ k=>refine h _ s i oa b λd e=>?_;grind
 have:=key n 0 fuel s0 oa (by unfold fuel;omega) h0;exact this
def EW{i:Nat}(h:i<4611686018427387904):IntKind.i64.wrap ((i:Int)+1)=(i:Int)+1:=EJ oa oa
theorem ET{α:Type}{l:KX α}{i:Nat}{x:α}(h:l[i]?=some x):at? l (i:Int)=some x:=by assumption
def AOP{n i:Nat}(h:i<n):in? n (i:Int)=some ():=by grind[in?,decide_eq_true,Int.natCast_nonneg]
theorem E4(i n:Nat):decide ((i:Int)<(n:Int))=decide (i<n):=by simp
def XK(s:Int):Prop:=0<=s/\s<65536
def bt(s:Int)(i:Nat):X5:=s.toNat.testBit i
abbrev NP:=DO×(Int×KX ((X5×X5×DO)×(X5×X5×DO)))×Int
abbrev SW:=DO×DO×KX NP×X5
abbrev SX:=DO×DO
abbrev AOQ:=Int×(KX (DO×(KX DO)×DO×Int×X5×DO×(KX (DO×Int×(KX (Int×DO))×(KX DO)×(KX DO)))))×(KX Int)
abbrev H9:=KX SW×KX NP×Int×KX SX×KX DO×X5×AOQ
def OG{α:Type}(p:α->X5)(l:KX α):Int:=match l.findIdx? p with
 |some i=>i
 |none=>-1
def A8K{α:Type}{p:α->X5}{l:KX α}{i:Nat}{x:α}(h:l[i]?=some x)(d:p x=true)(a:∀y∈l.take i,p y=false):OG p l=i:=by
 have:l.findIdx? p=some i:=by rw[List.findIdx?_eq_some_iff_getElem];have⟨hi,e⟩:=A3.1 h;refine⟨hi,oc,λj b=>?_⟩;have:=a l[j] (DH.2 ⟨j,oa,rfl⟩);simp[this]
 unfold OG;rw[this]
def AOR{α:Type}{p:α->X5}{l:KX α}(h:∀y∈l,p y=false):OG p l= -1:=by grind[List.findIdx?_eq_none_iff,OG]
def AOS{α:Type}(p:α->X5)(l:KX α):(OG p l= -1/\∀y∈l,p y=false)\/∃(i:Nat) (x:α),OG p l=i/\l[i]?=some x/\p x=true/\∀(j:Nat) (y:α),j<i->l[j]?=some y->p y=false:=by
 cases h:l.findIdx? p with
 |none=>grind[List.findIdx?_eq_none_iff,OG]
 |some i=>
  right;rw[List.findIdx?_eq_some_iff_getElem]at h;obtain⟨hi,a,e⟩:=h;refine⟨i,l[i],?_,A1 hi,a,λj y d b=>?_⟩
  .refine A8K (A1 hi) a λy b=>?_;obtain⟨j,d,rfl⟩:=DH.1 b;grind
  grind
def AOT(v:DO)(l:KX DO):OG (λx=>decide (v=x)) l<0<->v ∉ l:=by
 rcases AOS (λx=>decide (v=x)) l with⟨h,a⟩|⟨i,x,h,a,b,_⟩
 .grind
 grind
def AOU(l:KX DO)(v:DO)(d:l.length<4611686018427387904):UA (l,v)=some (OG (λx=>decide (v=x)) l):=by
 unfold UA;dsimp only;have:Z1 (kE (l,v,(l.length),(0))) (λq=>(match q with| .inl _=>-1| .inr y=>y)=OG (λx=>decide (v=x)) l):=by
  refine E_ _ (λ_ i=>(l,v,(l.length:Int),i)) (λi _=>∀y∈l.take i,decide (v=y)=false) d (λnext _ i hi b e=>?_) (λnext _ b=>?_) () oh
  .unfold kD;dsimp only;rw[E4,A6 hi,A4,ET (A1 hi)];refine DR.2 ⟨λh=>DQ.2 ?_,λh=>?_⟩
   .exact(A8K (A1 hi) (by rwa[E3]at h) b).symm
   .rw[EW oa];refine e () ?_;intro y a;rw[GO (A1 hi),AX,AO]at a;rcases a with a|rfl
    .exact b y a
    .rwa[E3]at h
  .simp_all[kD,E4,A9,AA,A8,DQ,AOR,AR]
 obtain⟨q,j,m⟩:=this;grind
def OH(l:KX SX)(name:DO):DO×X5:=match l.find? (λp=>decide (p.1=name))with
 |some p=>(p.2,true)
 |none=>([],false)
def cB(sc:Int)(l:KX NP):KX NP:=l.filter λn=>decide (n.2.2<=sc)
def A8L(t:H9)(p:SX):KX NP:=match t.1.find? (λo=>decide (o.1=p.1)&&decide (o.2.1=p.2))with
 |some o=>cB t.2.2.1 o.2.2.1
 |none=>[]
def AOV{k:Int}{w:DO}{v:Vr}(h:KN (k,w)=some (v,0)):w.length<=100:=by apply BX;intro a;have hd:decide ((100:Int)<(w.length))=true:=A6 oa;unfold KN at h;grind
def A8M(x:Int×(X5×X5×(KX UInt8)))(h:x.2.2.2.length<=1048576):Z1 (SH x) (λr:(KX UInt8)×Int=>r.2=0->x.2.2.2.length<=100):=by
 refine DR.2 ⟨λ_=>DR.2 ⟨λ_=>DQ.2 oh,λs=>DQ.2 λ_=>?_⟩,λ_=>?_⟩
 .grind[Bool.or_eq_false_iff,E3]
 have⟨m,e,j⟩:=UR.1 (x.1,x.2.2.2) h;rw[e];refine DR.2 ⟨λd=>DQ.2 λh0=>(by rw[h0]at d;cases d),λd=>?_⟩;have h0:=by rw[DX]at d;simpa using d
 have a:=j h0;have b:=AOV (by rw[<-h0];exact e);revert a;generalize m.1=v;intro a;refine DP.2 (Z1.mono (P:=λr:KX UInt8=>r.length<=10000000) ?_ λp l=>?_)
 .rcases v with x|x|x|x|x|x
  .exact DP.2 ((A0n _ a).mono λ_ h=>DQ.2 oa)
  .exact DP.2 ((A0o.1 _ a).mono λ_ h=>DQ.2 oa)
  .exact DP.2 ((A0p.1 _ a).mono λ_ h=>DQ.2 oa)
  .exact DP.2 ((A0q _ a).mono λ_ h=>DQ.2 oa)
  .simp_all[DP,A0r,trivial,DQ]
  .exact a.elim
 refine DR.2 ⟨λ_=>DQ.2 λ_=>b,λ_=>?_⟩;refine DP.2 (Z1.mono (P:=λr:KX UInt8=>r.length<=10000000) ?_ λp l=>DQ.2 λ_=>b)
 .rcases v with x|x|x|x|x|x
  .exact DP.2 ((pL _ a).mono λ_ h=>DQ.2 oa)
  .exact DP.2 ((pM.1 _ a).mono λ_ h=>DQ.2 oa)
  .exact DP.2 ((pN _ a).mono λ_ h=>DQ.2 oa)
  .exact DP.2 ((pO.1 _ a).mono λ_ h=>DQ.2 oa)
  .exact DP.2 ((pP.1 _ a).mono λ_ h=>DQ.2 oa)
  .exact a.elim
abbrev pR(s:b_):Prop:=s.1.2.2.length<=1048576/\s.2.2.2.length<=1048576
def AOW(r:Rg)(G:∀s∈r.2,pR s)(R:r.2.length<=200):
 Z1 (z8 (r,([]:KX JD),r.2,(r.2.length:Int),0)) (λq=>(∀y,q=.inl y->y.length<=200)/\∀y,q=.inr y->y.1=[]/\y.2≠0):=by
 refine EV
  (λy:Rg×(KX JD)×(KX b_)×Int×Int=>y.1=r/\y.2.2.1=r.2/\y.2.2.2.1=r.2.length/\0<=y.2.2.2.2/\y.2.2.2.2<=r.2.length/\y.2.1.length<=y.2.2.2.2/\∀x∈y.2.1,H_ x)
  (λy=>((r.2.length:Int)-y.2.2.2.2).toNat) ?_ _ _ ⟨rfl,rfl,rfl,AV _,BE _,oh,oh⟩ (by grind[fuel])
 rintro next ⟨l,o,T,n,i⟩ m p
 dsimp only at m p;obtain⟨rfl,rfl,rfl,i0,i1,Q,C⟩:=m;unfold A6F;dsimp only;refine DR.2 ⟨λd=>?_,λd=>DQ.2 ⟨λy e=>?_,λy e=>(by cases e)⟩⟩
 .have d:=AC d;rw[EJ (n:=i+1) oa oa,EJ oa oa];refine DP.2 (EL.2 ⟨⟨i0,d⟩,λs w=>?_⟩);have⟨L,M⟩:=G s (PK w);refine DP.2 ((A8M _ oa).mono λN k1=>DR.2 ⟨λa=>DQ.2 ⟨λy e=>(by cases e),λy e=>?_⟩,λH=>?_⟩)
  .cases e;rw[DX]at a;grind
  refine DP.2 ((A8M _ oa).mono λO J=>DR.2 ⟨λa=>DQ.2 ⟨λy e=>(by cases e),λy e=>?_⟩,λI=>?_⟩)
  .cases e;rw[DX]at a;grind
  have s1:s.1.2.2.length<=100:=k1 (by grind[DX]);have z:s.2.2.2.length<=100:=J (by grind[DX]);refine DP.2 ((A8B.1 _ s1).mono λA D=>DP.2 ((A8C.1 _ z).mono λB E=>?_));refine DP.2 ((UQ.1 _ trivial).mono λU _=>?_);refine DP.2 (Z1.mono (P:=λ_=>True) (DR.2 ⟨λj=>?_,λ_=>DQ.2 trivial⟩) λW _=>?_)
  .have j:=AC (CY.1 j).2;exact EL.2 ⟨⟨oa,oa⟩,λ_ _=>trivial⟩
  refine DP.2 (Z1.mono (P:=λ_=>True) (DR.2 ⟨λj=>UQ.1 _ trivial,λ_=>DQ.2 trivial⟩) λV _=>?_);refine DR.2 ⟨λ_=>DQ.2 ⟨λy e=>(by cases e),λy e=>(oc)⟩,λ_=>?_⟩;have b:Z1 (next (l,o++[(A,B)],l.2,(l.2.length:Int),i+1)) (λq:Sum (KX JD) ((KX JD)×Int)=>(∀y,q=.inl y->y.length<=200)/\∀y,q=.inr y->y.1=[]/\y.2≠0):=by
   refine p _ ⟨rfl,rfl,rfl,oc,oc,?_,λx w=>?_⟩ oc
   .grind
   .grind
  have h:(o.length+1)*192<=70368744177664:=oa;refine DR.2 ⟨λ_=>?_,λ_=>DP.2 (FF.2 ⟨h,b⟩)⟩;refine DP.2 ((AOM s o ⟨s1,z⟩ C oa).mono λK _=>DR.2 ⟨λa=>DQ.2 ⟨λy e=>(by cases e),λy e=>?_⟩,λ_=>DP.2 (FF.2 ⟨h,b⟩)⟩);cases e;rw[DX]at a;grind
 grind
def AOX(r:Rg)(b:∀s∈r.2,pR s):Z1 (bA r) (λq=>q.1.length<=200):=by
 refine DR.2 ⟨λ_=>DQ.2 oh,λ_=>DR.2 ⟨λ_=>DQ.2 oh,λh=>?_⟩⟩;have h:=AI h;refine DP.2 ((AOW r b oa).mono λq a=>?_);rcases q with y|y
 .exact DQ.2 (a.1 y rfl)
 .refine DQ.2 ?_;grind
def con(r:Rg)(w:DO):X5:=((bC (r,w)).getD (false,0)).1
def AOY(r:Rg)(w:DO)(x:∀s∈r.2,pR s)(y:w.length<=1048576):Z1 (bC (r,w)) (λq=>q.1=con r w):=by
 suffices h:∃q,bC _=some q by obtain⟨q,h⟩:=h;exact⟨q,h,by grind[con]⟩
 show ∃q,((bA r).bind λz=>bif (!(DT z.2 _))then some _ else(KN _).bind λd=>bif (!(DT d.2 _))then some _ else(cA d.1).bind _)=some q;have⟨⟨L,e⟩,j,A⟩:=AOX r x;rw[j,A0];cases D:!(DT e 0)with
 |true=>simp
 |false=>
  rw[A8];have⟨⟨v,b⟩,l,m⟩:=UR.1 (r.1,w) y;rw[l,A0];cases a:!(DT b 0)with
  |true=>simp
  |false=>
   rw[A8];have p:b=0:=by rw[DX]at a;simpa using a
   have⟨k,B,_⟩:=A8H (m p);have⟨n,C,_⟩:=AON L k oc;simp_all
def cC(name:DO):Int×X5:=(A0O name).getD (0,false)
def NdB(n:NP):Prop:=n.1.length<=1048576/\∀s∈n.2.1.2,pR s
structure TkB(t:H9):Prop where
 offers:t.1.length<=1048576
 offer:∀o∈t.1,o.1.length<=1048576/\o.2.1.length<=1048576/\o.2.2.1.length<=1048576/\∀n∈o.2.2.1,NdB n
 needs:t.2.1.length<=1048576
 need:∀n∈t.2.1,NdB n
 old:t.2.2.2.1.length<=1048576
 pin:∀p∈t.2.2.2.1,p.1.length<=1048576/\p.2.length<=1048576
 frozen:t.2.2.2.2.1.length<=1048576
 name:∀s∈t.2.2.2.2.1,s.length<=1048576
abbrev Pu:=DO×DO×DO×DO×(KX (DO×DO))×DO
def AOa(n:Int):-9223372036854775808<=IntKind.i64.wrap n/\IntKind.i64.wrap n<=9223372036854775807:=by grind[IntKind.wrap,IntKind.signed,IntKind.bits]
def Bd(n:Int)(b:Int):Prop:=-b<=n/\n<=b
def AOb(x:DO×(KX Int)×(KX (KX (Int×Int)))×Int)(h:0<=x.2.2.2/\x.2.2.2<=6/\x.2.2.1.length=6/\x.1.length=6):Z1 (hY x) (λr=>∀y,r=.inr y->y.1=0):=by
 refine EV (λy:DO×(KX Int)×(KX _)×Int=>0<=y.2.2.2/\y.2.2.2<=6/\y.2.2.1.length=6/\y.1.length=6)
  (λy=>(6-y.2.2.2).toNat) ?_ _ _ h (by grind[fuel])
 rintro next ⟨v,w,t,i⟩ a d
 dsimp only at a d;obtain⟨i0,i1,j,l⟩:=a;unfold vY;refine DR.2 ⟨λb=>?_,λ_=>DQ.2 λy e=>(by cases e)⟩;have b:=AC b;refine DP.2 (EL.2 ⟨⟨i0,oa⟩,λ_ _=>DP.2 (EL.2 ⟨⟨i0,oa⟩,λ_ _=>DR.2 ⟨λ_=>DQ.2 λy e=>(by cases e;rfl),λ_=>?_⟩⟩)⟩);grind[DP,EY,EJ]
def AOc(x:DO):Z1 (U4 x) (λr=>Bd r.1 1000000000000):=by
 refine DP.2 ((A8F.1 _ trivial).mono λr1 h1=>DR.2 ⟨λ_=>DQ.2 (by unfold Bd;decide),λhc=>?_⟩)
 have hl : x.length = 6 := by rw [DX] at hc; have := by simpa using hc;
                              omega
 refine DP.2 ((AOb _ ⟨AV _,oh,h1,hl⟩).mono λq hq=>?_);rcases q with y|y
 .refine DR.2 ⟨λ_=>DQ.2 (by unfold Bd;decide),λ_=>DP.2 (o_.2 ⟨oi,DQ.2 ?_⟩)⟩;generalize hX:IntKind.i64.wrap (IntKind.i64.wrap _-1)=X;have hr:-9223372036854775808<=X/\X<=9223372036854775807:=by rw[<-hX];exact AOa _
  have hq:-92233720369<=X.tdiv 100000000/\X.tdiv 100000000<=92233720369:=by
   rcases Int.le_total 0 X with h|h
   .grind
   .grind
  rw[EJ oa oa];unfold Bd YL;grind
 .exact DQ.2 (by have:=hq y rfl;grind[Bd])
def AOd(a:KX Af)(l:∀z∈a,P9 z)(x:a.length<=50):Z1 (WR ([],a,(a.length:Int),0)) (λr=>(∀o,r=.inl o->o.length=a.length/\∀z∈o,∀s∈z.2,H1 s)/\∀y,r=.inr y->y.2≠0):=by
 refine EV
  (λy:(KX Rg)×(KX Af)×Int×Int=>y.2.1=a/\y.2.2.1=a.length/\0<=y.2.2.2/\y.2.2.2<=a.length/\(y.1.length)=y.2.2.2/\∀z∈y.1,∀s∈z.2,H1 s)
  (λy=>((a.length)-y.2.2.2).toNat) ?_ _ _ ⟨rfl,rfl,AV _,BE _,rfl,λz j=>by simp at j⟩ (by grind[fuel])
 rintro next ⟨o,t,n,i⟩ b d
 dsimp only at b d;obtain⟨rfl,rfl,i0,i1,B,C⟩:=b;unfold yL;refine DR.2 ⟨λh=>?_,λh=>DQ.2 ⟨λy e=>?_,λy e=>(by cases e)⟩⟩
 .have h:=AC h;rw[EJ oa oa];refine DP.2 (EL.2 ⟨⟨i0,h⟩,λw m=>DP.2 ((A8D.1 w (l w (PK m))).mono λq A=>DR.2 ⟨λp=>DQ.2 ⟨λy e=>(by cases e),λy e=>?_⟩,λ_=>?_⟩)⟩)
  .grind[DX]
  .refine DP.2 (FF.2 ⟨oc,d _ ⟨rfl,rfl,oc,oc,ot,λz j=>?_⟩ oc⟩);grind
 .cases e;grind
def AOe(a:FG)(h:LI a):Z1 (NK a) (λr=>r.2=0->r.1.length=a.2.2.2.2.2.2.length/\∀z∈r.1,∀s∈z.2,H1 s):=by
 unfold NK WQ;have j:∀{l:KX Rg} {c:Int},c≠0->Z1 (some (l,c)) (λr:(KX Rg)×Int=>r.2=0->r.1.length=a.2.2.2.2.2.2.length/\∀z∈r.1,∀s∈z.2,H1 s):=λw=>DQ.2 λe=>absurd e w;have b:Z1 (bif (decide ((50:Int)<(a.2.2.2.2.2.2.length))) then some (([]),(3)) else (WR (([]),a.2.2.2.2.2.2,(a.2.2.2.2.2.2.length),(0))).bind λm =>
  match m with
  | .inl p=>some (p,(0))
  | .inr d=>some (d.1,d.2)) (λr:(KX Rg)×Int=>r.2=0->r.1.length=a.2.2.2.2.2.2.length/\∀z∈r.1,∀s∈z.2,H1 s):=by
  refine DR.2 ⟨λ_=>j oi,λw=>DP.2 ((AOd _ h.2.2.2.2.2.2 oc).mono λq A=>?_)⟩;rcases q with y|y
  .exact DQ.2 λ_=>A.1 y rfl
  .grind
 refine DP.2 ((oY.1 _ h.1).mono λB _=>DR.2 ⟨λ_=>j oi,λ_=>?_⟩);refine DP.2 ((A8E.1 _ h.2.2.1).mono λC _=>DR.2 ⟨λx=>j (by grind[DX]),λ_=>?_⟩);refine DP.2 ((oY.1 _ h.2.2.2.1).mono λD _=>DR.2 ⟨λ_=>j oi,λ_=>DR.2 ⟨λ_=>j oi,λ_=>?_⟩⟩);refine DP.2 (DR.2 ⟨λ_=>DP.2 ((AOc _).mono λE _=>DR.2 ⟨λx=>DQ.2 ?_,λ_=>DQ.2 b⟩),λ_=>DQ.2 b⟩);grind[DX]
abbrev C3:=Int×Int×Int
def AOf(s:KX DO)(o:SW):KX DO:=if o.1∈s then s else s++[o.1]
def cD(l:KX SW):KX DO:=l.foldl AOf []
def getD_set_ne{α:Type}{l:KX α}{i j:Nat}{x d:α}(h:i≠j):(l.set i x).getD j d=l.getD j d:=by rw[AH,C4 h,AH]
structure Fx(ns:KX DO)(os:KX (KX DO)):Prop where
 len:os.length=ns.length
 few:ns.length<=12
 small:∀o∈os,o.length<=8
def wa(W:KX (KX Int))(i a:Nat):Int:=(W.getD i []).getD a 0
def al(A:KX (KX (KX Int)))(i a j:Nat):Int:=((A.getD i []).getD a []).getD j 0
def R4(os:KX (KX DO))(i:Nat):Nat:=(os.getD i []).length
structure ShW(n:Nat)(os:KX (KX DO))(W:KX (KX Int)):Prop where
 len:W.length=n
 row:∀i<n,(W.getD i []).length=R4 os i+1
 in16:∀i a,XK (wa W i a)
structure ShA(n:Nat)(os:KX (KX DO))(A:KX (KX (KX Int))):Prop where
 len:A.length=n
 row:∀i<n,(A.getD i []).length=R4 os i+1
 cell:∀i<n,∀a,a<R4 os i+1->((A.getD i []).getD a []).length=n
 in16:∀i a j,XK (al A i a j)
structure ShS(n:Nat)(st:KX Int):Prop where
 len:st.length=n
 in16:∀i,XK (st.getD i 0)
def cE(o:KX DO)(r:Rg):Nat->X5
 |0=>false
 |k+1=>match o[k]? with
  |some v=>con r v
  |none=>false
structure Fy(ns:KX DO)(os:KX (KX DO)):Prop extends Fx ns os where
 nodup:ns.Nodup
 vers:∀o∈os,∀v∈o,v.length≤1048576
structure RelW(ns:KX DO)(os:KX (KX DO))(M:Nat->Nat->NP->Prop)(W:KX (KX Int))(A:KX (KX (KX Int)))(st:KX Int):Prop where
 shW:ShW ns.length os W
 shA:ShA ns.length os A
 shS:ShS ns.length st
 st:∀i<ns.length,∀a,bt (st.getD i 0) a=true<->a<=R4 os i/\∀nd,M i a nd->nd.1∈ns
 wa:∀i<ns.length,∀a≤R4 os i,∀k,bt (wa W i a) k=true<->∃nd,M i a nd/\ns[k]?=some nd.1
 al:∀i<ns.length,∀a≤R4 os i,∀j<ns.length,∀b,bt (al A i a j) b=true<->b<=R4 os j/\(∀nd,M i a nd->ns[j]?=some nd.1->cE (os.getD j []) nd.2.1 b=true)/\
  (∀nd,M j b nd->ns[i]?=some nd.1->cE (os.getD i []) nd.2.1 a=true)
def RelW.congr{b:KX DO}{os:KX (KX DO)}{M M':Nat->Nat->NP->Prop}{W:KX (KX Int)}{A:KX (KX (KX Int))}{st:KX Int}(h:RelW b os M W A st)(e:∀i a nd,M i a nd<->M' i a nd):RelW b os M' W A st:=by have:=funext λi=>funext λa=>funext λnd=>propext (e i a nd);rwa[<-this]
def cF(t:H9)(ns:KX DO)(os:KX (KX DO))(i:Nat):Nat->KX NP
 |0=>[]
 |k+1=>match(os.getD i [])[k]?,ns[i]? with
  |some v,some nm=>A8L t (nm,v)
  |_,_=>[]
structure Dm(n:Nat)(P:Nat->Nat->Prop)(R:Nat->Prop)(st:KX Int)(rt:Int):Prop where
 shS:ShS n st
 in16:XK rt
 st:∀i<n,∀a,bt (st.getD i 0) a=true<->P i a
 rt:∀i,bt rt i=true<->R i
def Dm.congr{n:Nat}{P P':Nat→Nat→Prop}{R R':Nat→Prop}{st:KX Int}{rt:Int}(h:Dm n P R st rt)(e:∀i<n,∀a,P i a↔P' i a)(e':∀i,R i↔R' i):Dm n P' R' st rt:=
 ⟨h.shS,h.in16,λi hi a=>(h.st i hi a).trans (e i hi a),λi=>(h.rt i).trans (e' i)⟩
def oF(o:KX DO)(v:DO)(a:Nat):X5:=match OG (λx=>decide (v=x)) o with
 | .ofNat k=>decide (a=k+1)
 | .negSucc _=>false
structure Good(t:H9)(ns:KX DO)(os:KX (KX DO))(W:KX (KX Int))(A:KX (KX (KX Int)))(st:KX Int)(rt:Int):Prop where
 shW:ShW ns.length os W
 shA:ShA ns.length os A
 shS:ShS ns.length st
 in16:XK rt
 st:∀i<ns.length,∀a,bt (st.getD i 0) a=true<->a<=R4 os i/\(∀nd∈cF t ns os i a,nd.1∈ns)/\(∀nd∈cB t.2.2.1 t.2.1,ns[i]?=some nd.1->cE (os.getD i []) nd.2.1 a=true)/\
  (∀fz∈t.2.2.2.2.1,ns[i]?=some fz->oF (os.getD i []) (OH t.2.2.2.1 fz).1 a=true)
 wa:∀i<ns.length,∀a≤R4 os i,∀k,bt (wa W i a) k=true<->∃nd∈cF t ns os i a,ns[k]?=some nd.1
 al:∀i<ns.length,∀a≤R4 os i,∀j<ns.length,∀b,bt (al A i a j) b=true<->b<=R4 os j/\(∀nd∈cF t ns os i a,ns[j]?=some nd.1->cE (os.getD j []) nd.2.1 b=true)/\
  (∀nd∈cF t ns os j b,ns[i]?=some nd.1->cE (os.getD i []) nd.2.1 a=true)
 rt:∀i,bt rt i=true<->(∃nd∈cB t.2.2.1 t.2.1,ns[i]?=some nd.1)\/∃fz∈t.2.2.2.2.1,ns[i]?=some fz
inductive Reach (n:Nat) (os:List (List DO)) (W:List (List Int)) (rt:Int) (h:Nat->Nat->Prop):Nat->Prop
 |root {i:Nat}:bt rt i=true->Reach n os W rt h i
 |step {i a j:Nat}:Reach n os W rt h i->i<n->a<=R4 os i->h i a->bt (wa W i a) j=true->Reach n os W rt h j
def Reach.mono{n:Nat}{os:KX (KX DO)}{W:KX (KX Int)}{rt:Int}{h d:Nat->Nat->Prop}(p:∀i<n,∀a,h i a->d i a){j:Nat}(r:Reach n os W rt h j):Reach n os W rt d j:=by
 induction r with
 |root b=>exact .root b
 |step _ b e l m s=>exact .step s b e (p _ b _ l) m
section
variable{t:H9}{ns:KX DO}{os:KX (KX DO)}{W:KX (KX Int)}{A:KX (KX (KX Int))}{st:KX Int}{rt:Int}(hF:Fy ns os)(hG:Good t ns os W A st rt)
include hF hG
structure Pass(P:Prop)(R:Nat->Prop)(o:Int)(g:X5)(o':Int)(g':X5):Prop where
 in16:XK o'
 le:o<=o'
 sub:∀k,bt o k=true->bt o' k=true
 snd:(∀k,bt o k=true->R k)->∀k,bt o' k=true->R k
 up:g'=true->g=true\/o<o'
 cl:g'=false->g=false/\o'=o/\P
omit hF hG in
theorem Pass.next{P P':Prop}{R:Nat->Prop}{o o1 o2:Int}{g d e:X5}(b:Pass P R o g o1 d)(a:Pass P' R o1 d o2 e):Pass (P/\(o1=o->P')) R o g o2 e:=
 ⟨a.in16,Int.le_trans b.le a.le,λk h=>a.sub k (b.sub k h),λh=>a.snd (b.snd h),
  λh=>(a.up h).elim (λh=>(b.up h).imp id λh=>Int.lt_of_lt_of_le h a.le) λh=>.inr (Int.lt_of_le_of_lt b.le h),
  λh=>by have⟨j,l,m⟩:=a.cl h;have⟨p,s,w⟩:=b.cl j;grind⟩
include hF hG
end
def AOi(a b:C3):C3:=(a.1+b.1,a.2.1+b.2.1,a.2.2+b.2.2)
def cc(cs:KX (KX C3))(j a:Nat):C3:=(cs.getD j []).getD a (0,0,0)
def AOj(t:H9):KX DO:=t.2.2.2.2.1++(cB t.2.2.1 t.2.1).map λnd=>nd.1
inductive CR (t:H9) (l:List SX):DO->Prop
 |root {s:DO}:s∈AOj t->(OH l s).2=true->CR t l s
 |step {s:DO} {nd:NP}:CR t l s->nd∈A8L t (s,(OH l s).1)->(OH l nd.1).2=true->CR t l nd.1
def CR.pinned{t:H9}{l:KX SX}{s:DO}(h:CR t l s):(OH l s).2=true:=by cases h<;>grind
def cG(l:KX DO)(v:DO)(h:l.length<4611686018427387904):Z1 (L1 (l,v)) (λq=>q=true<->v∈l):=by unfold L1;dsimp only;rw[AOU l v h];refine DQ.2 ?_;rw[B3];have:=AOT v l;grind
def crF(r:Rg):Int:=(A6l r).getD 0
structure NdOk(nd:NP):Prop where
 kind:(cC nd.1).2=true
 range:crF nd.2.1=0
 same:nd.2.1.1=(cC nd.1).1
 scope:1<=nd.2.2/\nd.2.2<=4
structure NdsOk(l:KX NP):Prop where
 few:l.length<=12
 ok:∀nd∈l,NdOk nd
 asc:l.Pairwise λa b=>a.1<b.1
def pnF(name v:DO):Int×Int:=(A0P (name,v)).getD (0,0)
structure OfOk(o:SW):Prop where
 pin:(pnF o.1 o.2.1).2=0
 needs:NdsOk o.2.2.1
 other:∀nd∈o.2.2.1,nd.1≠o.1
def AOk(a b:SW):Prop:=a.1<b.1\/a.1=b.1/\ky (cC a.1).1 a.2.1<ky (cC b.1).1 b.2.1
def nOf(l:KX SW)(nm:DO):Nat:=(l.filter λo=>decide (o.1=nm)).length
structure RegOk(l:KX SW):Prop where
 ok:∀o∈l,OfOk o
 asc:l.Pairwise AOk
 few:(cD l).length<=12
 few8:∀nm,nOf l nm<=8
section
variable{t:H9}(ht:TkB t)(hB:BB t.2.2.2.2.2.2)(hl:t.2.2.2.2.2.2.2.1.length<=2000)(hR:RegOk t.1)
include ht hR in
include ht hB hl in
include ht hB hl hR in
def sl:KX C3->C3
 |[]=>(0,0,0)
 |c::l=>AOi c (sl l)
include ht hB hl in
include ht hR in
end
def US(c:UInt8):Prop:=32<=c.toNat/\c.toNat≠127
def Gd(f:Int->X1 X5):Prop:=∀c:UInt8,f (c.toNat:Int)=some true->US c
def AOl:Gd λx=>(H3 x).bind λr=>some r:=λc h=>by have:=A7p c h;grind[UP,US]
theorem AOm{c:UInt8}(h:NI (c.toNat:Int)=some true):US c:=by grind[NI,US]
def AOn{c:UInt8}(h:H3 (c.toNat:Int)=some true):US c:=AOl c (by assumption)
def cls{c:UInt8}{g:X5->X1 X5}{p:X5->X5->X5}(h:((H3 (c.toNat:Int)).bind λr1=>(bif (!r1)then NI (c.toNat:Int)else some false).bind λr2=>g (p r1 r2))=some true)
 (hg:g (p false false)=some true->US c):US c:=by
 have⟨r1,h1,h⟩:=B8.1 h;cases r1 with
 |true=>exact AOn h1
 |false=>grind[Option.bind_eq_some_iff,AOm]
section
variable{α β X R:Type}
def AOo{m:X1 α}{P:α->Prop}(h:Z1 m P){x:α}(e:m=some x):P x:=by obtain⟨y,a,b⟩:=h;grind
def M9{b:X5}{m n:X1 α}{x:α}(h:(bif b then m else n)=some x):(b=true/\m=some x)\/(b=false/\n=some x):=by grind
def GP{m:X1 α}{f:α->X1 β}{y:β}(h:m.bind f=some y):∃x,m=some x/\f x=some y:=B8.1 h
theorem at_some{l:KX α}{i:Int}{x:α}(e:at? l i=some x):0<=i/\i<l.length/\l[i.toNat]?=some x:=by have⟨⟨h,a⟩,b⟩:=EL.1 (⟨x,e,rfl⟩);grind
def AOp{r:(X->X1 R)->X->X1 R}(I:X->Prop){Q:R->Prop}(h:∀next x y,(∀a b,I a->next a=some b->Q b)->I x->r next x=some y->Q y):∀(k:Nat) (x:X) (y:R),I x->E0 r k x=some y->Q y:=by
 intro k;induction k with
 |zero=>intro x y _ e;cases e
 |succ k m=>intro x y l e;exact h _ x y (λa b d j=>m a b d j) l e
end
abbrev F9:=DO×Pu×KX (DO×DO)×DO×KX DO
abbrev NQ:=DO×DO×Int
abbrev IW:=DO×DO×DO×KX F9×KX NQ
def XL{α j:Type} [DecidableEq α]{eq:α->α->X5}(l:∀x y,eq x y=decide (x=y))(k d:α)(v:j):∀m:KX (α×j),DY eq k (EE eq d v m)=if k=d then some v else DY eq k m:=by
 intro m;induction m with
 |nil=>grind[EE,DY]
 |cons e r p=>
  obtain⟨a,b⟩:=e;simp only[EE];by_cases h:d=a
  .simp_all[decide_true,A4,DY]
  .simp only[A9 h,A8,DY,l,p];grind
def MT:KX Int->Int
 |[]=>0
 |a::r=>if a=0 then MT r else a
def AOq:∀{l:KX Int},(∀a∈l,a=0)->MT l=0:=by intro l;induction l<;>simp_all[MT,if_pos,AF,AP]
def AOr:∀{l:KX Int} {i:Nat} {a:Int},l[i]?=some a->a≠0->(∀x∈l.take i,x=0)->MT l=a:=by
 intro l;induction l with
 |nil=>simp
 |cons b r j=>
  intro i a h e d;cases i with
  |zero=>simp_all[MT,if_neg]
  |succ i=>
   have h:r[i]?=some a:=by simpa using h
   show(if b=0 then MT r else b)=a;rw[if_pos (d b oh)];grind
def A8O(l:KX Int)(m:l.length<=1000):SF l=some (MT l):=by
 unfold SF;have:Z1 (gV ((0),l,(l.length),(0))) (λq=>match q with
  | .inl _=>MT l=0
  | .inr y=>MT l=y):=by
  refine E_ l.length (λ_ i=>((0),l,(l.length:Int),i)) (λi _=>∀x∈l.take i,x=0) oa (λnext _ i hi a b=>?_) (λnext _ a=>?_) () oh
  .unfold gU;dsimp only;rw[E4,A6 hi,A4,ET (A1 hi),A0,DX,EW oa];refine DR.2 ⟨λh=>DQ.2 (AOr (A1 hi) (by simpa using h) a),λh=>b () λx d=>?_⟩;rw[GO (A1 hi),AX,AO]at d;grind
  .simp_all[gU,E4,A9,AA,A8,AR,DQ,AOq]
 obtain⟨q,e,j⟩:=this;grind
theorem XM(a b:DO):JM a b=0<->a=b:=by grind[JM,MR]
def cH(a b:Int):OF a b=0<->a=b:=by grind[OF]
theorem A0t(a b:Int):OF a b<0<->a<b:=by grind[OF]
section
variable{T:Type}
def AOs(xs:KX T)(F:T×T->X1 Int)(lt:T->T->Prop)(m:∀a b,∃c,F (a,b)=some c/\(c<0<->lt a b))(hi:∀a,¬lt a a)(z:∀a b c,lt a b->lt b c->lt a c)(y:∀a b c,¬lt a b->¬lt b c->¬lt a c):
 Z1 (O9 xs F) (λr=>r.Perm xs/\r.Pairwise λa b=>¬lt b a):=by
 have e:∀i j,IU xs F i j=true<->lt (xs.get i) (xs.get j):=λi j=>by have⟨c,d,l⟩:=m (xs.get i) (xs.get j);unfold IU O8;grind
 have x:∀i j,IU xs F i j=false<->¬lt (xs.get i) (xs.get j):=λi j=>by rw[<-e,B_]
 have w:TY xs F:=by
  refine⟨λi j=>?_,λi=>?_,λi j k d l=>?_,λi j k d l=>?_⟩
  .obtain⟨c,d,_⟩:=m (xs.get i) (xs.get j);rw[d];rfl
  .grind
  .grind
  .grind
 refine(A0l xs F w).mono λr p=>⟨p.1,p.2.imp λ{a b} h s=>?_⟩;have⟨c,d,l⟩:=m b a;grind
end
def MU(a b:Int×Int):Prop:=a.1<b.1\/a.1=b.1/\a.2<b.2
def ltE(a b:NQ):Prop:=a.1<b.1\/a.1=b.1/\(a.2.1<b.2.1\/a.2.1=b.2.1/\a.2.2<b.2.2)
def AOt(a b:NQ):∃c,gW (a,b)=some c/\(c<0<->ltE a b):=by
 refine⟨MT [JM a.1 b.1,JM a.2.1 b.2.1,OF a.2.2 b.2.2],?_,?_⟩
 .simp_all[gW,bZ,A0,pI,A8O]
 .simp only[MT];unfold ltE;by_cases h:a.1=b.1
  .rw[if_pos ((XM _ _).2 h)];have l:¬a.1<b.1:=by rw[h];exact MR _
   by_cases d:a.2.1=b.2.1
   .rw[if_pos ((XM _ _).2 d)];have m:¬a.2.1<b.2.1:=by rw[d];exact MR _
    by_cases j:a.2.2=b.2.2
    .simp_all[if_pos,cH,absurd]
    .rw[if_neg λe=>j ((cH _ _).1 e),A0t];grind
   .rw[if_neg λe=>d ((XM _ _).1 e),XH];grind
  simp_all[if_neg,XM,XH,absurd]
theorem AOu{a:FG}{rs:KX Rg}(h:NK a=some (rs,0)):a.2.2.2.2.2.2.length<=50:=by
 unfold NK WQ at h;have⟨_,_,h⟩:=GP h;rcases M9 h with⟨_,h⟩|⟨_,h⟩
 .cases h
 have⟨m,_,h⟩:=GP h;rcases M9 h with⟨c,h⟩|⟨_,h⟩
 .have e:m=0:=congrArg Prod.snd (A2 h);rw[e]at c;cases c
 have⟨_,_,h⟩:=GP h;rcases M9 h with⟨_,h⟩|⟨_,h⟩
 .cases h
 rcases M9 h with⟨_,h⟩|⟨_,h⟩
 .cases h
 have l:((bif (decide ((50)<(a.2.2.2.2.2.2.length:Int))) then some (([]),(3)) else
  (WR (([]),a.2.2.2.2.2.2,(a.2.2.2.2.2.2.length),(0))).bind λd=>
  match d with
  | .inl j=>some (j,(0))
  | .inr y=>some (y.1,y.2))=some (rs,0))->a.2.2.2.2.2.2.length<=50:=λp=>by
  grind
 have⟨w,b,h⟩:=GP h;rcases M9 b with⟨_,b⟩|⟨_,b⟩
 .obtain⟨s,_,b⟩:=GP b;rcases M9 b with⟨c,b⟩|⟨_,b⟩
  .have b:=A2 b;rw[<-b]at h;have e:=congrArg Prod.snd (A2 h);rw[e]at c;cases c
  grind
 grind
def LK(a:FG):KX Rg:=((NK a).getD ([],0)).1
def A0u{a:FG}(h:LI a)(j:MS a=0):NK a=some (LK a,0)/\(LK a).length=a.2.2.2.2.2.2.length/\(∀z∈LK a,∀s∈z.2,H1 s)/\a.2.2.2.2.2.2.length<=50:=by
 have⟨⟨rs,e⟩,b,d⟩:=AOe a h;have hk:=A8I h;unfold UB at hk;rw[b,j]at hk;have l:=A2 hk;subst l;have m:LK a=rs:=by unfold LK;rw[b];rfl
 rw[m];have⟨p,w⟩:=d rfl;grind[AOu]
def XN(x:Af)(r:Rg)(key v:DO):X5:=(UD (x,r,key,v)).getD false
def A8P(x:Af){r:Rg}(w:∀s∈r.2,H1 s)(key:DO){v:DO}(a:v.length<=1048576):UD (x,r,key,v)=some (XN x r key v)/\(XN x r key v=true->x.1=key/\v≠[]):=by
 suffices h:Z1 (UD (x,r,key,v)) (λb=>b=true->x.1=key/\v≠[]) by obtain⟨b,m,p⟩:=h;grind[XN]
 unfold UD;dsimp only;refine DP.2 (Z1.mono (P:=λ_=>True) (DR.2 ⟨λ_=>(AOL _ _ a).mono λ_ _=>trivial,λ_=>DQ.2 trivial⟩) λy _=>DR.2 ⟨λ_=>DQ.2 λh=>(om),λl=>?_⟩);have⟨d,_⟩:=BQ.1 l;have⟨e,j⟩:=BQ.1 d;refine DP.2 ((AOY r _ (λs h=>⟨oc,oc⟩) a).mono λ_ _=>DQ.2 λ_=>⟨by simpa[E3]using e,by simpa[E3]using j⟩)
def HQ(c:F9):DO:=((JV c.2.1).getD ([],0)).1
def L3(c:F9):DO:=c.2.1.2.2.2.1
abbrev KM:=KX (DO×KX Int)
def J2(m:KM)(k:DO):KX Int:=(DY DU k m).getD []
def AOv(k a:DO)(v:KX Int)(m:KM):DY DU k (EE DU a v m)=if k=a then some v else DY DU k m:=XL E3 k a v m
structure BkOk(cs:KX F9)(n:Nat)(m:KM):Prop where
 asc:∀k,(J2 m k).Pairwise λa b=>a<b
 mem:∀k x,x∈J2 m k<->∃(j:Nat) (c:F9),j<n/\cs[j]?=some c/\x=(j:Int)/\HQ c=k
def bk_len{cs:KX F9}{n:Nat}{m:KM}(h:BkOk cs n m)(k:DO):(J2 m k).length<=n:=by
 have d:(J2 m k).Nodup:=(h.asc k).imp λ{a b} l e=>oa;have:=List.Nodup.length_le_of_subset d (l₂:=(List.range n).map λj:Nat=>(j:Int)) λx p=>by have⟨j,c,s,_,w,_⟩:=(h.mem k x).1 p;grind
 grind
abbrev K7:=DO×DO×Int
def cI(cs:KX F9)(n:Int):DO:=match cs[n.toNat]? with
 |some c=>c.1
 |none=>[]
def AOw{bs:Bs}(d:XJ bs):bs.2.1.Pairwise λa b=>a.1<b.1:=by
 have step:∀i (h:i+1<bs.2.1.length),bs.2.1[i].1<bs.2.1[i+1].1:=λi h=>((d.2.2.2 (i+1) h).1 _ (A1 h)).2 oa _ oh;refine BS.2 λi j hi l e=>?_;induction j<;>grind
end Go.Ev.Pv
