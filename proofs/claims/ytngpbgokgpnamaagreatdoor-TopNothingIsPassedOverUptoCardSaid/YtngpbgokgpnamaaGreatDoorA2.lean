/-
  The law as plain Lean, second part: bills, matching.
-/
import Derived.Test.YtngpbgokgpnamaaGreatDoorA1
set_option linter.all false
set_option maxRecDepth 100000
noncomputable section
namespace Go.Ev.Pv
def M1{α:Type}{m:Option α}{v:α}(h:Tot m λr=>r=v):m=some v:=let ⟨_,h1,h2⟩:=h;h2▸h1
def EZ{X R σ:Type}{r:(X->Option R)->X->Option R}(n:Nat)(enc:σ->Int->X)(J:Nat->σ->Prop){Q:R->Prop}(j:n<4611686018427387904)
 (h:∀next s (i:Nat),i<n->J i s->(∀d,J (i+1) d->Tot (next (enc d ((i:Int)+1))) Q)->Tot (r next (enc s (i:Int))) Q)
 (a:∀next s,J n s->Tot (r next (enc s (n:Int))) Q)(s0:σ)(h0:J 0 s0):Tot (DX r fuel (enc s0 0)) Q:=by
 have key:∀(m i k:Nat) s,i+m=n->m<k->J i s->Tot (DX r k (enc s (i))) Q:=by
  intro m;induction m with
  |zero=>
   intro i k s hi hk b;cases k with
   |zero=>omega
   |succ k=>rw[show i=n by omega]at b ⊢;exact a _ s b
  |succ m l=>
   intro i k s hi hk b;cases k with
   |zero=>omega
   |succ k=>refine h _ s i oa b λd e=>?_;grind
 have:=key n 0 fuel s0 oa (by unfold fuel;omega) h0;exact this
def ET{i:Nat}(h:i<4611686018427387904):IntKind.i64.wrap ((i:Int)+1)=(i:Int)+1:=EH oa oa
theorem ER{α:Type}{l:List α}{i:Nat}{x:α}(h:l[i]?=some x):at? l (i:Int)=some x:=by assumption
def ANY{n i:Nat}(h:i<n):in? n (i:Int)=some ():=by grind[in?,decide_eq_true,Int.natCast_nonneg]
theorem E1(i n:Nat):decide ((i:Int)<(n:Int))=decide (i<n):=by simp
def XA(s:Int):Prop:=0<=s/\s<65536
def bt(s:Int)(i:Nat):Bool:=s.toNat.testBit i
abbrev ML:=DL×(Int×List ((Bool×Bool×DL)×(Bool×Bool×DL)))×Int
abbrev SH:=DL×DL×List ML×Bool
abbrev OA:=DL×DL
abbrev ANZ:=Int×(List (DL×(List DL)×DL×Int×Bool×DL×(List (DL×Int×(List (Int×DL))×(List DL)×(List DL)))))×(List Int)
abbrev GV:=List SH×List ML×Int×List OA×List DL×Bool×ANZ
def OB{α:Type}(p:α->Bool)(l:List α):Int:=match l.findIdx? p with
 |some i=>i
 |none=>-1
def A7d{α:Type}{p:α->Bool}{l:List α}{i:Nat}{x:α}(h:l[i]?=some x)(d:p x=true)(a:∀y∈l.take i,p y=false):OB p l=i:=by
 have:l.findIdx? p=some i:=by rw[List.findIdx?_eq_some_iff_getElem];have⟨hi,e⟩:=A3.1 h;refine⟨hi,oc,λj b=>?_⟩;have:=a l[j] (DF.2 ⟨j,oa,rfl⟩);simp[this]
 unfold OB;rw[this]
def AN_{α:Type}{p:α->Bool}{l:List α}(h:∀y∈l,p y=false):OB p l= -1:=by grind[List.findIdx?_eq_none_iff,OB]
def ANa{α:Type}(p:α->Bool)(l:List α):(OB p l= -1/\∀y∈l,p y=false)\/∃(i:Nat) (x:α),OB p l=i/\l[i]?=some x/\p x=true/\∀(j:Nat) (y:α),j<i->l[j]?=some y->p y=false:=by
 cases h:l.findIdx? p with
 |none=>grind[List.findIdx?_eq_none_iff,OB]
 |some i=>
  right;rw[List.findIdx?_eq_some_iff_getElem]at h;obtain⟨hi,a,e⟩:=h;refine⟨i,l[i],?_,A1 hi,a,λj y d b=>?_⟩
  .refine A7d (A1 hi) a λy b=>?_;obtain⟨j,d,rfl⟩:=DF.1 b;grind
  grind
def ANb(v:DL)(l:List DL):OB (λx=>decide (v=x)) l<0<->v ∉ l:=by
 rcases ANa (λx=>decide (v=x)) l with⟨h1,h⟩|⟨i,x,h1,h,a,_⟩
 .grind
 grind
def ANc(l:List DL)(v:DL)(d:l.length<4611686018427387904):TV (l,v)=some (OB (λx=>decide (v=x)) l):=by
 unfold TV;dsimp only;have:Tot (jR (l,v,(l.length),(0))) (λq=>(match q with| .inl _=>-1| .inr y=>y)=OB (λx=>decide (v=x)) l):=by
  refine EZ _ (λ_ i=>(l,v,(l.length:Int),i)) (λi _=>∀y∈l.take i,decide (v=y)=false) d (λnext _ i hi b e=>?_) (λnext _ b=>?_) () oh
  .unfold jQ;dsimp only;rw[E1,A7 hi,A6,ER (A1 hi)];refine DO.2 ⟨λh=>DN.2 ?_,λh=>?_⟩
   .exact(A7d (A1 hi) (by rwa[E0]at h) b).symm
   .rw[ET oa];refine e () ?_;intro y a;rw[GH (A1 hi),AZ,AP]at a;rcases a with a|rfl
    .exact b y a
    .rwa[E0]at h
  .simp_all[jQ,E1,A9,AA,A8,DN,AN_,AQ]
 obtain⟨q,h1,j⟩:=this;grind
def KU(l:List OA)(name:DL):DL×Bool:=match l.find? (λp=>decide (p.1=name))with
 |some p=>(p.2,true)
 |none=>([],false)
def XB(sc:Int)(l:List ML):List ML:=l.filter λn=>decide (n.2.2<=sc)
def A0N(t:GV)(p:OA):List ML:=match t.1.find? (λo=>decide (o.1=p.1)&&decide (o.2.1=p.2))with
 |some o=>XB t.2.2.1 o.2.2.1
 |none=>[]
def ANd{k:Int}{w:DL}{v:Vr}(h:KD (k,w)=some (v,0)):w.length<=100:=by apply BI;intro b;have a:decide ((100:Int)<(w.length))=true:=A7 oa;unfold KD at h;grind
def A7e(x:Int×(Bool×Bool×(List UInt8)))(h:x.2.2.2.length<=1048576):Tot (S4 x) (λr:(List UInt8)×Int=>r.2=0->x.2.2.2.length<=100):=by
 refine DO.2 ⟨λ_=>DO.2 ⟨λ_=>DN.2 oh,λp=>DN.2 λ_=>?_⟩,λ_=>?_⟩
 .grind[Bool.or_eq_false_iff,E0]
 have⟨l,e,h1⟩:=U9.1 (x.1,x.2.2.2) h;rw[e];refine DO.2 ⟨λd=>DN.2 λh0=>(by rw[h0]at d;cases d),λd=>?_⟩;have h0:=by rw[DT]at d;simpa using d
 have a:=h1 h0;have b:=ANd (by rw[<-h0];exact e);revert a;generalize l.1=v;intro a;refine DM.2 (Tot.mono (P:=λr:List UInt8=>r.length<=10000000) ?_ λm j=>?_)
 .rcases v with x|x|x|x|x|x
  .exact DM.2 ((A0E _ a).mono λ_ h=>DN.2 oa)
  .exact DM.2 ((A0F.1 _ a).mono λ_ h=>DN.2 oa)
  .exact DM.2 ((A0G.1 _ a).mono λ_ h=>DN.2 oa)
  .exact DM.2 ((A0H _ a).mono λ_ h=>DN.2 oa)
  .simp_all[DM,A0I,trivial,DN]
  .exact a.elim
 refine DO.2 ⟨λ_=>DN.2 λ_=>b,λ_=>?_⟩;refine DM.2 (Tot.mono (P:=λr:List UInt8=>r.length<=10000000) ?_ λm j=>DN.2 λ_=>b)
 .rcases v with x|x|x|x|x|x
  .exact DM.2 ((oU _ a).mono λ_ h=>DN.2 oa)
  .exact DM.2 ((oV.1 _ a).mono λ_ h=>DN.2 oa)
  .exact DM.2 ((oW _ a).mono λ_ h=>DN.2 oa)
  .exact DM.2 ((oY.1 _ a).mono λ_ h=>DN.2 oa)
  .exact DM.2 ((oZ.1 _ a).mono λ_ h=>DN.2 oa)
  .exact a.elim
abbrev o_(s:SF):Prop:=s.1.2.2.length<=1048576/\s.2.2.2.length<=1048576
def ANe(r:Rg)(G:∀s∈r.2,o_ s)(R:r.2.length<=200):
 Tot (yE (r,([]:List I9),r.2,(r.2.length:Int),0)) (λq=>(∀y,q=.inl y->y.length<=200)/\∀y,q=.inr y->y.1=[]/\y.2≠0):=by
 refine ES
  (λy:Rg×(List I9)×(List SF)×Int×Int=>y.1=r/\y.2.2.1=r.2/\y.2.2.2.1=r.2.length/\0<=y.2.2.2.2/\y.2.2.2.2<=r.2.length/\y.2.1.length<=y.2.2.2.2/\∀x∈y.2.1,GY x)
  (λy=>((r.2.length:Int)-y.2.2.2.2).toNat) ?_ _ _ ⟨rfl,rfl,rfl,AR _,B5 _,oh,oh⟩ (by grind[fuel])
 rintro next ⟨l,o,T,n,i⟩ m p
 dsimp only at m p;obtain⟨rfl,rfl,rfl,i0,i1,Q,C⟩:=m;unfold A5W;dsimp only;refine DO.2 ⟨λd=>?_,λd=>DN.2 ⟨λy e=>?_,λy e=>(by cases e)⟩⟩
 .have d:=AB d;rw[EH (n:=i+1) oa oa,EH oa oa];refine DM.2 (EI.2 ⟨⟨i0,d⟩,λs w=>?_⟩);have⟨L,M⟩:=G s (O9 w);refine DM.2 ((A7e _ oa).mono λN k1=>DO.2 ⟨λa=>DN.2 ⟨λy e=>(by cases e),λy e=>?_⟩,λH=>?_⟩)
  .cases e;rw[DT]at a;grind
  refine DM.2 ((A7e _ oa).mono λO J=>DO.2 ⟨λa=>DN.2 ⟨λy e=>(by cases e),λy e=>?_⟩,λI=>?_⟩)
  .cases e;rw[DT]at a;grind
  have s1:s.1.2.2.length<=100:=k1 (by grind[DT]);have z:s.2.2.2.length<=100:=J (by grind[DT]);refine DM.2 ((A0K.1 _ s1).mono λA D=>DM.2 ((A0L.1 _ z).mono λB E=>?_));refine DM.2 ((SG.1 _ trivial).mono λU _=>?_);refine DM.2 (Tot.mono (P:=λ_=>True) (DO.2 ⟨λj=>?_,λ_=>DN.2 trivial⟩) λW _=>?_)
  .have j:=AB (CW.1 j).2;exact EI.2 ⟨⟨oa,oa⟩,λ_ _=>trivial⟩
  refine DM.2 (Tot.mono (P:=λ_=>True) (DO.2 ⟨λj=>SG.1 _ trivial,λ_=>DN.2 trivial⟩) λV _=>?_);refine DO.2 ⟨λ_=>DN.2 ⟨λy e=>(by cases e),λy e=>(oc)⟩,λ_=>?_⟩;have b:Tot (next (l,o++[(A,B)],l.2,(l.2.length:Int),i+1)) (λq:Sum (List I9) ((List I9)×Int)=>(∀y,q=.inl y->y.length<=200)/\∀y,q=.inr y->y.1=[]/\y.2≠0):=by
   refine p _ ⟨rfl,rfl,rfl,oc,oc,?_,λx w=>?_⟩ oc
   .grind
   .grind
  have h:(o.length+1)*192<=70368744177664:=oa;refine DO.2 ⟨λ_=>?_,λ_=>DM.2 (F6.2 ⟨h,b⟩)⟩;refine DM.2 ((ANR s o ⟨s1,z⟩ C oa).mono λK _=>DO.2 ⟨λa=>DN.2 ⟨λy e=>(by cases e),λy e=>?_⟩,λ_=>DM.2 (F6.2 ⟨h,b⟩)⟩);cases e;rw[DT]at a;grind
 grind
def ANf(r:Rg)(b:∀s∈r.2,o_ s):Tot (aT r) (λq=>q.1.length<=200):=by
 refine DO.2 ⟨λ_=>DN.2 oh,λ_=>DO.2 ⟨λ_=>DN.2 oh,λh=>?_⟩⟩;have h:=AG h;refine DM.2 ((ANe r b oa).mono λq a=>?_);rcases q with y|y
 .exact DN.2 (a.1 y rfl)
 .refine DN.2 ?_;grind
def pA(r:Rg)(w:DL):Bool:=((S7 (r,w)).getD (false,0)).1
def A7f(r:Rg)(w:DL)(p:∀s∈r.2,o_ s)(x:w.length<=1048576):Tot (S7 (r,w)) (λq=>q.1=pA r w):=by
 suffices h:∃q,S7 _=some q by obtain⟨q,h⟩:=h;exact⟨q,h,by grind[pA]⟩
 show ∃q,((aT r).bind λy=>bif (!(DP y.2 _))then some _ else(KD _).bind λd=>bif (!(DP d.2 _))then some _ else(bV d.1).bind _)=some q;have⟨⟨L,e⟩,h1,z⟩:=ANf r p;rw[h1,A0];cases C:!(DP e 0)with
 |true=>simp
 |false=>
  rw[A8];have⟨⟨v,b⟩,j,l⟩:=U9.1 (r.1,w) x;rw[j,A0];cases a:!(DP b 0)with
  |true=>simp
  |false=>
   rw[A8];have m:b=0:=by rw[DT]at a;simpa using a
   have⟨k,A,_⟩:=A7_ (l m);have⟨n,B,_⟩:=ANS L k oc;simp_all
def bW(name:DL):Int×Bool:=(nU name).getD (0,false)
def ANg(k:Int)(w:DL):Bool:=((AIn (k,w)).getD (false,0)).1
def ANh(t:GV)(name:DL)(o:SH):Bool:=((KU t.2.2.2.1 name).2&&decide (o.2.1=(KU t.2.2.2.1 name).1))||((!o.2.2.2)&&(t.2.2.2.2.2.1||(!ANg (bW name).1 o.2.1)))
def chF(t:GV)(name:DL):List DL:=((t.1.filter λo=>decide (o.1=name)).filter (ANh t name)).map λo=>o.2.1
def NdB(n:ML):Prop:=n.1.length<=1048576/\∀s∈n.2.1.2,o_ s
structure TkB(t:GV):Prop where
 offers:t.1.length<=1048576
 offer:∀o∈t.1,o.1.length<=1048576/\o.2.1.length<=1048576/\o.2.2.1.length<=1048576/\∀n∈o.2.2.1,NdB n
 needs:t.2.1.length<=1048576
 need:∀n∈t.2.1,NdB n
 old:t.2.2.2.1.length<=1048576
 pin:∀p∈t.2.2.2.1,p.1.length<=1048576/\p.2.length<=1048576
 frozen:t.2.2.2.2.1.length<=1048576
 name:∀s∈t.2.2.2.2.1,s.length<=1048576
abbrev Pu:=DL×DL×DL×DL×(List (DL×DL))×DL
def ANi(n:Int):-9223372036854775808<=IntKind.i64.wrap n/\IntKind.i64.wrap n<=9223372036854775807:=by grind[IntKind.wrap,IntKind.signed,IntKind.bits]
def Bd(n:Int)(b:Int):Prop:=-b<=n/\n<=b
def ANj(x:DL×(List Int)×(List (List (Int×Int)))×Int)(h:0<=x.2.2.2/\x.2.2.2<=6/\x.2.2.1.length=6/\x.1.length=6):Tot (gN x) (λr=>∀y,r=.inr y->y.1=0):=by
 refine ES (λy:DL×(List Int)×(List _)×Int=>0<=y.2.2.2/\y.2.2.2<=6/\y.2.2.1.length=6/\y.1.length=6)
  (λy=>(6-y.2.2.2).toNat) ?_ _ _ h (by grind[fuel])
 rintro next ⟨v,w,t,i⟩ a d
 dsimp only at a d;obtain⟨i0,i1,j,l⟩:=a;unfold vF;refine DO.2 ⟨λb=>?_,λ_=>DN.2 λy e=>(by cases e)⟩;have b:=AB b;refine DM.2 (EI.2 ⟨⟨i0,oa⟩,λ_ _=>DM.2 (EI.2 ⟨⟨i0,oa⟩,λ_ _=>DO.2 ⟨λ_=>DN.2 λy e=>(by cases e;rfl),λ_=>?_⟩⟩)⟩);grind[DM,EV,EH]
def ANk(x:DL):Tot (S2 x) (λr=>Bd r.1 1000000000000):=by
 refine DM.2 ((A7Y.1 _ trivial).mono λr1 h1=>DO.2 ⟨λ_=>DN.2 (by unfold Bd;decide),λhc=>?_⟩)
 have hl : x.length = 6 := by rw [DT] at hc; have := by simpa using hc;
                              omega
 refine DM.2 ((ANj _ ⟨AR _,oh,h1,hl⟩).mono λq hq=>?_);rcases q with y|y
 .refine DO.2 ⟨λ_=>DN.2 (by unfold Bd;decide),λ_=>DM.2 (oI.2 ⟨oi,DN.2 ?_⟩)⟩;generalize hX:IntKind.i64.wrap (IntKind.i64.wrap _-1)=X;have hr:-9223372036854775808<=X/\X<=9223372036854775807:=by rw[<-hX];exact ANi _
  have hq:-92233720369<=X.tdiv 100000000/\X.tdiv 100000000<=92233720369:=by
   rcases Int.le_total 0 X with h|h
   .grind
   .grind
  rw[EH oa oa];unfold Bd YD;grind
 .exact DN.2 (by have:=hq y rfl;grind[Bd])
def ANl(a:List Af)(l:∀z∈a,O8 z)(x:a.length<=50):Tot (S5 ([],a,(a.length:Int),0)) (λr=>(∀o,r=.inl o->o.length=a.length/\∀z∈o,∀s∈z.2,GQ s)/\∀y,r=.inr y->y.2≠0):=by
 refine ES
  (λy:(List Rg)×(List Af)×Int×Int=>y.2.1=a/\y.2.2.1=a.length/\0<=y.2.2.2/\y.2.2.2<=a.length/\(y.1.length)=y.2.2.2/\∀z∈y.1,∀s∈z.2,GQ s)
  (λy=>((a.length)-y.2.2.2).toNat) ?_ _ _ ⟨rfl,rfl,AR _,B5 _,rfl,λz j=>by simp at j⟩ (by grind[fuel])
 rintro next ⟨o,t,n,i⟩ b d
 dsimp only at b d;obtain⟨rfl,rfl,i0,i1,B,C⟩:=b;unfold aM;refine DO.2 ⟨λh=>?_,λh=>DN.2 ⟨λy e=>?_,λy e=>(by cases e)⟩⟩
 .have h:=AB h;rw[EH oa oa];refine DM.2 (EI.2 ⟨⟨i0,h⟩,λw m=>DM.2 ((A7W.1 w (l w (O9 m))).mono λq A=>DO.2 ⟨λp=>DN.2 ⟨λy e=>(by cases e),λy e=>?_⟩,λ_=>?_⟩)⟩)
  .grind[DT]
  .refine DM.2 (F6.2 ⟨oc,d _ ⟨rfl,rfl,oc,oc,ot,λz j=>?_⟩ oc⟩);grind
 .cases e;grind
def ANm(a:FG)(h:L8 a):Tot (LX a) (λr=>r.2=0->r.1.length=a.2.2.2.2.2.2.length/\∀z∈r.1,∀s∈z.2,GQ s):=by
 unfold LX TW;have j:∀{l:List Rg} {c:Int},c≠0->Tot (some (l,c)) (λr:(List Rg)×Int=>r.2=0->r.1.length=a.2.2.2.2.2.2.length/\∀z∈r.1,∀s∈z.2,GQ s):=λw=>DN.2 λe=>absurd e w;have b:Tot (bif (decide ((50:Int)<(a.2.2.2.2.2.2.length))) then some (([]),(3)) else (S5 (([]),a.2.2.2.2.2.2,(a.2.2.2.2.2.2.length),(0))).bind λm =>
  match m with
  | .inl p=>some (p,(0))
  | .inr d=>some (d.1,d.2)) (λr:(List Rg)×Int=>r.2=0->r.1.length=a.2.2.2.2.2.2.length/\∀z∈r.1,∀s∈z.2,GQ s):=by
  refine DO.2 ⟨λ_=>j oi,λw=>DM.2 ((ANl _ h.2.2.2.2.2.2 oc).mono λq A=>?_)⟩;rcases q with y|y
  .exact DN.2 λ_=>A.1 y rfl
  .grind
 refine DM.2 ((oG.1 _ h.1).mono λB _=>DO.2 ⟨λ_=>j oi,λ_=>?_⟩);refine DM.2 ((A7X.1 _ h.2.2.1).mono λC _=>DO.2 ⟨λx=>j (by grind[DT]),λ_=>?_⟩);refine DM.2 ((oG.1 _ h.2.2.2.1).mono λD _=>DO.2 ⟨λ_=>j oi,λ_=>DO.2 ⟨λ_=>j oi,λ_=>?_⟩⟩);refine DM.2 (DO.2 ⟨λ_=>DM.2 ((ANk _).mono λE _=>DO.2 ⟨λx=>DN.2 ?_,λ_=>DN.2 b⟩),λ_=>DN.2 b⟩);grind[DT]
abbrev C3:=Int×Int×Int
def CB(c:C3)(n:Int):Prop:=Bd c.1 (2000000000000000*n)/\Bd c.2.1 n/\Bd c.2.2 (3*n)
def pcF(t:GV)(x:OA):C3:=(AIy (t,x)).getD (0,0,0)
def ANn(s:List DL)(o:SH):List DL:=if o.1∈s then s else s++[o.1]
def SI(l:List SH):List DL:=l.foldl ANn []
def ANo(t:GV)(name:DL):List DL:=(chF t name).reverse
def getD_set_ne{α:Type}{l:List α}{i j:Nat}{x d:α}(h:i≠j):(l.set i x).getD j d=l.getD j d:=by rw[AJ,BZ h,AJ]
structure Fx(ns:List DL)(os:List (List DL)):Prop where
 len:os.length=ns.length
 few:ns.length<=12
 small:∀o∈os,o.length<=8
def wa(W:List (List Int))(i a:Nat):Int:=(W.getD i []).getD a 0
def al(A:List (List (List Int)))(i a j:Nat):Int:=((A.getD i []).getD a []).getD j 0
def cnt(os:List (List DL))(i:Nat):Nat:=(os.getD i []).length
structure ShW(n:Nat)(os:List (List DL))(W:List (List Int)):Prop where
 len:W.length=n
 row:∀i<n,(W.getD i []).length=cnt os i+1
 in16:∀i a,XA (wa W i a)
structure ShA(n:Nat)(os:List (List DL))(A:List (List (List Int))):Prop where
 len:A.length=n
 row:∀i<n,(A.getD i []).length=cnt os i+1
 cell:∀i<n,∀a,a<cnt os i+1->((A.getD i []).getD a []).length=n
 in16:∀i a j,XA (al A i a j)
structure ShS(n:Nat)(st:List Int):Prop where
 len:st.length=n
 in16:∀i,XA (st.getD i 0)
def bX(o:List DL)(r:Rg):Nat->Bool
 |0=>false
 |k+1=>match o[k]? with
  |some v=>pA r v
  |none=>false
structure Fy(ns:List DL)(os:List (List DL)):Prop extends Fx ns os where
 nodup:ns.Nodup
 vers:∀o∈os,∀v∈o,v.length<=1048576
structure RelW(ns:List DL)(os:List (List DL))(M:Nat->Nat->ML->Prop)(W:List (List Int))(A:List (List (List Int)))(st:List Int):Prop where
 shW:ShW ns.length os W
 shA:ShA ns.length os A
 shS:ShS ns.length st
 st:∀i<ns.length,∀a,bt (st.getD i 0) a=true<->a<=cnt os i/\∀nd,M i a nd->nd.1∈ns
 wa:∀i<ns.length,∀a≤cnt os i,∀k,bt (wa W i a) k=true<->∃nd,M i a nd/\ns[k]?=some nd.1
 al:∀i<ns.length,∀a≤cnt os i,∀j<ns.length,∀b,bt (al A i a j) b=true<->b<=cnt os j/\(∀nd,M i a nd->ns[j]?=some nd.1->bX (os.getD j []) nd.2.1 b=true)/\
  (∀nd,M j b nd->ns[i]?=some nd.1->bX (os.getD i []) nd.2.1 a=true)
def RelW.congr{b:List DL}{os:List (List DL)}{M M':Nat->Nat->ML->Prop}{W:List (List Int)}{A:List (List (List Int))}{st:List Int}(h:RelW b os M W A st)(e:∀i a nd,M i a nd<->M' i a nd):RelW b os M' W A st:=by have:=funext λi=>funext λa=>funext λnd=>propext (e i a nd);rwa[<-this]
def bY(t:GV)(ns:List DL)(os:List (List DL))(i:Nat):Nat->List ML
 |0=>[]
 |k+1=>match(os.getD i [])[k]?,ns[i]? with
  |some v,some nm=>A0N t (nm,v)
  |_,_=>[]
structure Dm(n:Nat)(P:Nat->Nat->Prop)(R:Nat->Prop)(st:List Int)(rt:Int):Prop where
 shS:ShS n st
 in16:XA rt
 st:∀i<n,∀a,bt (st.getD i 0) a=true<->P i a
 rt:∀i,bt rt i=true↔R i
def Dm.congr{n:Nat}{P P':Nat->Nat->Prop}{R R':Nat->Prop}{st:List Int}{rt:Int}(h:Dm n P R st rt)(e:∀i<n,∀a,P i a<->P' i a)(e':∀i,R i<->R' i):Dm n P' R' st rt:=
 ⟨h.shS,h.in16,λi hi a=>(h.st i hi a).trans (e i hi a),λi=>(h.rt i).trans (e' i)⟩
def oF(o:List DL)(v:DL)(a:Nat):Bool:=match OB (λx=>decide (v=x)) o with
 | .ofNat k=>decide (a=k+1)
 | .negSucc _=>false
structure Good(t:GV)(ns:List DL)(os:List (List DL))(W:List (List Int))(A:List (List (List Int)))(st:List Int)(rt:Int):Prop where
 shW:ShW ns.length os W
 shA:ShA ns.length os A
 shS:ShS ns.length st
 in16:XA rt
 st:∀i<ns.length,∀a,bt (st.getD i 0) a=true<->a<=cnt os i/\(∀nd∈bY t ns os i a,nd.1∈ns)/\(∀nd∈XB t.2.2.1 t.2.1,ns[i]?=some nd.1->bX (os.getD i []) nd.2.1 a=true)/\
  (∀fz∈t.2.2.2.2.1,ns[i]?=some fz->oF (os.getD i []) (KU t.2.2.2.1 fz).1 a=true)
 wa:∀i<ns.length,∀a≤cnt os i,∀k,bt (wa W i a) k=true<->∃nd∈bY t ns os i a,ns[k]?=some nd.1
 al:∀i<ns.length,∀a≤cnt os i,∀j<ns.length,∀b,bt (al A i a j) b=true<->b<=cnt os j/\(∀nd∈bY t ns os i a,ns[j]?=some nd.1->bX (os.getD j []) nd.2.1 b=true)/\
  (∀nd∈bY t ns os j b,ns[i]?=some nd.1->bX (os.getD i []) nd.2.1 a=true)
 rt:∀i,bt rt i=true<->(∃nd∈XB t.2.2.1 t.2.1,ns[i]?=some nd.1)\/∃fz∈t.2.2.2.2.1,ns[i]?=some fz
def ANp(t:GV)(ns:List DL):Prop:=(∀nd∈XB t.2.2.1 t.2.1,nd.1∈ns)/\∀fz∈t.2.2.2.2.1,fz∈ns
def pB(t:GV):List (List DL):=(SI t.1).map (ANo t)
inductive Reach (n:Nat) (os:List (List DL)) (W:List (List Int)) (rt:Int) (h:Nat->Nat->Prop):Nat->Prop
 |root {i:Nat}:bt rt i=true->Reach n os W rt h i
 |step {i a j:Nat}:Reach n os W rt h i->i<n->a<=cnt os i->h i a->bt (wa W i a) j=true->Reach n os W rt h j
def Reach.mono{n:Nat}{os:List (List DL)}{W:List (List Int)}{rt:Int}{h b:Nat->Nat->Prop}(m:∀i<n,∀a,h i a->b i a){j:Nat}(r:Reach n os W rt h j):Reach n os W rt b j:=by
 induction r with
 |root h1=>exact .root h1
 |step _ h1 d e l p=>exact .step p h1 d (m _ h1 _ e) l
section
variable{t:GV}{ns:List DL}{os:List (List DL)}{W:List (List Int)}{A:List (List (List Int))}{st:List Int}{rt:Int}(hF:Fy ns os)(hG:Good t ns os W A st rt)
include hF hG
structure Pass(P:Prop)(R:Nat->Prop)(o:Int)(g:Bool)(o':Int)(g':Bool):Prop where
 in16:XA o'
 le:o<=o'
 sub:∀k,bt o k=true->bt o' k=true
 snd:(∀k,bt o k=true->R k)->∀k,bt o' k=true->R k
 up:g'=true->g=true\/o<o'
 cl:g'=false->g=false/\o'=o/\P
omit hF hG in
theorem Pass.next{P P':Prop}{R:Nat->Prop}{o o1 o2:Int}{g b d:Bool}(h1:Pass P R o g o1 b)(a:Pass P' R o1 b o2 d):Pass (P/\(o1=o->P')) R o g o2 d:=
 ⟨a.in16,Int.le_trans h1.le a.le,λk h=>a.sub k (h1.sub k h),λh=>a.snd (h1.snd h),
  λh=>(a.up h).elim (λh=>(h1.up h).imp id λh=>Int.lt_of_lt_of_le h a.le) λh=>.inr (Int.lt_of_le_of_lt h1.le h),
  λh=>by have⟨e,j,l⟩:=a.cl h;have⟨m,p,s⟩:=h1.cl e;grind⟩
def PN(ns:List DL)(os:List (List DL))(W:List (List Int))(rt:Int)(h:Nat->Nat->Prop):Prop:=∀i<ns.length,h i 0\/Reach ns.length os W rt h i
include hF hG
structure Tk(n:Nat)(A:List (List (List Int)))(left:List Int)(i a:Nat)(m:Nat)(o:List Int):Prop where
 sh:ShS n o
 bit:∀j<n,∀b,bt (o.getD j 0) b=true<->(if j=i then b=a else bt (left.getD j 0) b=true/\(j<m->bt (al A i a j) b=true))
end
def ANq(a b:C3):C3:=(a.1+b.1,a.2.1+b.2.1,a.2.2+b.2.2)
def cc(cs:List (List C3))(j a:Nat):C3:=(cs.getD j []).getD a (0,0,0)
structure Cst(n:Nat)(os:List (List DL))(cs:List (List C3)):Prop where
 len:cs.length=n
 row:∀j<n,(cs.getD j []).length=cnt os j+1
 bd:∀j a,CB (cc cs j a) 1
section
variable(ns:List DL)(os:List (List DL))(W:List (List Int))(A:List (List (List Int)))(st:List Int)(rt:Int)
structure Val(p:List Nat):Prop where
 len:p.length=ns.length
 st:∀j<ns.length,bt (st.getD j 0) (p.getD j 0)=true
 al:∀j<ns.length,∀k<ns.length,k≠j->bt (al A k (p.getD k 0) j) (p.getD j 0)=true
 pn:PN ns os W rt (λi a=>p.getD i 0=a)
structure Dp(pre:List Nat)(left:List Int):Prop where
 sh:ShS ns.length left
 bit:∀j<ns.length,∀b,bt (left.getD j 0) b=true<->bt (st.getD j 0) b=true/\(j<pre.length->b=pre.getD j 0)/\∀k<pre.length,k≠j->bt (al A k (pre.getD k 0) j) b=true
end
def met(l:List OA)(nd:ML):Prop:=(KU l nd.1).2=true/\pA nd.2.1 (KU l nd.1).1=true
def ANr(t:GV):List DL:=t.2.2.2.2.1++(XB t.2.2.1 t.2.1).map λnd=>nd.1
inductive CR (t:GV) (l:List OA):DL->Prop
 |root {s:DL}:s∈ANr t->(KU l s).2=true->CR t l s
 |step {s:DL} {nd:ML}:CR t l s->nd∈A0N t (s,(KU l s).1)->(KU l nd.1).2=true->CR t l nd.1
def CR.pinned{t:GV}{l:List OA}{s:DL}(h:CR t l s):(KU l s).2=true:=by cases h<;>grind
structure Right(t:GV)(l:List OA):Prop where
 needs:∀nd∈XB t.2.2.1 t.2.1,met l nd
 pins:∀p∈l,p.2∈chF t p.1/\∀nd∈A0N t p,met l nd
 more:∀p∈l,CR t l p.1
 frozen:∀s∈t.2.2.2.2.1,(KU l s).2=true/\(KU l s).1=(KU t.2.2.2.1 s).1
def pC(l:List DL)(v:DL)(h:l.length<4611686018427387904):Tot (KS (l,v)) (λq=>q=true<->v∈l):=by unfold KS;dsimp only;rw[ANc l v h];refine DN.2 ?_;rw[BA];have:=ANb v l;grind
def crF(r:Rg):Int:=(A5z r).getD 0
structure NdOk(nd:ML):Prop where
 kind:(bW nd.1).2=true
 range:crF nd.2.1=0
 same:nd.2.1.1=(bW nd.1).1
 scope:1<=nd.2.2/\nd.2.2<=4
structure NdsOk(l:List ML):Prop where
 few:l.length<=12
 ok:∀nd∈l,NdOk nd
 asc:l.Pairwise λa b=>a.1<b.1
def pnF(name v:DL):Int×Int:=(zQ (name,v)).getD (0,0)
structure LkOk(l:List OA):Prop where
 few:l.length<=12
 ok:∀p∈l,(pnF p.1 p.2).2=0
 asc:l.Pairwise λa b=>a.1<b.1
structure OfOk(o:SH):Prop where
 pin:(pnF o.1 o.2.1).2=0
 needs:NdsOk o.2.2.1
 other:∀nd∈o.2.2.1,nd.1≠o.1
def ANs(a b:SH):Prop:=a.1<b.1\/a.1=b.1/\ky (bW a.1).1 a.2.1<ky (bW b.1).1 b.2.1
def nOf(l:List SH)(nm:DL):Nat:=(l.filter λo=>decide (o.1=nm)).length
structure RegOk(l:List SH):Prop where
 ok:∀o∈l,OfOk o
 asc:l.Pairwise ANs
 few:(SI l).length<=12
 few8:∀nm,nOf l nm<=8
structure TaskOk(t:GV):Prop where
 reg:RegOk t.1
 needs:NdsOk t.2.1
 scope:1<=t.2.2.1/\t.2.2.1<=4
 old:LkOk t.2.2.2.1
 frozen:∀s∈t.2.2.2.2.1,(KU t.2.2.2.1 s).2=true
 asc:t.2.2.2.2.1.Pairwise λa b=>a<b
 base:X9 t.2.2.2.2.2.2
structure Of(ns:List DL)(os:List (List DL))(p:List Nat)(l:List OA):Prop where
 pin:∀j nm,ns[j]?=some nm->(p.getD j 0=0/\KU l nm=([],false))\/∃k v,p.getD j 0=k+1/\(os.getD j [])[k]?=some v/\KU l nm=(v,true)
 inn:∀nm,(KU l nm).2=true->nm∈ns
section
variable{t:GV}(ht:TkB t)(hB:BB t.2.2.2.2.2.2)(hl:t.2.2.2.2.2.2.2.1.length<=2000)(hR:RegOk t.1)
structure CsOk(t:GV)(cs:List (List C3)):Prop where
 cst:Cst (SI t.1).length (pB t) cs
 zero:∀j nm,(SI t.1)[j]?=some nm->cc cs j 0=pcF t (nm,[])
 pin:∀j nm,(SI t.1)[j]?=some nm->∀k v,((pB t).getD j [])[k]?=some v->cc cs j (k+1)=pcF t (nm,v)
include ht hR in
include ht hB hl in
include ht hB hl hR in
def sl:List C3->C3
 |[]=>(0,0,0)
 |c::l=>ANq c (sl l)
include ht hB hl in
include ht hR in
end
def UA(c:UInt8):Prop:=32<=c.toNat/\c.toNat≠127
def Gd(f:Int->Option Bool):Prop:=∀c:UInt8,f (c.toNat:Int)=some true->UA c
def ANt:Gd λx=>(H1 x).bind λr=>some r:=λc h=>by have:=A74 c h;grind[U7,UA]
theorem ANu{c:UInt8}(h:NA (c.toNat:Int)=some true):UA c:=by grind[NA,UA]
def ANv{c:UInt8}(h:H1 (c.toNat:Int)=some true):UA c:=ANt c (by assumption)
def cls{c:UInt8}{g:Bool->Option Bool}{p:Bool->Bool->Bool}(h:((H1 (c.toNat:Int)).bind λr1=>(bif (!r1)then NA (c.toNat:Int)else some false).bind λr2=>g (p r1 r2))=some true)
 (hg:g (p false false)=some true->UA c):UA c:=by
 have⟨r1,h1,h⟩:=B6.1 h;cases r1 with
 |true=>exact ANv h1
 |false=>grind[Option.bind_eq_some_iff,ANu]
section
variable{α β X R:Type}
def ANw{m:Option α}{P:α->Prop}(h:Tot m P){x:α}(e:m=some x):P x:=by obtain⟨y,h1,a⟩:=h;grind
def FW{b:Bool}{m n:Option α}{x:α}(h:(bif b then m else n)=some x):(b=true/\m=some x)\/(b=false/\n=some x):=by grind
def FH{m:Option α}{f:α->Option β}{y:β}(h:m.bind f=some y):∃x,m=some x/\f x=some y:=B6.1 h
theorem at_some{l:List α}{i:Int}{x:α}(e:at? l i=some x):0<=i/\i<l.length/\l[i.toNat]?=some x:=by have⟨⟨h1,h⟩,a⟩:=EI.1 (⟨x,e,rfl⟩);grind
def bZ{r:(X->Option R)->X->Option R}(I:X->Prop){Q:R->Prop}(h:∀next x y,(∀a b,I a->next a=some b->Q b)->I x->r next x=some y->Q y):∀(k:Nat) (x:X) (y:R),I x->DX r k x=some y->Q y:=by
 intro k;induction k with
 |zero=>intro x y _ e;cases e
 |succ k m=>intro x y l e;exact h _ x y (λa b d j=>m a b d j) l e
end
abbrev F3:=DL×Pu×List (DL×DL)×DL×List DL
abbrev SJ:=DL×DL×Int
abbrev IW:=DL×DL×DL×List F3×List SJ
structure CoOk(c:F3):Prop where
 ref:VR (c.1,100)=some true
 purl:KR c.2.1=some 0
 dig:c.2.2.1=[]
 lic:c.2.2.2.1=[]
 files:c.2.2.2.2=[]
def A0O{α j:Type} [DecidableEq α]{eq:α->α->Bool}(l:∀x y,eq x y=decide (x=y))(k d:α)(v:j):∀m:List (α×j),DW eq k (EB eq d v m)=if k=d then some v else DW eq k m:=by
 intro m;induction m with
 |nil=>grind[EB,DW]
 |cons e r p=>
  obtain⟨a,b⟩:=e;simp only[EB];by_cases h:d=a
  .simp_all[decide_true,A6,DW]
  .simp only[A9 h,A8,DW,l,p];grind
structure BiOk(lo:Bool)(b:IW):Prop where
 name:b.1≠[]/\TM b.1=some true
 vers:TM b.2.1=some true
 few:b.2.2.2.1.length<=3000/\b.2.2.2.2.length<=20000
 comp:∀c∈b.2.2.2.1,CoOk c
 asc:lo=false->b.2.2.2.1.Pairwise λa c=>a.1<c.1
 root:∃c∈b.2.2.2.1,c.1=b.2.2.1
 edge:∀e∈b.2.2.2.2,1<=e.2.2/\e.2.2<=4/\(∃c∈b.2.2.2.1,c.1=e.1)/\(∃c∈b.2.2.2.1,c.1=e.2.1)/\e.1≠e.2.1
 easc:lo=false->∀(i:Nat) (x y:SJ),b.2.2.2.2[i]?=some x->b.2.2.2.2[i+1]?=some y->∃r,ZL (x,y)=some r/\r<0
def MM:List Int->Int
 |[]=>0
 |a::r=>if a=0 then MM r else a
def ANx:∀{l:List Int},(∀a∈l,a=0)->MM l=0:=by intro l;induction l<;>simp_all[MM,if_pos,AE,AN]
def ANy:∀{l:List Int} {i:Nat} {a:Int},l[i]?=some a->a≠0->(∀x∈l.take i,x=0)->MM l=a:=by
 intro l;induction l with
 |nil=>simp
 |cons b r j=>
  intro i a h e d;cases i with
  |zero=>simp_all[MM,if_neg]
  |succ i=>
   have h:r[i]?=some a:=by simpa using h
   show(if b=0 then MM r else b)=a;rw[if_pos (d b oh)];grind
def A7g(l:List Int)(j:l.length<=1000):S0 l=some (MM l):=by
 unfold S0;have:Tot (gI ((0),l,(l.length),(0))) (λq=>match q with
  | .inl _=>MM l=0
  | .inr y=>MM l=y):=by
  refine EZ l.length (λ_ i=>((0),l,(l.length:Int),i)) (λi _=>∀x∈l.take i,x=0) oa (λnext _ i hi a b=>?_) (λnext _ a=>?_) () oh
  .unfold gH;dsimp only;rw[E1,A7 hi,A6,ER (A1 hi),A0,DT,ET oa];refine DO.2 ⟨λh=>DN.2 (ANy (A1 hi) (by simpa using h) a),λh=>b () λx d=>?_⟩;rw[GH (A1 hi),AZ,AP]at d;grind
  .simp_all[gH,E1,A9,AA,A8,AQ,DN,ANx]
 obtain⟨q,h1,e⟩:=this;grind
theorem UB(a b:DL):JF a b=0<->a=b:=by grind[JF,MJ]
def b_(a b:Int):O7 a b=0<->a=b:=by grind[O7]
theorem A0P(a b:Int):O7 a b<0<->a<b:=by grind[O7]
section
variable{T:Type}
def ANz(xs:List T)(F:T×T->Option Int)(lt:T->T->Prop)(l:∀a b,∃c,F (a,b)=some c/\(c<0<->lt a b))(hi:∀a,¬lt a a)(y:∀a b c,lt a b->lt b c->lt a c)(x:∀a b c,¬lt a b->¬lt b c->¬lt a c):
 Tot (NW xs F) (λr=>r.Perm xs/\r.Pairwise λa b=>¬lt b a):=by
 have e:∀i j,IL xs F i j=true<->lt (xs.get i) (xs.get j):=λi j=>by have⟨c,h1,d⟩:=l (xs.get i) (xs.get j);unfold IL NV;grind
 have w:∀i j,IL xs F i j=false<->¬lt (xs.get i) (xs.get j):=λi j=>by rw[<-e,BW]
 have s:TI xs F:=by
  refine⟨λi j=>?_,λi=>?_,λi j k h1 d=>?_,λi j k h1 d=>?_⟩
  .obtain⟨c,h1,_⟩:=l (xs.get i) (xs.get j);rw[h1];rfl
  .grind
  .grind
  .grind
 refine(A0C xs F s).mono λr m=>⟨m.1,m.2.imp λ{a b} h p=>?_⟩;have⟨c,h1,d⟩:=l b a;grind
end
def MN(a b:Int×Int):Prop:=a.1<b.1\/a.1=b.1/\a.2<b.2
def ltE(a b:SJ):Prop:=a.1<b.1\/a.1=b.1/\(a.2.1<b.2.1\/a.2.1=b.2.1/\a.2.2<b.2.2)
def AO0(a b:SJ):∃c,ZL (a,b)=some c/\(c<0<->ltE a b):=by
 refine⟨MM [JF a.1 b.1,JF a.2.1 b.2.1,O7 a.2.2 b.2.2],?_,?_⟩
 .simp_all[ZL,X7,A0,oR,A7g]
 .simp only[MM];unfold ltE;by_cases h:a.1=b.1
  .rw[if_pos ((UB _ _).2 h)];have l:¬a.1<b.1:=by rw[h];exact MJ _
   by_cases d:a.2.1=b.2.1
   .rw[if_pos ((UB _ _).2 d)];have m:¬a.2.1<b.2.1:=by rw[d];exact MJ _
    by_cases j:a.2.2=b.2.2
    .simp_all[if_pos,b_,absurd]
    .rw[if_neg λe=>j ((b_ _ _).1 e),A0P];grind
   .rw[if_neg λe=>d ((UB _ _).1 e),U8];grind
  simp_all[if_neg,UB,U8,absurd]
theorem A7h{a:FG}{rs:List Rg}(h:LX a=some (rs,0)):a.2.2.2.2.2.2.length<=50:=by
 unfold LX TW at h;have⟨_,_,h⟩:=FH h;rcases FW h with⟨_,h⟩|⟨_,h⟩
 .cases h
 have⟨m,_,h⟩:=FH h;rcases FW h with⟨c,h⟩|⟨_,h⟩
 .have e:m=0:=congrArg Prod.snd (A2 h);rw[e]at c;cases c
 have⟨_,_,h⟩:=FH h;rcases FW h with⟨_,h⟩|⟨_,h⟩
 .cases h
 rcases FW h with⟨_,h⟩|⟨_,h⟩
 .cases h
 have l:((bif (decide ((50)<(a.2.2.2.2.2.2.length:Int))) then some (([]),(3)) else
  (S5 (([]),a.2.2.2.2.2.2,(a.2.2.2.2.2.2.length),(0))).bind λd=>
  match d with
  | .inl j=>some (j,(0))
  | .inr y=>some (y.1,y.2))=some (rs,0))->a.2.2.2.2.2.2.length<=50:=λp=>by
  grind
 have⟨w,b,h⟩:=FH h;rcases FW b with⟨_,b⟩|⟨_,b⟩
 .obtain⟨s,_,b⟩:=FH b;rcases FW b with⟨c,b⟩|⟨_,b⟩
  .have b:=A2 b;rw[<-b]at h;have e:=congrArg Prod.snd (A2 h);rw[e]at c;cases c
  grind
 grind
def NF(a:FG):List Rg:=((LX a).getD ([],0)).1
def A0Q{a:FG}(h:L8 a)(d:MK a=0):LX a=some (NF a,0)/\(NF a).length=a.2.2.2.2.2.2.length/\(∀z∈NF a,∀s∈z.2,GQ s)/\a.2.2.2.2.2.2.length<=50:=by
 have⟨⟨rs,e⟩,h1,b⟩:=ANm a h;have hk:=A7b h;unfold TX at hk;rw[h1,d]at hk;have j:=A2 hk;subst j;have l:NF a=rs:=by unfold NF;rw[h1];rfl
 rw[l];have⟨m,p⟩:=b rfl;grind[A7h]
def XC(x:Af)(r:Rg)(key v:DL):Bool:=(S8 (x,r,key,v)).getD false
def A7i(x:Af){r:Rg}(p:∀s∈r.2,GQ s)(key:DL){v:DL}(a:v.length<=1048576):S8 (x,r,key,v)=some (XC x r key v)/\(XC x r key v=true->x.1=key/\v≠[]):=by
 suffices h:Tot (S8 (x,r,key,v)) (λb=>b=true->x.1=key/\v≠[]) by obtain⟨b,h1,m⟩:=h;grind[XC]
 unfold S8;dsimp only;refine DM.2 (Tot.mono (P:=λ_=>True) (DO.2 ⟨λ_=>(A7a _ _ a).mono λ_ _=>trivial,λ_=>DN.2 trivial⟩) λw _=>DO.2 ⟨λ_=>DN.2 λh=>(oq),λl=>?_⟩);have⟨d,_⟩:=BM.1 l;have⟨e,j⟩:=BM.1 d;refine DM.2 ((A7f r _ (λs h=>⟨oc,oc⟩) a).mono λ_ _=>DN.2 λ_=>⟨by simpa[E0]using e,by simpa[E0]using j⟩)
def IP(c:F3):DL:=((J4 c.2.1).getD ([],0)).1
def OC(c:F3):DL:=c.2.1.2.2.2.1
structure KyOk(cs:List F3):Prop where
 few:cs.length<=3000
 key:∀c∈cs,J4 c.2.1=some (IP c,0)/\(OC c).length<=1048576
 once:∀(i j:Nat) (c d:F3),cs[i]?=some c->cs[j]?=some d->IP c=IP d->OC c≠[]->OC d≠[]->i=j
abbrev KM:=List (DL×List Int)
def IX(m:KM)(k:DL):List Int:=(DW DQ k m).getD []
def AO1(k a:DL)(v:List Int)(m:KM):DW DQ k (EB DQ a v m)=if k=a then some v else DW DQ k m:=A0O E0 k a v m
structure BkOk(cs:List F3)(n:Nat)(m:KM):Prop where
 asc:∀k,(IX m k).Pairwise λa b=>a<b
 mem:∀k x,x∈IX m k<->∃(j:Nat) (c:F3),j<n/\cs[j]?=some c/\x=(j:Int)/\IP c=k
def bk_len{cs:List F3}{n:Nat}{m:KM}(h:BkOk cs n m)(k:DL):(IX m k).length<=n:=by
 have d:(IX m k).Nodup:=(h.asc k).imp λ{a b} l e=>oa;have:=List.Nodup.length_le_of_subset d (l₂:=(List.range n).map λj:Nat=>(j:Int)) λx p=>by have⟨j,c,h1,_,s,_⟩:=(h.mem k x).1 p;grind
 grind
abbrev IA:=DL×DL×Int
def QJ(cs:List F3)(n:Int):DL:=match cs[n.toNat]? with
 |some c=>c.1
 |none=>[]
def AO2{bs:Bs}(d:X9 bs):bs.2.1.Pairwise λa b=>a.1<b.1:=by
 have step:∀i (h:i+1<bs.2.1.length),bs.2.1[i].1<bs.2.1[i+1].1:=λi h=>((d.2.2.2 (i+1) h).1 _ (A1 h)).2 oa _ oh
 refine C2.2 λi j hi l e=>?_;induction j<;>grind
end Go.Ev.Pv
