/-
  The law as plain Lean, first part: that there are answers: names, versions, ranges, advisories.
-/
import Derived.Test.YtkmlfnhigaoplaaGreatDoorMD
import Derived.Sort.AssemblyPlain
set_option linter.all false
set_option maxRecDepth 1000000
set_option maxHeartbeats 16000000
open Go.IntKind hiding min max bits signed
namespace Go.Ev
theorem EK{α:Type}{a:α}{l:List α}:(a::l).length=l.length+1:=BJ
theorem EM{α:Type}:([]:List α).length=0:=BY
theorem EN{α:Type}{a:α}{i:Nat}{l:List α}(h:a∈l.take i):a∈l:=List.mem_of_mem_take h
theorem EO{α:Type}{a:α}{i:Nat}{l:List α}(h:a∈l.drop i):a∈l:=List.mem_of_mem_drop h
def Tot{α:Type}(m:Option α)(Q:α->Prop):Prop:=∃x,m=some x/\Q x
section
variable{α β:Type}{m n:Option α}{P Q:α->Prop}
def Tot.mono(h:Tot m P)(k:∀x,P x->Q x):Tot m Q:=let ⟨x,h1,h2⟩:=h;⟨x,h1,k x h2⟩
theorem DM{x:α}:Tot (some x) Q<->Q x:=⟨λ⟨_,h1,a⟩=>A2 h1▸a,λh=>⟨x,rfl,h⟩⟩
theorem DL{f:α->Option β}{R:β->Prop}:Tot (m.bind f) R<->Tot m λx=>Tot (f x) R:=by
 constructor
 .rintro⟨y,h1,h⟩;have⟨x,a,b⟩:=B5.1 h1;exact⟨x,a,y,b,h⟩
 .rintro⟨x,rfl,y,h1,h⟩;exact⟨y,h1,h⟩
def DN{b:Bool}:Tot (bif b then m else n) Q<->(b=true->Tot m Q)/\(b=false->Tot n Q):=by
 cases b
 .exact⟨λh=>⟨λe=>(by cases e),λ_=>h⟩,λh=>h.2 rfl⟩
 .exact⟨λh=>⟨λ_=>h,λe=>(by cases e)⟩,λh=>h.1 rfl⟩
theorem ET{n:Nat}{i:Int}{Q:Unit->Prop}:Tot (in? n i) Q<->(0<=i/\i<n)/\Q ():=by
 unfold in? Tot;by_cases h1:0<=i<;>by_cases a:i<n<;>simp[h1,a]
 exact⟨λ⟨_,h⟩=>h,λh=>⟨(),h⟩⟩
theorem FT{a b:DK}{Q:DK->Prop}:Tot (cat? a b) Q<->a.length+b.length<=281474976710656/\Q (a++b):=by
 unfold cat? Tot;by_cases h:a.length+b.length<=281474976710656<;>simp[h]
theorem F4{B:Nat}{a b:List α}{Q:List α->Prop}:Tot (app? B a b) Q<->(a.length+b.length)*B<=70368744177664/\Q (a++b):=by
 unfold app? Tot;by_cases h:(a.length+b.length)*B<=70368744177664<;>simp[h]
theorem I6{l:List α}{lo hi:Int}{Q:List α->Prop}:Tot (cut? l lo hi) Q<->(0<=lo/\lo<=hi/\hi<=l.length)/\Q ((l.take hi.toNat).drop lo.toNat):=by
 unfold cut? Tot;by_cases h1:0<=lo<;>by_cases h:lo<=hi<;>by_cases a:hi<=l.length<;>simp[h1,h,a]
def AKA{l:List α}{i:Int}{Q:α->Prop}(h1:0<=i)(b:i<l.length)(a:∀x,x∈l->l[i.toNat]?=some x->Q x):Tot (at? l i) Q:=by
 have h:i.toNat<l.length:=oa
 refine⟨l[i.toNat],?_,a _ (AL h) (A1 h)⟩;unfold at?;rw[A6 h1];exact A1 h
def EH{l:List α}{i:Int}{Q:α->Prop}:Tot (at? l i) Q<->(0<=i/\i<l.length)/\∀x,l[i.toNat]?=some x->Q x:=by
 constructor
 .rintro⟨x,h1,h⟩;unfold at? at h1;by_cases h0:0<=i
  .rw[A6 h0]at h1;have h1:l[i.toNat]?=some x:=h1;have d:=(A5.1 h1).1;exact⟨⟨h0,oa⟩,λy a=>by rw[h1]at a;cases a;exact h⟩
  .rw[A9 h0]at h1;cases h1
 .rintro⟨⟨h1,h⟩,b⟩;exact AKA h1 h λx _ e=>b x e
def IJ:Tot m (λ_=>True)<->∃x,m=some x:=⟨λ⟨x,h,_⟩=>⟨x,h⟩,λ⟨x,h⟩=>⟨x,h,trivial⟩⟩
def EQ{r:(α->Option β)->α->Option β}{R:β->Prop}(I:α->Prop)(a:α->Nat)(h:∀next x,I x->(∀y,I y->a y<a x->Tot (next y) R)->Tot (r next x) R):
 ∀(k:Nat) (x:α),I x->a x<k->Tot (DX r k x) R:=by
 intro k;induction k with
 |zero=>intro x _ h;omega
 |succ k e=>intro x b hk;exact h _ x b λy d j=>e y d oa
theorem EG{n:Int}(h1:-9223372036854775808<=n)(h:n<=9223372036854775807):i64.wrap n=n:=by
 simp only[IntKind.wrap,IntKind.bits,IntKind.signed];simp;omega
def A01{n:Int}(h1:0<=n)(h:n<=255):u8.wrap n=n:=by
 simp only[IntKind.wrap,IntKind.bits,IntKind.signed];simp;omega
def AKB(n:Int):0<=u8.wrap n/\u8.wrap n<=255:=by
 simp only[IntKind.wrap,IntKind.bits,IntKind.signed];simp;omega
end
end Go.Ev
namespace Go.Ev.Pv
theorem E4{n:Int}:-9223372036854775808<=n->n<=9223372036854775807->i64.wrap n=n:=λh1 h=>EG h1 h
theorem E2(b:UInt8):b.toNat<=255:=by have:=b.toNat_lt;omega
theorem E5{n:Int}:0<=n->n<=255->u8.wrap n=n:=λh1 h=>A01 h1 h
theorem E6(n:Int):0<=u8.wrap n/\u8.wrap n<=255:=AKB n
theorem E7(s:DK):(FX s).length=s.length:=by simp[FX]
theorem E3(s:List Int):(IM s).length=s.length:=by simp[IM]
theorem D_(s t:DK):DP s t=decide (s=t):=by grind[DP]
theorem DR(s t:Int):DO s t=decide (s=t):=by rfl
abbrev tj(a b:Int)(n:Nat):Prop:=0<=a/\a<=b/\b=n/\b<=281474976710656
class t6{α β:Type}(f:α->Option β)(P:outParam (α->Prop))(Q:outParam (α->β->Prop)):Prop where h:∀x,P x->Tot (f x) (Q x)
theorem t7{α β:Type}{f:α->Option β}{P Q}[i:t6 f P Q]{x:α}{R:β->Prop}(h:P x)(k:∀r,Q x r->R r):Tot (f x) R:=(i.h x h).mono k
theorem th{α β:Type}{s:(α->Option β)->α->Option β}{n:Nat}{P Q}(K:α->α->Prop)(m:α->Nat)(h:∀next x y,P x->P y->K x y->[t6 next (λz=>(P z/\K x z)/\m z<m y) (λ_=>Q x)]->Tot (s next y) (Q x))(d:∀x,P x->K x x/\m x<n:=by
 intros;try dsimp only at *
 exact⟨by grind,by unfold fuel;grind⟩):t6 (DX s n) P Q:=
 ⟨λx a=>EQ (λy=>P y/\K x y) m (λn y b g=>@h n x y a b.1 b.2 ⟨λz e=>g z e.1 e.2⟩) _ _ ⟨a,(d x a).1⟩ (d x a).2⟩
instance bD:t6 strings_IndexByte (λx=>x.1.length<=1048576) (λ_ r=>-1<=r):=⟨λx h=>by
 grind[strings_IndexByte,IP,decide_eq_true,DM,Lib.indexByte_ge]⟩
def A02(sep:DK)(m:Nat):∀x:List DK,(∀s∈x,s.length<=m)->(Lib.join x sep).length<=x.length*(m+sep.length):=by
 intro x;induction x with
 |nil=>intro _;simp[Lib.join,List.intercalate]
 |cons a r d=>
  intro h;have h1:=h a AE;have e:=d λs b=>h s (AN _ b);cases r<;>grind[Lib.join,List.intercalate,List.intersperse,List.length_append,EK,Nat.add_mul]
theorem AKC{xs:List DK}(h1:xs.length<=1048577)(a:∀s∈xs,s.length<=1048576):(Lib.join xs [47]).length<=1099513724929:=by
 have h:=A02 [47] 1048576 xs a;grind
def WM(x:(List DK)×DK)(h:x.1.length<=140737488355328/\(Lib.join x.1 x.2).length<=140737488355328):Tot (strings_Join x) (λr=>r=Lib.join x.1 x.2):=by
 unfold strings_Join IP;rw[A6 h];exact DM.2 rfl
def qC{p:Prop}(h:p:=by grind[E4,E3,E7,D_,DR,E6,E5,E2]):p:=h
theorem t8{p:Prop}(h:p:=by
 intros;try dsimp only at *
 repeat' first
  |(with_reducible first|refine DN.2 ⟨λ_=>?_,λ_=>?_⟩|refine DL.2 ?_|refine DM.2 ?_|refine EH.2 ⟨?_,λ_ _=>?_⟩|refine ET.2 ⟨?_,?_⟩|refine I6.2 ⟨?_,?_⟩|refine FT.2 ⟨?_,?_⟩|refine F4.2 ⟨?_,?_⟩|refine t7 ?_ λ_ _=>?_|refine⟨λ_=>?_,?_⟩)
  |split
  |dsimp only
 all_goals grind[E4,E3,E7,D_,DR,E6,E5,E2,EK,EM,EN,EO]):p:=h
instance:t6 vC (λx=>tj x.2.2 x.2.1 x.1.length) (λ_ _=>True):=th (λ_ _=>True) (λy=>(y.2.1-y.2.2).toNat) (by unfold A3c;exact t8)
instance oL:t6 VR (λx=>x.length<=1048576) (λ_ _=>True):=⟨by unfold VR;exact t8⟩
instance:t6 vF (λx=>tj x.2.2 x.2.1 x.1.length) (λx r=>r.length=x.1.length):=th (λx y=>y.1.length=x.1.length) (λy=>(y.2.1-y.2.2).toNat) (by unfold A3e;exact t8)
instance:t6 TM (λx=>x.length<=1048576) (λx r=>r.length=x.length):=⟨by unfold TM;exact t8⟩
instance QJ:t6 N5 (λ_=>True) (λx r=>r.1=x.1.1/\r.2.1=x.1.2.1/\(0<=x.2->0<=r.2.2)):=⟨by unfold N5;exact t8⟩
instance U0:t6 L3 (λx=>∃y,x=some y/\0<=y.2.1) (λx r=>0<=r/\(r=0\/∃y,x=some y/\y.2.1<y.1.length)):=⟨λx h=>by
 unfold L3;obtain⟨y,rfl,h⟩:=h
 repeat' first
  |(with_reducible first|refine DN.2 ⟨λ_=>?_,λ_=>?_⟩|refine DL.2 ?_|refine DM.2 ?_|refine EH.2 ⟨?_,λ_ _=>?_⟩)
  |dsimp only
 all_goals exact qC⟩
instance A6a:t6 ZA (λ_=>True) (λ_ _=>True):=⟨by unfold ZA;exact t8⟩
instance:t6 vG (λx=>0<=x.2/\x.2<=(4:Int)/\(4:Int)<=281474976710656/\x.1.1.length<=1048576/\0<=x.1.2.1/\x.1.2.1<=x.1.1.length/\x.2<=x.1.1.length) (λx r=>match r with| .inl q=>q=x.1/\4<=x.1.1.length| .inr q=>q.1.1=x.1.1/\q.1.2.1=x.1.2.1/\q.2=[]):=th (λx y=>y.1=x.1) (λy=>((4:Int)-y.2).toNat) (by unfold A3f;exact t8)
instance:t6 vH (λx=>x.1.length<=1048576/\0<=x.2.1/\x.2.1<=x.1.length) (λx r=>r.1=x.1/\r.2.2=x.2.2/\x.2.1<=r.2.1/\r.2.1<=r.1.length):=th (λx y=>y.1=x.1/\y.2.2=x.2.2/\x.2.1<=y.2.1) (λy=>(y.1.length-y.2.1).toNat) (by unfold A3g;exact t8)
instance:t6 gJ (λx=>x.1.1.length<=1048576/\0<=x.1.2.1/\x.1.2.1<=x.1.1.length/\(x.2=true->x.1.2.1<x.1.1.length)) (λx r=>r.1=x.1.1/\x.1.2.1<=r.2.1/\r.2.1<=r.1.length):=⟨by unfold gJ;exact t8⟩
instance A6b:t6 ZB (λx=>x.1.1.length<=1048576/\0<=x.1.2.1/\x.1.2.1<=x.1.1.length) (λx r=>r.2.1=x.1.1/\0<=r.2.2.1/\r.2.2.1<=x.1.1.length/\r.1.length<=x.1.1.length):=⟨by unfold ZB;exact t8⟩
instance A6c:t6 Y_ (λx=>0<=x/\x<=255) (λ_ r=>-1<=r/\r<=15):=⟨by unfold Y_;exact t8⟩
instance:t6 gK (λx=>x.1.1.length<=1048576/\0<=x.1.2.1/\x.1.2.1<=x.1.1.length/\1<=x.2.1/\x.2.1<=2/\x.2.2.1= -1/\(x.2.2.2=true->x.1.2.1+x.2.1<x.1.1.length)) (λx r=>r.1=x.1/\(x.2.2.2=true\/r.2= -1)):=⟨by unfold gK;exact t8⟩
instance:t6 vI (λx=>x.1.1.length<=1048576/\0<=x.1.2.1/\x.1.2.1<=x.1.1.length/\1<=x.2.2/\x.2.2<=3/\x.1.2.1+x.2.2<=x.1.1.length) (λx r=>match r with| .inl q=>q.1=x.1/\x.1.2.1+3<=x.1.1.length| .inr q=>q.1.1=x.1.1/\q.1.2.1=x.1.2.1/\q.2.2=false):=th (λx y=>y.1=x.1) (λy=>(3-y.2.2).toNat) (by unfold A3h;exact t8)
instance A6d:t6 ZC (λx=>x.1.length<=1048576/\0<=x.2.1/\x.2.1<=x.1.length) (λx r=>r.2.2.1=x.1/\x.2.1<=r.2.2.2.1/\r.2.2.2.1<=x.1.length/\(r.2.1=true->x.2.1<r.2.2.2.1)):=⟨by unfold ZC;exact t8⟩
instance:t6 vJ (λx=>x.1.1.length<=1048576/\0<=x.1.2.1/\x.1.2.1<=x.1.1.length/\x.2.length<=x.1.2.1) (λx r=>r.1.1=x.1.1/\x.1.2.1<=r.1.2.1/\r.1.2.1<=x.1.1.length/\r.2.length<=r.1.2.1):=th (λx y=>y.1.1=x.1.1/\x.1.2.1<=y.1.2.1) (λy=>(y.1.1.length-y.1.2.1).toNat) (by unfold A3i;exact t8)
instance:t6 TN (λx=>x.1.length<=1048576/\0<=x.2.1/\x.2.1<=x.1.length) (λx r=>r.2.1=x.1/\x.2.1<=r.2.2.1/\r.2.2.1<=x.1.length/\r.1.length<=x.1.length):=⟨by unfold TN;exact t8⟩
instance:t6 vK (λx=>x.1.1.length<=1048576/\0<=x.1.2.1/\x.1.2.1<=x.1.1.length/\x.2.length<=x.1.2.1+1/\∀s∈x.2,s.length<=1048576) (λx r=>r.1.1=x.1.1/\x.1.2.1<=r.1.2.1/\r.1.2.1<=x.1.1.length/\x.2.length<=r.2.length/\r.2.length<=1048577/\∀s∈r.2,s.length<=1048576):=th (λx y=>y.1.1=x.1.1/\x.1.2.1<=y.1.2.1/\x.2.length<=y.2.length) (λy=>(y.1.1.length-y.1.2.1).toNat) (by unfold A3j;exact t8)
instance A6e:t6 ZD (λx=>x.1.length<=1048576/\0<=x.2.1/\x.2.1<=x.1.length) (λx r=>r.2.1=x.1/\x.2.1<=r.2.2.1/\r.2.2.1<=x.1.length/\1<=r.1.length/\r.1.length<=1048577/\∀s∈r.1,s.length<=1048576):=⟨by unfold ZD;exact t8⟩
instance:t6 YY (λ_=>True) (λ_ _=>True):=⟨by unfold YY;exact t8⟩
instance:t6 vL (λx=>x.1.1.length<=1048576/\0<=x.1.2.1/\x.1.2.1<=x.1.1.length) (λx r=>r.1=x.1.1/\x.1.2.1<=r.2.1/\r.2.1<=x.1.1.length):=th (λx y=>y.1.1=x.1.1/\y.1.2.2=x.1.2.2/\x.1.2.1<=y.1.2.1) (λy=>(y.1.1.length-y.1.2.1).toNat) (by unfold A3k;exact t8)
instance:t6 gL (λx=>x.1.length<=1048576/\0<=x.2.1/\x.2.1<=x.1.length) (λx r=>r.2.1=x.1/\x.2.1<=r.2.2.1/\r.2.2.1<=x.1.length/\r.1.1.length<=1048576/\r.1.2.length<=1048576):=⟨by unfold gL;exact t8⟩
instance AKO:t6 gM (λx=>x.1.1.length<=1048576/\0<=x.1.2.1/\x.1.2.1<=x.1.1.length/\(x.2.2=true->x.1.2.1<x.1.1.length)/\x.2.1.2.2.2.1.length<=1048576) (λx r=>r.1.1=x.1.1/\x.1.2.1<=r.1.2.1/\r.1.2.1<=x.1.1.length/\r.2.1=x.2.1.1/\r.2.2.1=x.2.1.2.1/\r.2.2.2.1=x.2.1.2.2.1/\r.2.2.2.2.1.length<=1048576/\r.2.2.2.2.2=x.2.1.2.2.2.2):=⟨by unfold gM;exact t8⟩
instance AKP:t6 vM (λx=>x.1.1.length<=1048576/\0<=x.1.2.1/\x.1.2.1<=x.1.1.length/\x.2.1.2.2.2.2.1.length<=x.1.2.1/\x.2.2≠0/\∀q∈x.2.1.2.2.2.2.1,q.1.length<=1048576/\q.2.length<=1048576) (λx r=>r.1.1=x.1.1/\x.1.2.1<=r.1.2.1/\r.1.2.1<=x.1.1.length/\r.2.1=x.2.1.1/\r.2.2.1=x.2.1.2.1/\r.2.2.2.1=x.2.1.2.2.1/\r.2.2.2.2.1=x.2.1.2.2.2.1/\r.2.2.2.2.2.2=x.2.1.2.2.2.2.2/\r.2.2.2.2.2.1.length<=1048576/\∀q∈r.2.2.2.2.2.1,q.1.length<=1048576/\q.2.length<=1048576):=th (λx y=>y.1.1=x.1.1/\y.2.1.1=x.2.1.1/\y.2.1.2.1=x.2.1.2.1/\y.2.1.2.2.1=x.2.1.2.2.1/\y.2.1.2.2.2.1=x.2.1.2.2.2.1/\y.2.1.2.2.2.2.2=x.2.1.2.2.2.2.2/\x.1.2.1<=y.1.2.1) (λy=>(y.1.1.length-y.1.2.1).toNat) (by unfold A3l;exact t8)
def oN{k:IntKind}{a b:Int}{Q:Int->Prop}:Tot (div? k a b) Q<->b≠0/\Q (k.wrap (a.tdiv b)):=by
 grind[div?,Tot]
def A6g{a b:Int}{Q:Int->Prop}:Tot (mod? a b) Q<->b≠0/\Q (a.tmod b):=by
 grind[mod?,Tot]
def AKQ{a:Int}(h0:0<=a)(h1:a<=255):0<=a.tdiv 16/\a.tdiv 16<=15:=oc
def AKR{a:Int}(h0:0<=a)(h1:a<=255):0<=a.tmod 16/\a.tmod 16<=15:=oc
def AKS(b:UInt8):0<=((b.toNat:Int)).tdiv 16/\((b.toNat:Int)).tdiv 16<=15:=AKQ oa (by have:=E2 b;omega)
def AKT(b:UInt8):0<=((b.toNat:Int)).tmod 16/\((b.toNat:Int)).tmod 16<=15:=AKR oa (by have:=E2 b;omega)
theorem E8{α:Type}{l:List α}{i:Nat}{d:α}:i<l.length->l.getD i d∈l:=λh=>by
 grind
theorem E9{α:Type}{l:List α}{i:Nat}{a b:α}:a∈l.set i b->a∈l\/a=b:=List.mem_or_eq_of_mem_set
instance A6h:t6 strings_Split (λx=>x.1.length<4294967281/\1<=x.2.length) (λx r=>r.length<=x.1.length+2/\∀s∈r,s.length<=x.1.length):=⟨λx h=>by
 unfold strings_Split IP;rw[A6 h];refine DM.2 ⟨?_,?_⟩
 .rw[AY];have h1:=Lib.splitB_length_le ⟨x.2.toArray⟩ 0 (Lib.countB ⟨x.1.toArray⟩ ⟨x.2.toArray⟩) ⟨x.1.toArray⟩;have j:Lib.countB ⟨x.1.toArray⟩ ⟨x.2.toArray⟩<=x.1.length+1:=Lib.count_le x.1 x.2;omega
 .intro s e;obtain⟨b,d,rfl⟩:=CD.1 e
  have:∀(k:Nat) (s:ByteArray),∀y∈Lib.splitB ⟨x.2.toArray⟩ 0 k s,y.size<=s.size:=by
   intro k;induction k with
   |zero=>simp_all[Lib.splitB_zero,AP,AD]
   |succ k l=>
    intro s y a;unfold Lib.splitB at a;split at a
    .grind
    .rcases A_.1 a with rfl|a
     .rw[CE];omega
     grind[ByteArray.size_extract]
  have:=this _ _ b d;assumption⟩
instance A6i:t6 fJ (λ_=>True) (λx r=>r=x):=⟨λx h=>DM.2 rfl⟩
instance U1:t6 PZ (λ_=>True) (λx r=>r.length=x.length):=⟨λx h=>DM.2 (E3 x)⟩
def AKU(x:EP×IB×Bool)(h:x.1.1.length<=1048576/\0<=x.1.2.1/\x.1.2.1<=x.1.1.length/\(x.2.2=true->x.1.2.1<x.1.1.length)/\x.2.1.2.2.2.2.2.length<=1048576):Tot (gN x) (λr:EP×IB=>r.1.1=x.1.1/\x.1.2.1<=r.1.2.1/\r.1.2.1<=x.1.1.length/\r.2.1=x.2.1.1/\r.2.2.1=x.2.1.2.1/\r.2.2.2.1=x.2.1.2.2.1/\r.2.2.2.2.1=x.2.1.2.2.2.1/\r.2.2.2.2.2.1=x.2.1.2.2.2.2.1/\r.2.2.2.2.2.2.length<=1099513724929):=by
 obtain⟨a,p,b⟩:=x;try dsimp only at h ⊢
 unfold gN
 repeat' first
  |(with_reducible first|refine DN.2 ⟨λ_=>?_,λ_=>?_⟩|refine DL.2 ?_|refine DM.2 ?_|refine(A6e.1 _ ?_).mono λ_ _=>?_|refine(WM _ ?_).mono λ_ _=>?_)
  |dsimp only
 all_goals grind[E4,E3,E7,D_,DR,E6,E5,E2,E8,E9,AKC]
instance A6j:t6 fR (λ_=>True) (λ_ r=>r.length=5/\∀z∈r,z.1.length<=20):=⟨λx h=>⟨_,rfl,rfl,oi⟩⟩
def qP{p:Prop}(h:p:=by grind[E4,E3,E7,D_,DR,E6,E5,E2,E8,E9]):p:=h
theorem tf{p:Prop}(h:p:=by
 intros;try dsimp only at *
 repeat' first
  |(with_reducible first|refine DN.2 ⟨λ_=>?_,λ_=>?_⟩|refine DL.2 ?_|refine DM.2 ?_|refine EH.2 ⟨?_,λ_ _=>?_⟩|refine ET.2 ⟨?_,?_⟩|refine I6.2 ⟨?_,?_⟩|refine FT.2 ⟨?_,?_⟩|refine F4.2 ⟨?_,?_⟩|refine t7 ?_ λ_ _=>?_|refine⟨λ_=>?_,?_⟩)
  |split
  |dsimp only
 all_goals grind[E4,E3,E7,D_,DR,E6,E5,E2,E8,E9,EK,EM,EN,EO]):p:=h
instance:t6 uR (λx=>0<=x.2.2/\x.2.2<=(5:Int)/\x.2.1.length=(5:Int)/\(5:Int)<=281474976710656/\∀z∈x.2.1,z.1.length<=20) (λx r=>match r with| .inl _=>True| .inr r=>0<=r/\r<5/\x.1.length<=20):=th (λx y=>y.1=x.1) (λy=>((5:Int)-y.2.2).toNat) (by unfold A3O;exact tf)
instance A6k:t6 YW (λ_=>True) (λx r=>r<5/\(0<=r->x.length<=20)):=⟨by unfold YW;exact tf⟩
instance A6l:t6 VN (λ_=>True) (λx r=>r.2=0->x.length<=20):=⟨by unfold VN;exact tf⟩
instance AKW:t6 uS (λx=>0<=x.2.2/\x.2.2<=x.2.1/\x.2.1=x.1.length/\x.2.1<=281474976710656) (λx r=>match r with| .inl _=>(∀j:Nat,x.2.2<=j->∀s,x.1[j]?=some s->s.length<=200)| .inr r=>r=true):=th (λx y=>y.1=x.1/\(∀j:Nat,x.2.2<=j->(j:Int)<y.2.2->∀s,y.1[j]?=some s->s.length<=200)/\x.2.2<=y.2.2) (λy=>(y.2.1-y.2.2).toNat) (by unfold A3P;exact tf)
def A6m{α:Type}{l:List α}{P:α->Prop}(h:∀j:Nat,(0:Int)<=j->∀s,l[j]?=some s->P s):∀s∈l,P s:=λs a=>let ⟨j,hj⟩:=BL a;h j (BA j) s hj
instance AKX:t6 uT (λx=>0<=x.2.2/\x.2.2<=x.2.1/\x.2.1=x.1.length/\x.2.1<=281474976710656) (λx r=>match r with| .inl _=>(∀j:Nat,x.2.2<=j->∀s,x.1[j]?=some s->s.1.length<=200/\s.2.length<=200)| .inr r=>r=true):=th (λx y=>y.1=x.1/\(∀j:Nat,x.2.2<=j->(j:Int)<y.2.2->∀s,y.1[j]?=some s->s.1.length<=200/\s.2.length<=200)/\x.2.2<=y.2.2) (λy=>(y.2.1-y.2.2).toNat) (by unfold A3Q;exact tf)
def AKY(x:DK×DK×DK×DK×DT×DK)(h:x.2.2.2.2.1.length<=1048576):Tot (fS x) (λr:Bool=>r=false->(x.2.1.length<=200/\x.2.2.1.length<=200/\x.2.2.2.1.length<=200/\x.2.2.2.2.2.length<=200/\x.2.2.2.2.1.length<=10/\∀q∈x.2.2.2.2.1,q.1.length<=200/\q.2.length<=200)):=by
 unfold fS;dsimp only;refine DL.2 ((AKW.1 _ oh).mono λr d=>?_);rcases r with r|r
 .have d:=A6m d;refine DL.2 ((AKX.1 _ oc).mono λb a=>?_);rcases b with b|b
  .have a:=A6m a;grind[DM,of_decide_eq_false]
  grind[DM]
 grind[DM]
instance oO:t6 TK (λx=>x.length<4294967281) (λx r=>r.length<=x.length+2/\∀s∈r,s.length<=x.length):=⟨by unfold TK;exact tf⟩
instance:t6 uU (λx=>tj x.2.2.2 x.2.2.1 x.2.1.length) (λ_ _=>True):=th (λ_ _=>True) (λy=>(y.2.2.1-y.2.2.2).toNat) (by unfold A3R;exact tf)
instance A6n:t6 YX (λx=>x.1.length<=1048576) (λ_ _=>True):=⟨by unfold YX;exact tf⟩
instance:t6 uV (λx=>tj x.2.2 x.2.1 x.1.length) (λ_ _=>True):=th (λ_ _=>True) (λy=>(y.2.1-y.2.2).toNat) (by unfold A3S;exact tf)
instance AKa:t6 fT (λx=>x.length<=1048576) (λ_ _=>True):=⟨by unfold fT;exact tf⟩
instance AKb:t6 uW (λx=>0<=x.2.2.2/\x.2.2.2<=x.2.2.1/\x.2.2.1=x.2.1.length/\x.2.2.1<=281474976710656/\x.1.length=x.2.1.length/\∀q∈x.2.1,q.1.length<=1048576) (λ_ r=>True):=⟨λx h=>by
 refine EQ (λx:DT×DT×Int×Int=>0<=x.2.2.2/\x.2.2.2<=x.2.2.1/\x.2.2.1=x.2.1.length/\x.2.2.1<=281474976710656/\x.1.length=x.2.1.length/\∀q∈x.2.1,q.1.length<=1048576)
  (λx=>(x.2.2.1-x.2.2.2).toNat) ?_ _ _ h (by unfold fuel;omega)
 rintro next ⟨l,z,A,B⟩ h e
 dsimp only at h e;obtain⟨h1,m,p,s,w,d⟩:=h;unfold A3T;dsimp only;refine DN.2 ⟨λa=>?_,λ_=>DM.2 trivial⟩;have a:=AC a;refine DL.2 (EH.2 ⟨⟨oa,oa⟩,λy j=>?_⟩);refine DL.2 ((AKa.1 _ (d _ (AJ j))).mono λr _=>?_);refine DN.2 ⟨λ_=>DM.2 trivial,λ_=>?_⟩;refine DN.2 ⟨λ_=>DM.2 trivial,λ_=>?_⟩;refine DL.2 (Tot.mono (P:=λ_=>True) ?_ λC _=>?_)
 .refine DN.2 ⟨λb=>?_,λ_=>DM.2 trivial⟩;have b:=AC b;rw[EG oa oa];exact EH.2 ⟨⟨oa,oa⟩,λ_ _=>trivial⟩
 .refine DN.2 ⟨λ_=>DM.2 trivial,λ_=>?_⟩;grind[EG]⟩
instance AKc:t6 fU (λx=>x.length<=1048576/\∀q∈x,q.1.length<=1048576) (λ_ _=>True):=⟨by unfold fU;exact tf⟩
instance:t6 uX (λx=>tj x.2.2 x.2.1 x.1.length) (λ_ _=>True):=th (λ_ _=>True) (λy=>(y.2.1-y.2.2).toNat) (by unfold A3U;exact tf)
instance:t6 YZ (λx=>x.length<=1048576) (λ_ _=>True):=⟨by unfold YZ;exact tf⟩
instance AKe:t6 uY (λx=>0<=x.2.2/\x.2.2<=x.2.1/\x.2.1=x.1.length/\x.2.1<=281474976710656/\∀z∈x.1,z.length<=1048576) (λ_ r=>∀z,r=.inr z->z=8):=th (λ_ _=>True) (λy=>(y.2.1-y.2.2).toNat) (by unfold A3V;exact tf)
instance AKf:t6 uZ (λx=>0<=x.2.2/\x.2.2<=x.2.1/\x.2.1=x.1.length/\x.2.1<=281474976710656/\∀z∈x.1,z.2.length<=1048576) (λ_ r=>∀z,r=.inr z->z=8):=th (λ_ _=>True) (λy=>(y.2.1-y.2.2).toNat) (by unfold A3W;exact tf)
def A6p(x:Int)(h:True):Tot (ZG x) (λr:Bool=>True):=by
 unfold ZG
 repeat' first
  |with_reducible refine DM.2 ?_
  |dsimp only
 all_goals exact qP
instance bE:t6 OS (λx=>x.1.length<=1048576000) (λx r=>r.2.length=x.1.length+1):=⟨by unfold OS;exact tf⟩
instance bF:t6 R_ (λx=>x.1.length<=1048576000/\x.2.length<=1048576000) (λx r=>r.2.2.length=x.1.length+x.2.length):=⟨by unfold R_;exact tf⟩
instance AKg:t6 v_ (λx=>0<=x.2.2.2/\x.2.2.2<=x.2.2.1/\x.2.2.1=x.1.length/\x.2.1.length<=x.2.2.2/\x.1.length<=1048576) (λx r=>r.length<=x.1.length):=⟨λx h=>by
 refine EQ (R:=λr:List Int=>r.length<=x.1.length) (λy:DK×(List Int)×Int×Int=>y.1=x.1/\0<=y.2.2.2/\y.2.2.2<=y.2.2.1/\y.2.2.1=y.1.length/\y.2.1.length<=y.2.2.2/\y.1.length<=1048576)
  (λy=>(y.2.2.1-y.2.2.2).toNat) ?_ _ _ ⟨rfl,h⟩ (by unfold fuel;omega)
 rintro next ⟨s,j,I,e⟩ h l
 dsimp only at h l;obtain⟨h0,h1,A,B,C,D⟩:=h;unfold A3y;dsimp only;refine DN.2 ⟨λa=>?_,λa=>DM.2 ?_⟩
 .have a:=AC a;have p:i64.wrap (e+1)=e+1:=EG oa oa;rw[p];refine DL.2 (EH.2 ⟨⟨h1,oa⟩,λb _=>?_⟩);refine DL.2 ((A6p _ trivial).mono λr _=>?_);refine DN.2 ⟨λ_=>?_,λ_=>?_⟩
  .refine DL.2 (EH.2 ⟨⟨h1,oa⟩,λw _=>?_⟩);refine DL.2 ((bE.1 _ oc).mono λE m=>?_);grind
  .refine DL.2 (Tot.mono (P:=λ_=>True) ?_ λz _=>?_)
   .refine DN.2 ⟨λd=>?_,λ_=>DM.2 trivial⟩
    have d:e≠0:=by
     rw[DR]at d;simpa using d
    rw[EG oa oa];exact EH.2 ⟨⟨oa,oa⟩,λ_ _=>trivial⟩
   .refine DL.2 (Tot.mono (P:=λ_=>True) ?_ λG _=>?_)
    .simp_all[DN,A6p,trivial,DM]
    .refine DN.2 ⟨λ_=>?_,λ_=>?_⟩
     .refine DL.2 ((bE.1 _ oc).mono λH m=>?_);grind
     grind
 grind⟩
instance AKh:t6 gW (λx=>x.length<=1048576) (λx r=>r.length<=x.length):=⟨by unfold gW;exact tf⟩
instance AKi:t6 gX (λx=>x.1.2.1.length<=1048576/\x.1.2.2.1.length<=1048576) (λx r=>r.1=x.1.1/\r.2.1.length=x.1.2.1.length/\r.2.2.1.length=x.1.2.2.1.length/\r.2.2.2=x.1.2.2.2):=⟨by unfold gX;exact tf⟩
def A6q{α:Type}{a b:List α}{Q:List α->Prop}(h1:a.length+b.length<=1099511627776)(h:Q (a++b)):Tot (app? 48 a b) Q:=F4.2 ⟨oa,h⟩
def oP(x:DK×DK×DK×DK×DT×DK)(h:x.1.length<=20/\x.2.1.length<=200/\x.2.2.1.length<=200/\x.2.2.2.1.length<=200/\x.2.2.2.2.2.length<=200/\x.2.2.2.2.1.length<=10/\(∀q∈x.2.2.2.2.1,q.1.length<=200/\q.2.length<=200)):Tot (TO x) (λr:DK×DK×DK×DK×DT×DK=>r.1.length<=20/\r.2.1.length<=200/\r.2.2.1.length<=200/\r.2.2.2.1.length<=200/\r.2.2.2.2.2.length<=200/\r.2.2.2.2.1.length<=10/\(∀q∈r.2.2.2.2.1,q.1.length<=200/\q.2.length<=200)):=by
 obtain⟨s,D,E,w,y,z,A⟩:=h;unfold TO;try dsimp only
 refine DL.2 ((A6l.1 _ trivial).mono λH _=>?_);refine DL.2 ((AKi.1 _ ⟨om,om⟩).mono λa b=>?_);try dsimp only at b
 obtain⟨p,B,C,e⟩:=b;have k1:a.1.length<=20:=by rw[p];exact s
 have d:a.2.2.2.1.length<=200:=by rw[e];exact w
 have j:a.2.2.2.2.1.length<=10:=by rw[e];exact z
 have l:a.2.2.2.2.2.length<=200:=by rw[e];exact y
 have m:∀q∈a.2.2.2.2.1,q.1.length<=200/\q.2.length<=200:=by rw[e];exact A
 refine DN.2 ⟨λ_=>?_,λ_=>?_⟩
 .refine DL.2 ((AKh.1 _ oa).mono λI G=>?_);refine DL.2 (A6q ot ?_);exact DM.2 ⟨k1,om,om,d,l,by simpa using j,by simpa using m⟩
 .refine DL.2 (A6q ot ?_);exact DM.2 ⟨k1,om,om,d,l,by simpa using j,by simpa using m⟩
def bG(x:DK×DK×DK×DK×DT×DK)(h:x.2.2.2.2.1.length<=1048576):Tot (KQ x) (λr:Int=>r=0->(x.1.length<=20/\x.2.1.length<=200/\x.2.2.1.length<=200/\x.2.2.2.1.length<=200/\x.2.2.2.2.2.length<=200/\x.2.2.2.2.1.length<=10/\(∀q∈x.2.2.2.2.1,q.1.length<=200/\q.2.length<=200))):=by
 unfold KQ;try dsimp only
 refine DL.2 ((A6l.1 _ trivial).mono λL h1=>?_);refine DN.2 ⟨λb=>DM.2 λa=>?_,λb=>?_⟩
 .rw[DR,a]at b;simp at b
 have D:x.1.length<=20:=h1 (by rw[DR]at b;simpa using b);refine DL.2 ((AKY _ h).mono λM G=>?_);refine DN.2 ⟨λ_=>DM.2 λa=>absurd a oi,λs=>?_⟩;have⟨w,y,A,B,C,l⟩:=G s;refine DN.2 ⟨λ_=>DM.2 λa=>absurd a oi,λ_=>?_⟩;refine DL.2 ((oO.1 _ oa).mono λN K=>?_);refine DL.2 ((A6n.1 _ (by(try dsimp only);omega)).mono λO _=>?_);refine DN.2 ⟨λ_=>DM.2 λa=>absurd a oi,λ_=>?_⟩;refine DL.2 (Tot.mono (P:=λ_=>True) (DN.2 ⟨λ_=>(bD.1 _ (by(try dsimp only);omega)).mono λ_ _=>trivial,λ_=>DM.2 trivial⟩) λQ _=>?_);refine DN.2 ⟨λ_=>DM.2 λa=>absurd a oi,λ_=>?_⟩;refine DL.2 ((AKc.1 _ ⟨oa,λq H=>by have:=l q H;omega⟩).mono λR _=>?_);refine DN.2 ⟨λb=>DM.2 λa=>?_,λ_=>?_⟩
 .rw[DR,a]at b;simp at b
 refine DL.2 ((oO.1 _ oa).mono λI E=>?_);refine DL.2 ((A6n.1 _ (by(try dsimp only);omega)).mono λJ _=>?_);refine DN.2 ⟨λ_=>DM.2 λa=>absurd a oi,λ_=>?_⟩;refine DL.2 ((AKe.1 _ ⟨AS _,oh,rfl,oh,λz j=>?_⟩).mono λd m=>?_)
 .simp only[A_,List.not_mem_nil,or_false]at j;rcases j with rfl|rfl|rfl|rfl<;>omega
 rcases d with d|d
 .refine DL.2 ((AKf.1 _ ⟨AS _,BA _,rfl,(by show((x.2.2.2.2.1.length:Nat):Int)<=281474976710656;omega),λz j=>by have:=l z j;omega⟩).mono λe p=>?_);rcases e with e|e
  .exact DM.2 λ_=>⟨D,w,y,A,B,C,l⟩
  .exact DM.2 λa=>by have:=p _ rfl;omega
 .exact DM.2 λa=>by have:=m _ rfl;omega
def A6r{q:Int}{Q:DK->Prop}(l:DK)(a:l.length=16)(h0:0<=q)(h1:q<=15)(h:∀s:DK,s.length=1->Q s):Tot (cut? l q (u8.wrap (q+1))) Q:=by
 rw[A01 oa oa];refine I6.2 ⟨⟨h0,oa,oa⟩,h _ ?_⟩;rw[C2,BQ];omega
instance AKj:t6 w7 (λx=>0<=x.2.2.2/\x.2.2.2<=x.2.2.1/\x.2.2.1=x.1.length/\x.2.1.length<=3*x.2.2.2/\x.1.length<=1048576) (λx r=>r.length<=3*x.1.length):=⟨λx h=>by
 refine EQ (R:=λr:List Int=>r.length<=3*x.1.length) (λy:DK×(List Int)×Int×Int=>y.1=x.1/\0<=y.2.2.2/\y.2.2.2<=y.2.2.1/\y.2.2.1=y.1.length/\y.2.1.length<=3*y.2.2.2/\y.1.length<=1048576)
  (λy=>(y.2.2.1-y.2.2.2).toNat) ?_ _ _ ⟨rfl,h⟩ (by unfold fuel;omega)
 rintro next ⟨K,B,Q,A⟩ h m
 dsimp only at h m;obtain⟨h0,h1,L,w,M,z⟩:=h;unfold A40;dsimp only;refine DN.2 ⟨λd=>?_,λd=>DM.2 ?_⟩
 .have d:=AC d;have E:i64.wrap (A+1)=A+1:=EG oa oa;rw[E];refine DL.2 (EH.2 ⟨⟨h1,oa⟩,λb _=>?_⟩);refine DL.2 ((A6a.1 _ trivial).mono λr _=>?_);refine DL.2 (Tot.mono (P:=λ_=>True) (DN.2 ⟨λ_=>(bD.1 _ (by show 4<=1048576;decide)).mono λ_ _=>trivial,λ_=>DM.2 trivial⟩) λN _=>?_);refine DN.2 ⟨λ_=>?_,λ_=>?_⟩
  .refine DL.2 ((bE.1 _ om).mono λO j=>?_);dsimp only at j;exact m _ ⟨h0,om,om,w,om,z⟩ om
  .obtain⟨p,C⟩:=AKS b;have⟨G,H⟩:=AKT b;have D:u8.wrap ((b.toNat:Int).tdiv 16)=(b.toNat:Int).tdiv 16:=A01 p oa;refine DL.2 (oN.2 ⟨oi,?_⟩);refine DL.2 (oN.2 ⟨oi,?_⟩);rw[D];refine DL.2 (A6r _ rfl p C λJ l=>?_);refine DL.2 (FT.2 ⟨by simp[l],?_⟩);refine DL.2 (A6g.2 ⟨oi,?_⟩);refine DL.2 (A6g.2 ⟨oi,?_⟩);refine DL.2 (A6r _ rfl G H λs e=>?_);refine DL.2 (FT.2 ⟨by simp[l,e],?_⟩);have a:([37]++J++s:DK).length=3:=by simp[l,e]
   refine DL.2 ((bF.1 _ ⟨om,by rw[a];decide⟩).mono λI j=>?_);rw[a]at j;dsimp only at j;exact m _ ⟨h0,om,om,w,om,z⟩ om
 .have d:=AK d;rw[<-h0];omega⟩
instance A04:t6 VU (λx=>x.length<=1048576) (λx r=>r.length<=3*x.length):=⟨by unfold VU;exact tf⟩
def AKk(x:(List DK)×(List DK)×Int×Int)(h:0<=x.2.2.2/\x.2.2.2<=x.2.2.1/\x.2.2.1=x.2.1.length/\x.2.2.1<=202/\x.1.length<=x.2.2.2/\(∀z∈x.2.1,z.length<=200)/\(∀z∈x.1,z.length<=600)):
 Tot (w8 x) (λr:List DK=>r.length<=202/\∀z∈r,z.length<=600):=by
 refine EQ (R:=λr:List DK=>r.length<=202/\∀z∈r,z.length<=600) (λx:(List DK)×(List DK)×Int×Int=>0<=x.2.2.2/\x.2.2.2<=x.2.2.1/\x.2.2.1=x.2.1.length/\x.2.2.1<=202/\x.1.length<=x.2.2.2/\(∀z∈x.2.1,z.length<=200)/\(∀z∈x.1,z.length<=600))
  (λy=>(y.2.2.1-y.2.2.2).toNat) ?_ _ _ h (by unfold fuel;omega)
 rintro next ⟨A,G,H,m⟩ h j
 dsimp only at h j;obtain⟨h1,B,p,s,C,d,e⟩:=h;unfold A41;dsimp only;refine DN.2 ⟨λb=>?_,λb=>DM.2 ⟨oa,e⟩⟩;have b:=AC b;have w:i64.wrap (m+1)=m+1:=EG oa oa;rw[w];refine DL.2 (EH.2 ⟨⟨h1,oa⟩,λI l=>?_⟩);have l:=d _ (AJ l);refine DL.2 ((A04.1 _ oa).mono λE D=>?_);refine DL.2 (F4.2 ⟨ot,?_⟩);refine j _ ⟨om,om,p,s,ot,d,λz a=>?_⟩ om;rcases AV.1 a with a|a
 .exact e z a
 .rw[AP]at a;subst a;omega
def AKl(x:DK)(h:x.length<=200):Tot (gY x) (λr:DK=>r.length<=121402):=by
 unfold gY;refine DL.2 ((oO.1 _ oa).mono λj h1=>?_);refine DL.2 ((AKk _ ⟨AS _,BA _,rfl,(by show((j.length:Nat):Int)<=202;omega),oh,(λz b=>by have:=h1.2 z b;omega),(λz b=>by cases b)⟩).mono λd a=>?_);have l:=A02 [47] 600 d a.2;have m:d.length*(600+[(47:UInt8)].length)<=202*(600+1):=Nat.mul_le_mul a.1 (AD _);refine DL.2 ((WM _ ⟨by have:=a.1;dsimp only;omega,om⟩).mono λp e=>DM.2 ?_);rw[e];dsimp only;omega
def A6s(x:DK×DK×DK×DK×DT×DK)(h:x.1.length<=20/\x.2.1.length<=200/\x.2.2.1.length<=200/\x.2.2.2.1.length<=200/\x.2.2.2.2.2.length<=200/\x.2.2.2.2.1.length<=10/\(∀q∈x.2.2.2.2.1,q.1.length<=200/\q.2.length<=200)):Tot (gZ x) (λr:DK=>r.length<=200000):=by
 obtain⟨e,a,j,l,m,p,s⟩:=h;unfold gZ;refine DL.2 (FT.2 ⟨ot,?_⟩);refine DL.2 (FT.2 ⟨ot,?_⟩);refine DN.2 ⟨λ_=>?_,λ_=>?_⟩
 .refine DL.2 ((AKl _ a).mono λy w=>?_);refine DL.2 (FT.2 ⟨ot,?_⟩);refine DL.2 (FT.2 ⟨ot,?_⟩);refine DL.2 ((A04.1 _ oa).mono λd b=>?_);refine DL.2 (FT.2 ⟨ot,?_⟩);exact DM.2 ot
 .refine DL.2 ((A04.1 _ oa).mono λd b=>?_);refine DL.2 (FT.2 ⟨ot,?_⟩);exact DM.2 ot
instance AKm:t6 MD (λx=>x.2.2.2.2.1.length<=1048576) (λ_ r=>r.1.length<=200000):=⟨λx h=>by
 unfold MD;refine DL.2 ((bG _ h).mono λe h1=>?_);refine DN.2 ⟨λ_=>DM.2 oh,λa=>?_⟩;have h1:=h1 (by rw[DR]at a;simpa using a);refine DL.2 ((oP _ h1).mono λj b=>?_);exact DL.2 ((A6s _ b).mono λl d=>DM.2 d)⟩
def AKn(x:DT×Int×H9×Int)(h:(∀p,Tot (x.2.2.1 p) λ_=>True)/\0<=x.2.1/\x.2.1<=x.2.2.2/\x.2.2.2<x.1.length/\x.1.length<=1048576):
 Tot (vN x) (λr:List (DK×DK)=>r.length=x.1.length/\∀q∈r,q∈x.1):=by
 refine EQ (R:=λr:List (DK×DK)=>r.length=x.1.length/\∀q∈r,q∈x.1) (λy:DT×Int×H9×Int=>(∀p,Tot (y.2.2.1 p) λ_=>True)/\0<=y.2.1/\y.2.1<=y.2.2.2/\y.2.2.2<y.1.length/\y.1.length<=1048576/\y.1.length=x.1.length/\∀q∈y.1,q∈x.1)
  (λy=>y.2.2.2.toNat) ?_ _ _ ⟨h.1,h.2.1,h.2.2.1,h.2.2.2.1,h.2.2.2.2,rfl,λq a=>a⟩ (by obtain⟨_,_,_,_,_⟩:=h;unfold fuel;omega)
 rintro next ⟨d,e,l,j⟩ h w
 dsimp only at h w;obtain⟨h0,h1,A,B,C,m,b⟩:=h;unfold A3m;dsimp only;by_cases s:e<j
 .have z:i64.wrap (j-1)=j-1:=EG oa oa;simp only[z,A6 s,A7,BV];refine DL.2 (ET.2 ⟨⟨oa,oa⟩,?_⟩);refine DL.2 (ET.2 ⟨⟨oa,oa⟩,?_⟩);refine DL.2 ((h0 _).mono λD _=>?_);refine DN.2 ⟨λ_=>?_,λ_=>DM.2 ⟨m,b⟩⟩;refine DL.2 (ET.2 ⟨⟨oa,oa⟩,?_⟩);refine DL.2 (ET.2 ⟨⟨oa,oa⟩,?_⟩);refine DL.2 (ET.2 ⟨⟨oa,oa⟩,?_⟩);refine DL.2 (ET.2 ⟨⟨oa,by rw[B0];omega⟩,?_⟩);refine w _ ⟨h0,h1,om,by simp only[B0];omega,by simp only[B0];omega,by simp only[B0];omega,λq a=>?_⟩ om;rcases E9 a with a|rfl
  .rcases E9 a with a|rfl
   .exact b q a
   .exact b _ (E8 oa)
  .exact b _ (E8 oa)
 .simp only[A9 s,A8,CX];refine DL.2 (DM.2 ?_);refine DL.2 (DM.2 ?_);refine DL.2 (DM.2 ?_);exact DM.2 ⟨m,b⟩
def AKo(x:DT×Int×Int×H9×Int)(h:(∀p,Tot (x.2.2.2.1 p) λ_=>True)/\0<=x.2.1/\x.2.1<=x.2.2.2.2/\x.2.2.1<=x.1.length/\x.2.2.2.2<=1048577/\x.1.length<=1048576):
 Tot (vO x) (λr:List (DK×DK)=>r.length=x.1.length/\∀q∈r,q∈x.1):=by
 refine EQ (R:=λr:List (DK×DK)=>r.length=x.1.length/\∀q∈r,q∈x.1) (λy:DT×Int×Int×H9×Int=>(∀p,Tot (y.2.2.2.1 p) λ_=>True)/\0<=y.2.1/\y.2.1<=y.2.2.2.2/\y.2.2.1<=y.1.length/\y.2.2.2.2<=1048577/\y.1.length<=1048576/\y.1.length=x.1.length/\∀q∈y.1,q∈x.1)
  (λy=>(y.2.2.1-y.2.2.2.2).toNat) ?_ _ _ ⟨h.1,h.2.1,h.2.2.1,h.2.2.2.1,h.2.2.2.2.1,h.2.2.2.2.2,rfl,λq e=>e⟩ (by obtain⟨_,_,_,_,_,_⟩:=h;unfold fuel;omega)
 rintro next ⟨d,w,z,b,a⟩ h m
 dsimp only at h m;obtain⟨h0,h1,B,H,I,C,D,j⟩:=h;unfold A3n;dsimp only;refine DN.2 ⟨λl=>?_,λ_=>DM.2 ⟨D,j⟩⟩;have l:=AC l;have E:i64.wrap (a+1)=a+1:=EG oa oa;rw[E];refine DL.2 ((AKn _ ⟨h0,h1,B,om,C⟩).mono λr s=>?_);dsimp only at s;obtain⟨G,A⟩:=s;exact m _ ⟨h0,h1,om,om,om,om,om,λq e=>j q (A q e)⟩ om
instance A6t:t6 ZE (λx=>(∀p,Tot (x.2.2.2 p) λ_=>True)/\0<=x.2.1/\x.2.1<=1048576/\x.2.2.1<=x.1.length/\x.1.length<=1048576) (λx r=>r.length=x.1.length/\∀q∈r,q∈x.1):=⟨λx h=>by
 obtain⟨d,b,e,a⟩:=x;dsimp only at h;obtain⟨h0,h1,s,j,l⟩:=h;unfold ZE;dsimp only;rw[EG oa oa];exact DL.2 ((AKo _ ⟨h0,h1,om,j,om,l⟩).mono λr m=>DM.2 m)⟩
def AKp(x:DT×Int×Int×Int×Int)(h:0<=x.2.1/\0<=x.2.2.1/\x.2.1+x.2.2.2.1<=x.1.length/\x.2.2.1+x.2.2.2.1<=x.1.length/\0<=x.2.2.2.2/\x.1.length<=1048576):
 Tot (vP x) (λr:List (DK×DK)=>r.length=x.1.length/\∀q∈r,q∈x.1):=by
 refine EQ (R:=λr:List (DK×DK)=>r.length=x.1.length/\∀q∈r,q∈x.1) (λy:DT×Int×Int×Int×Int=>0<=y.2.1/\0<=y.2.2.1/\y.2.1+y.2.2.2.1<=y.1.length/\y.2.2.1+y.2.2.2.1<=y.1.length/\0<=y.2.2.2.2/\y.1.length<=1048576/\y.1.length=x.1.length/\∀q∈y.1,q∈x.1)
  (λy=>(y.2.2.2.1-y.2.2.2.2).toNat) ?_ _ _ ⟨h.1,h.2.1,h.2.2.1,h.2.2.2.1,h.2.2.2.2.1,h.2.2.2.2.2,rfl,λq b=>b⟩ (by obtain⟨_,_,_,_,_,_⟩:=h;unfold fuel;omega)
 rintro next ⟨j,d,e,C,a⟩ h z
 dsimp only at h z;obtain⟨h1,A,D,E,G,H,B,l⟩:=h;unfold A3o;dsimp only;refine DN.2 ⟨λw=>?_,λ_=>DM.2 ⟨B,l⟩⟩;have w:=AC w;have m:i64.wrap (d+a)=d+a:=EG oa oa;have p:i64.wrap (e+a)=e+a:=EG oa oa;have s:i64.wrap (a+1)=a+1:=EG oa oa;rw[m,p,s];refine DL.2 (ET.2 ⟨⟨oa,oa⟩,?_⟩);refine DL.2 (ET.2 ⟨⟨oa,oa⟩,?_⟩);refine DL.2 (ET.2 ⟨⟨oa,oa⟩,?_⟩);refine DL.2 (ET.2 ⟨⟨oa,by rw[B0];omega⟩,?_⟩);refine z _ ⟨h1,A,by simp only[B0];omega,by simp only[B0];omega,om,by simp only[B0];omega,by simp only[B0];omega,λq b=>?_⟩ om;rcases E9 b with b|rfl
 .rcases E9 b with b|rfl
  .exact l q b
  .exact l _ (E8 oa)
 .exact l _ (E8 oa)
def A05(x:DT×Int×Int×Int×H9)(h:0<=x.2.1/\0<=x.2.2.1/\x.2.1+x.2.2.2.1<=x.1.length/\x.2.2.1+x.2.2.2.1<=x.1.length/\x.1.length<=1048576):
 Tot (VS x) (λr:List (DK×DK)=>r.length=x.1.length/\∀q∈r,q∈x.1):=by
 obtain⟨d,b,e,w,a⟩:=x;obtain⟨h1,j,l,m,p⟩:=h;unfold VS;dsimp only;exact DL.2 ((AKp _ ⟨h1,j,l,m,AS _,p⟩).mono λr s=>DM.2 s)
def AKq(x:DT×Int×H9×Int×Int)(h:0<x.2.2.2.1/\0<x.2.2.2.2/\x.2.2.2.1<=x.2.1/\x.2.1+x.2.2.2.2<=x.1.length/\x.1.length<=1048576):
 Tot (vQ x) (λr:DT×Int=>r.1.length=x.1.length/\(∀q∈r.1,q∈x.1)/\0<r.2/\r.2<=x.2.1/\x.2.1+r.2<=x.1.length):=by
 refine EQ (R:=λr:DT×Int=>r.1.length=x.1.length/\(∀q∈r.1,q∈x.1)/\0<r.2/\r.2<=x.2.1/\x.2.1+r.2<=x.1.length) (λy:DT×Int×H9×Int×Int=>0<y.2.2.2.1/\0<y.2.2.2.2/\y.2.2.2.1<=y.2.1/\y.2.1+y.2.2.2.2<=y.1.length/\y.1.length<=1048576/\y.1.length=x.1.length/\(∀q∈y.1,q∈x.1)/\y.2.1=x.2.1)
  (λy=>(y.2.2.2.1+y.2.2.2.2).toNat) ?_ _ _ ⟨h.1,h.2.1,h.2.2.1,h.2.2.2.1,h.2.2.2.2,rfl,(λq e=>e),rfl⟩ (by obtain⟨_,_,_,_,_⟩:=h;unfold fuel;omega)
 rintro next ⟨p,m,s,a,j⟩ h z
 dsimp only at h z;obtain⟨h1,I,J,L,G,K,w,H⟩:=h;unfold A3p;dsimp only;refine DN.2 ⟨λb=>?_,λb=>DM.2 ⟨K,w,h1,om,?_⟩⟩
 .have b:a≠j:=by rw[DR]at b;simpa using b
  have A:i64.wrap (m-a)=m-a:=EG oa oa;have B:i64.wrap (m+j)=m+j:=EG oa oa;have C:i64.wrap (m+j-a)=m+j-a:=EG oa oa;have D:i64.wrap (a-j)=a-j:=EG oa oa;have E:i64.wrap (j-a)=j-a:=EG oa oa;rw[A,B,C,D,E];refine DN.2 ⟨λd=>?_,λd=>?_⟩
  .have d:=AC d;refine DL.2 ((A05 _ ⟨om,om,om,om,G⟩).mono λr l=>?_);dsimp only at l;exact z _ ⟨om,I,om,om,om,om,λq e=>w q (l.2 q e),H⟩ om
  .have d:=AK d;refine DL.2 ((A05 _ ⟨om,om,om,om,G⟩).mono λr l=>?_);dsimp only at l;exact z _ ⟨h1,om,J,om,om,om,λq e=>w q (l.2 q e),H⟩ om
 .have b:a=j:=by rw[DR]at b;simpa using b
  omega
def AKr(x:DT×Int×Int×Int×H9)(h:0<=x.2.1/\x.2.1<x.2.2.1/\x.2.2.1<x.2.2.2.1/\x.2.2.2.1<=x.1.length/\x.1.length<=1048576):
 Tot (gP x) (λr:List (DK×DK)=>r.length=x.1.length/\∀q∈r,q∈x.1):=by
 obtain⟨d,b,m,e,j⟩:=x;dsimp only at h;obtain⟨h1,B,C,D,p⟩:=h;unfold gP;dsimp only;rw[EG (n:=m-b) oa oa,EG (n:=e-m) oa oa];refine DL.2 ((AKq _ ⟨om,om,om,om,p⟩).mono λr a=>?_);dsimp only at a;obtain⟨w,l,y,z,A⟩:=a;rw[EG (n:=m-r.2) oa oa];refine DL.2 ((A05 _ ⟨om,om,om,om,om⟩).mono λE a=>DM.2 ?_);dsimp only at a;exact⟨oa,λq s=>l q (a.2 q s)⟩
def SA{i j:Int}{Q:Int->Prop}(h1:0<=i)(d:0<=j)(l:i<=4611686018427387903)(m:j<=4611686018427387903)(h:Q ((i+j) / 2)):Tot (shr? u64 (u64.wrap (i64.wrap (i+j))) (1:Int)) Q:=by
 have e:i64.wrap (i+j)=i+j:=EG oa oa
 have a:u64.wrap (i+j)=i+j:=by
  simp only[IntKind.wrap,IntKind.bits,IntKind.signed];simp;omega
 rw[e,a]
 have b:(i+j).fdiv (2 ^ min (1:Int).toNat u64.bits)=(i+j) / 2:=by
  have:(2:Int) ^ min (1:Int).toNat u64.bits=2:=oi
  rw[this,DA _ oi]
 unfold shr?;rw[b];exact DM.2 h
def AKs(slf:DT×Int×Int×Int×H9->Option DT)(x:DT×Int×H9×Int×Int)(h:(∀p,Tot (x.2.2.1 p) λ_=>True)/\0<=x.2.1/\x.2.1<x.1.length/\0<=x.2.2.2.1/\x.2.2.2.1<=x.2.2.2.2/\x.2.2.2.2<=x.1.length/\x.1.length<=1048576):
 Tot (vR slf x) (λr:DT×Int=>r.1=x.1/\x.2.2.2.1<=r.2/\r.2<=x.2.2.2.2):=by
 refine EQ (R:=λr:DT×Int=>r.1=x.1/\x.2.2.2.1<=r.2/\r.2<=x.2.2.2.2) (λy:DT×Int×H9×Int×Int=>(∀p,Tot (y.2.2.1 p) λ_=>True)/\0<=y.2.1/\y.2.1<y.1.length/\0<=y.2.2.2.1/\y.2.2.2.1<=y.2.2.2.2/\y.2.2.2.2<=y.1.length/\y.1.length<=1048576/\y.1=x.1/\x.2.2.2.1<=y.2.2.2.1/\y.2.2.2.2<=x.2.2.2.2)
  (λy=>(y.2.2.2.2-y.2.2.2.1).toNat) ?_ _ _ ⟨h.1,h.2.1,h.2.2.1,h.2.2.2.1,h.2.2.2.2.1,h.2.2.2.2.2.1,h.2.2.2.2.2.2,rfl,AS _,AS _⟩ (by obtain⟨_,_,_,_,_,_,_⟩:=h;unfold fuel;omega)
 rintro next ⟨d,C,b,a,j⟩ h m
 dsimp only at h m;obtain⟨h0,h1,z,D,H,E,A,e,B,G⟩:=h;unfold A3q;dsimp only;refine DN.2 ⟨λl=>?_,λl=>DM.2 ⟨e,B,om⟩⟩;have l:=AC l;refine DL.2 (SA oa oa oa oa ?_);have s:i64.wrap ((a+j) / 2)=(a+j) / 2:=EG oa oa;have w:i64.wrap ((a+j) / 2+1)=(a+j) / 2+1:=EG oa oa;rw[s,w];refine DL.2 (ET.2 ⟨⟨oa,oa⟩,?_⟩);refine DL.2 (ET.2 ⟨⟨oa,oa⟩,?_⟩);refine DL.2 ((h0 _).mono λI _=>?_);refine DN.2 ⟨λ_=>?_,λ_=>?_⟩
 .exact m _ ⟨h0,h1,z,om,om,E,A,e,om,G⟩ om
 .exact m _ ⟨h0,h1,z,D,om,om,A,e,B,om⟩ om
def AKt(slf:DT×Int×Int×Int×H9->Option DT)(x:DT×Int×Int)(h:0<=x.2.1/\x.2.1<=x.1.length/\0<=x.2.2/\x.1.length<=1048576):
 Tot (vS slf x) (λr:List (DK×DK)=>r.length=x.1.length/\∀q∈r,q∈x.1):=by
 refine EQ (R:=λr:List (DK×DK)=>r.length=x.1.length/\∀q∈r,q∈x.1) (λy:DT×Int×Int=>0<=y.2.1/\y.2.1<=y.1.length/\0<=y.2.2/\y.1.length<=1048576/\y.1.length=x.1.length/\∀q∈y.1,q∈x.1)
  (λy=>(y.2.1-y.2.2).toNat) ?_ _ _ ⟨h.1,h.2.1,h.2.2.1,h.2.2.2,rfl,λq b=>b⟩ (by obtain⟨_,_,_,_⟩:=h;unfold fuel;omega)
 rintro next ⟨e,d,a⟩ h m
 dsimp only at h m;obtain⟨h1,w,z,A,p,j⟩:=h;unfold A3r;dsimp only;rw[EG (n:=d-1) oa oa];refine DN.2 ⟨λl=>?_,λl=>DM.2 ⟨p,j⟩⟩;have l:=AC l;have s:i64.wrap (a+1)=a+1:=EG oa oa;rw[s];refine DL.2 (ET.2 ⟨⟨oa,oa⟩,?_⟩);refine DL.2 (ET.2 ⟨⟨oa,oa⟩,?_⟩);refine DL.2 (ET.2 ⟨⟨oa,oa⟩,?_⟩);refine DL.2 (ET.2 ⟨⟨oa,by rw[B0];omega⟩,?_⟩);refine m _ ⟨h1,by simp only[B0];omega,om,by simp only[B0];omega,by simp only[B0];omega,λq b=>?_⟩ om;rcases E9 b with b|rfl
 .rcases E9 b with b|rfl
  .exact j q b
  .exact j _ (E8 oa)
 .exact j _ (E8 oa)
def AKu(slf:DT×Int×Int×Int×H9->Option DT)(x:DT×Int×Int)(h:0<=x.2.1/\x.2.2<x.1.length/\x.1.length<=1048576):
 Tot (vU slf x) (λr:List (DK×DK)=>r.length=x.1.length/\∀q∈r,q∈x.1):=by
 refine EQ (R:=λr:List (DK×DK)=>r.length=x.1.length/\∀q∈r,q∈x.1) (λy:DT×Int×Int=>0<=y.2.1/\y.2.2<y.1.length/\y.1.length<=1048576/\y.1.length=x.1.length/\∀q∈y.1,q∈x.1)
  (λy=>(y.2.2-y.2.1).toNat) ?_ _ _ ⟨h.1,h.2.1,h.2.2,rfl,λq b=>b⟩ (by obtain⟨_,_,_⟩:=h;unfold fuel;omega)
 rintro next ⟨d,m,a⟩ h l
 dsimp only at h l;obtain⟨h1,w,z,p,e⟩:=h;unfold A3t;dsimp only;refine DN.2 ⟨λj=>?_,λj=>DM.2 ⟨p,e⟩⟩;have j:=AC j;have s:i64.wrap (a-1)=a-1:=EG oa oa;rw[s];refine DL.2 (ET.2 ⟨⟨oa,oa⟩,?_⟩);refine DL.2 (ET.2 ⟨⟨oa,oa⟩,?_⟩);refine DL.2 (ET.2 ⟨⟨oa,oa⟩,?_⟩);refine DL.2 (ET.2 ⟨⟨oa,by rw[B0];omega⟩,?_⟩);refine l _ ⟨h1,by simp only[B0];omega,by simp only[B0];omega,by simp only[B0];omega,λq b=>?_⟩ om;rcases E9 b with b|rfl
 .rcases E9 b with b|rfl
  .exact e q b
  .exact e _ (E8 oa)
 .exact e _ (E8 oa)
def AKv(slf:DT×Int×Int×Int×H9->Option DT)(x:DT×Int×H9×Int×Int)(h:(∀p,Tot (x.2.2.1 p) λ_=>True)/\0<=x.2.1/\x.2.1<x.1.length/\0<=x.2.2.2.1/\x.2.2.2.1<=x.2.2.2.2/\x.2.2.2.2<=x.1.length/\x.1.length<=1048576):
 Tot (vT slf x) (λr:DT×Int=>r.1=x.1/\x.2.2.2.1<=r.2/\r.2<=x.2.2.2.2):=by
 refine EQ (R:=λr:DT×Int=>r.1=x.1/\x.2.2.2.1<=r.2/\r.2<=x.2.2.2.2) (λy:DT×Int×H9×Int×Int=>(∀p,Tot (y.2.2.1 p) λ_=>True)/\0<=y.2.1/\y.2.1<y.1.length/\0<=y.2.2.2.1/\y.2.2.2.1<=y.2.2.2.2/\y.2.2.2.2<=y.1.length/\y.1.length<=1048576/\y.1=x.1/\x.2.2.2.1<=y.2.2.2.1/\y.2.2.2.2<=x.2.2.2.2)
  (λy=>(y.2.2.2.2-y.2.2.2.1).toNat) ?_ _ _ ⟨h.1,h.2.1,h.2.2.1,h.2.2.2.1,h.2.2.2.2.1,h.2.2.2.2.2.1,h.2.2.2.2.2.2,rfl,AS _,AS _⟩ (by obtain⟨_,_,_,_,_,_,_⟩:=h;unfold fuel;omega)
 rintro next ⟨d,G,b,a,j⟩ h m
 dsimp only at h m;obtain⟨h0,h1,z,C,I,D,A,e,B,E⟩:=h;unfold A3s;dsimp only;refine DN.2 ⟨λl=>?_,λl=>DM.2 ⟨e,B,om⟩⟩;have l:=AC l;refine DL.2 (SA oa oa oa oa ?_);have s:i64.wrap ((a+j) / 2)=(a+j) / 2:=EG oa oa;have w:i64.wrap ((a+j) / 2+1)=(a+j) / 2+1:=EG oa oa;rw[s,w];refine DL.2 (ET.2 ⟨⟨oa,oa⟩,?_⟩);refine DL.2 (ET.2 ⟨⟨oa,oa⟩,?_⟩);refine DL.2 ((h0 _).mono λH _=>?_);refine DN.2 ⟨λ_=>?_,λ_=>?_⟩
 .exact m _ ⟨h0,h1,z,om,om,D,A,e,om,E⟩ om
 .exact m _ ⟨h0,h1,z,C,om,om,A,e,B,om⟩ om
def AKw(slf:DT×Int×Int×Int×H9->Option DT)(x:DT×H9×Int×Int×Int)(h:(∀p,Tot (x.2.1 p) λ_=>True)/\0<=x.2.2.1/\x.2.2.1<=x.2.2.2.1/\x.2.2.2.1<=x.1.length/\x.2.2.2.1-1<=x.2.2.2.2/\x.2.2.2.2-x.2.2.1<x.1.length/\x.1.length<=1048576):
 Tot (vV slf x) (λr:DT×Int=>r.1=x.1/\x.2.2.1<=r.2/\r.2<=x.2.2.2.1):=by
 refine EQ (R:=λr:DT×Int=>r.1=x.1/\x.2.2.1<=r.2/\r.2<=x.2.2.2.1) (λy:DT×H9×Int×Int×Int=>(∀p,Tot (y.2.1 p) λ_=>True)/\0<=y.2.2.1/\y.2.2.1<=y.2.2.2.1/\y.2.2.2.1<=y.1.length/\y.2.2.2.1-1<=y.2.2.2.2/\y.2.2.2.2-y.2.2.1<y.1.length/\y.1.length<=1048576/\y.1=x.1/\x.2.2.1<=y.2.2.1/\y.2.2.2.1<=x.2.2.2.1)
  (λy=>(y.2.2.2.1-y.2.2.1).toNat) ?_ _ _ ⟨h.1,h.2.1,h.2.2.1,h.2.2.2.1,h.2.2.2.2.1,h.2.2.2.2.2.1,h.2.2.2.2.2.2,rfl,AS _,AS _⟩ (by obtain⟨_,_,_,_,_,_,_⟩:=h;unfold fuel;omega)
 rintro next ⟨d,e,s,a,b⟩ h m
 dsimp only at h m;obtain⟨h0,h1,I,D,E,G,B,j,C,H⟩:=h;unfold A3u;dsimp only;refine DN.2 ⟨λl=>?_,λl=>DM.2 ⟨j,C,om⟩⟩;have l:=AC l;refine DL.2 (SA oa oa oa oa ?_);have w:i64.wrap ((s+a) / 2)=(s+a) / 2:=EG oa oa;have z:i64.wrap ((s+a) / 2+1)=(s+a) / 2+1:=EG oa oa;have A:i64.wrap (b-(s+a) / 2)=b-(s+a) / 2:=EG oa oa;rw[w,z,A];refine DL.2 (ET.2 ⟨⟨oa,oa⟩,?_⟩);refine DL.2 (ET.2 ⟨⟨oa,oa⟩,?_⟩);refine DL.2 ((h0 _).mono λJ _=>?_);refine DN.2 ⟨λ_=>?_,λ_=>?_⟩
 .exact m _ ⟨h0,om,om,D,E,om,B,j,om,H⟩ om
 .exact m _ ⟨h0,h1,om,om,om,G,B,j,C,om⟩ om
def AKx(slf:DT×Int×Int×Int×H9->Option DT)(x:DT×Int×H9×Int×Int×Bool)(h:x.1.length<=1048576/\(x.2.2.2.2.2=true->0<=x.2.2.2.1/\x.2.2.2.1<x.2.1/\x.2.1<x.2.2.2.2.1/\x.2.2.2.2.1<=x.1.length)):
 Tot (gR slf x) (λr:List (DK×DK)=>r.length=x.1.length/\∀q∈r,q∈x.1):=by
 obtain⟨d,z,a,s,e,b⟩:=x;dsimp only at h;unfold gR;dsimp only;refine DN.2 ⟨λp=>?_,λ_=>DM.2 ⟨rfl,λq w=>w⟩⟩;have⟨h1,j,l,m⟩:=h.2 p;exact DL.2 ((AKr _ ⟨h1,j,l,m,h.1⟩).mono λr y=>DM.2 y)
def AKy(slf:DT×Int×Int×Int×H9->Option DT)(K:Int)(H:∀y:DT×Int×Int×Int×H9,((∀p,Tot (y.2.2.2.2 p) λ_=>True)/\0<=y.2.1/\y.2.1<y.2.2.1/\y.2.2.1<y.2.2.2.1/\y.2.2.2.1<=y.1.length/\y.1.length<=1048576)->y.2.2.2.1-y.2.1<=K->Tot (slf y) (λr:List (DK×DK)=>r.length=y.1.length/\∀q∈r,q∈y.1))(x:DT×Int×Int×Int×H9)(h:(∀p,Tot (x.2.2.2.2 p) λ_=>True)/\0<=x.2.1/\x.2.1<x.2.2.1/\x.2.2.1<x.2.2.2.1/\x.2.2.2.1<=x.1.length/\x.1.length<=1048576)(O:x.2.2.2.1-x.2.1<=2*K):
 Tot (vW slf x) (λr:List (DK×DK)=>r.length=x.1.length/\∀q∈r,q∈x.1):=by
 obtain⟨d,b,m,l,w⟩:=x;dsimp only at h O;obtain⟨h0,h1,h2,h3,N,z⟩:=h;unfold vW;dsimp only;rw[EG (n:=m-b) oa oa,EG (n:=l-m) oa oa];refine DN.2 ⟨λ_=>?_,λ_=>DN.2 ⟨λ_=>?_,λ_=>?_⟩⟩
 .refine DL.2 ((AKs slf _ ⟨h0,h1,om,om,om,N,z⟩).mono λW a=>?_);dsimp only at a;obtain⟨j,C,D⟩:=a;refine DL.2 ((AKt slf _ ⟨om,by dsimp only;rw[j];omega,h1,by dsimp only;rw[j];exact z⟩).mono λX a=>DM.2 ?_);dsimp only at a;rw[j]at a;exact a
 .refine DL.2 ((AKv slf _ ⟨h0,om,om,h1,om,om,z⟩).mono λW a=>?_);dsimp only at a;obtain⟨j,C,D⟩:=a;refine DL.2 ((AKu slf _ ⟨om,by dsimp only;rw[j];omega,by dsimp only;rw[j];exact z⟩).mono λX a=>DM.2 ?_);dsimp only at a;rw[j]at a;exact a
 .refine DL.2 (SA oa oa oa oa ?_);generalize G:(b+l) / 2=mid;rw[EG (n:=mid) oa oa,EG (n:=mid+m) oa oa,EG (n:=mid+m-1) oa oa]
  have Q:Tot (gQ slf (b,m,l,mid,mid+m,decide (mid<m))) λr:Int×Int=>0<=r.1/\b<=r.1/\mid+m-l<=r.1/\r.1<=r.2/\r.2<=m/\r.2<=mid+m/\mid+m-1-r.1<d.length:=by
   unfold gQ;dsimp only;refine DN.2 ⟨λe=>DM.2 ?_,λe=>DM.2 ?_⟩
   .have e:=AC e;rw[EG oa oa];dsimp only;omega
   .have e:=AK e;dsimp only;omega
  refine DL.2 (Q.mono λR a=>?_);obtain⟨f1,Y,Z,J,f5,f6,L⟩:=a;refine DL.2 ((AKw slf _ ⟨h0,f1,J,om,om,L,z⟩).mono λs a=>?_);dsimp only at a;obtain⟨j,C,D⟩:=a;rw[EG (n:=mid+m-s.2) oa oa];refine DL.2 ((AKx slf _ ⟨by dsimp only;rw[j];exact z,λe=>?_⟩).mono λB a=>?_)
  .dsimp only at e ⊢;rw[A4,BH,BH]at e;rw[j];omega
  dsimp only at a;rw[j]at a;obtain⟨M,E⟩:=a
  have A:Tot (gS slf (B,b,w,mid,s.2,decide (b<s.2)&&decide (s.2<mid))) λr:List (DK×DK)=>r.length=d.length/\∀q∈r,q∈d:=by
   unfold gS;dsimp only;refine DN.2 ⟨λe=>?_,λ_=>DM.2 ⟨M,E⟩⟩;rw[A4,BH,BH]at e;refine DL.2 ((H _ ⟨h0,h1,om,om,om,om⟩ om).mono λT a=>DM.2 ?_);dsimp only at a;exact⟨oa,λq A=>E q (a.2 q A)⟩
  refine DL.2 (A.mono λU a=>?_);obtain⟨k1,I⟩:=a;refine DN.2 ⟨λe=>?_,λ_=>DM.2 ⟨k1,I⟩⟩;rw[A4,BH,BH]at e;refine DL.2 ((H _ ⟨h0,om,om,om,om,om⟩ om).mono λV a=>DM.2 ?_);dsimp only at a;exact⟨oa,λq A=>I q (a.2 q A)⟩
def AKz:∀(n:Nat) (x:DT×Int×Int×Int×H9) (h:(∀p,Tot (x.2.2.2.2 p) λ_=>True)/\0<=x.2.1/\x.2.1<x.2.2.1/\x.2.2.1<x.2.2.2.1/\x.2.2.2.1<=x.1.length/\x.1.length<=1048576) (a:x.2.2.2.1-x.2.1<=2 ^ n),Tot (MC n x) (λr:List (DK×DK)=>r.length=x.1.length/\∀q∈r,q∈x.1):=by
 intro n;induction n with
 |zero=>
  intro x h a;obtain⟨_,h1,e,j,_,_⟩:=h;rw[Int.pow_zero]at a;omega
 |succ n d=>
  intro x h a;refine AKy (MC n) (2 ^ n) (λy b hk=>d y b hk) x h ?_;rw[Int.pow_succ]at a;omega
instance A6u:t6 ZF (λx=>(∀p,Tot (x.2.2.2.2 p) λ_=>True)/\0<=x.2.1/\x.2.1<x.2.2.1/\x.2.2.1<x.2.2.2.1/\x.2.2.2.1<=x.1.length/\x.1.length<=1048576) (λx r=>r.length=x.1.length/\∀q∈r,q∈x.1):=⟨λx h=>by
 unfold ZF;refine AKz 100 x h ?_;obtain⟨_,h1,a,b,d,e⟩:=h;have:(1048576:Int)<=2 ^ 100:=oi
 omega⟩
def AL0{s p:DK}(h:Lib.hasPrefix s p=true):p.length<=s.length:=(List.isPrefixOf_iff_prefix.1 h).length_le
instance A6v:t6 strings_HasPrefix (λ_=>True) (λx r=>r=true->x.2.length<=x.1.length):=⟨λx h=>DM.2 AL0⟩
theorem oQ(s p:DK):(Lib.trimPrefix s p).length<=s.length:=by
 unfold Lib.trimPrefix;split
 .rw[C2];omega
 .exact AD _
def AL1(x:DK×DK)(h:True):Tot (strings_TrimPrefix x) (λr:DK=>r.length<=x.1.length):=DM.2 (oQ _ _)
def AL2(x:DK×DK)(h:True):Tot (strings_CutPrefix x) (λr:DK×Bool=>r.1.length<=x.1.length):=DM.2 (oQ _ _)
instance A6w:t6 strings_Cut (λx=>x.1.length<=1048576) (λx r=>r.1.length<=x.1.length/\r.2.1.length<=x.1.length):=⟨λx h=>by
 unfold strings_Cut IP;rw[A6 oa];refine DM.2 ?_;unfold Lib.cut;split
 .simp only[BQ,C2];omega
 .simp⟩
def AL3(x:DK×Int)(h:x.1.length<=1048576):Tot (strings_LastIndexByte x) (λr:Int=>-1<=r/\r<x.1.length):=by
 unfold strings_LastIndexByte IP;rw[A6 oa];refine DM.2 ?_;have a:(⟨x.1.toArray⟩:ByteArray).size=x.1.length:=by simp[ByteArray.size]
 rcases Lib.lastIndexByte_spec ⟨x.1.toArray⟩ x.2 with⟨e,_⟩|⟨i,hi,e,_⟩<;>rw[e]<;>omega
def AL4:∀(k u m:Nat),u<10 ^ m->1<=m->(MX k u).length<=m:=by
 intro k;induction k with
 |zero=>intro u m _ _;simp[MX]
 |succ k e=>
  intro u m a d;simp only[MX];split
  .simpa using d
  .rename_i h;obtain⟨j,rfl⟩:∃j,m=j+1:=⟨m-1,oa⟩
   have b:1<=j:=by
    rcases j with _|j
    .simp at a;omega
    .omega
   have:=e (u / 10) j (by rw[Nat.pow_succ]at a;omega) b;simp only[AG,BJ,BY];omega
def AL5:∀(k u:Nat),1<=k->1<=(MX k u).length:=by
 intro k u h;obtain⟨j,rfl⟩:∃j,k=j+1:=⟨k-1,oa⟩;simp only[MX];split<;>simp
instance KA:t6 strconv_Itoa (λ_=>True) (λx r=>1<=r.length/\r.length<=21/\(0<=x->x<=999999999999999999->r.length<=18)):=⟨λx h=>by
 refine DM.2 ⟨?_,A3K x,?_⟩
 .unfold RU;split
  .simp
  .exact AL5 20 _ oi
 .intro h0 h1;unfold RU;rw[if_neg oa];exact AL4 20 _ 18 (by have a:(10:Nat) ^ 18=1000000000000000000:=(oi);omega) oi⟩
def U2(b:UInt8):Prop:=48<=b.toNat/\b.toNat<=57
def AL6:∀(l:DK) (a k:Nat),(∀b∈l,U2 b)->a<10 ^ k->l.length+k<=18->∃u,Lib.parseUint10 a l=.ok u/\u<10 ^ 18:=by
 intro l;induction l with
 |nil=>intro a k _ h1 h;exact⟨a,rfl,AO h1 (Nat.pow_le_pow_right oi (by simpa using h))⟩
 |cons c r p=>
  intro a k d h1 h;have s:r.length+1+k<=18:=by simpa using h
  have w:10 ^ k<=10 ^ 17:=Nat.pow_le_pow_right oi oa;have e:(10:Nat) ^ 17=100000000000000000:=oi
  have m:48<=c.toNat/\c.toNat<=57:=d c AE;simp only[Lib.parseUint10];rw[if_pos m,if_neg oa,if_neg oa];exact p _ (k+1) (λb j=>d b (AN _ j)) (by rw[Nat.pow_succ];omega) oa
def A06(s:DK)(h0:s≠[])(h:∀b∈s,U2 b)(l:s.length<=18):∃u:Nat,Lib.atoiAll s=.ok (u:Int)/\u<1000000000000000000:=by
 cases s with
 |nil=>exact absurd rfl h0
 |cons c r=>
  have j:=h c AE;unfold U2 at j;have⟨u,e,d⟩:=AL6 (c::r) 0 0 h oi l;have a:(10:Nat) ^ 18=1000000000000000000:=oi
  rw[a]at d;refine⟨u,?_,d⟩;unfold Lib.atoiAll;simp only;rw[if_neg oa];unfold Lib.parseMag;rw[if_neg oh,e];simp only;rw[if_neg oa,if_neg oa,if_neg oa]
def AL7(x:DK)(h:x.length<=1048576):Tot (fI x) (λr:Int×Unit=>x≠[]->(∀b∈x,U2 b)->x.length<=18->0<=r.1/\r.1<=999999999999999999):=by
 unfold fI IP;rw[A6 oa];show Tot (match Lib.atoiAll x with| .ok v=>some (v,())| .range=>some (Lib.atoiSat x,())|_=>some (0,())) _;cases e:Lib.atoiAll x with
 |ok v=>
  refine DM.2 λh1 d j=>?_;have⟨u,a,l⟩:=A06 x h1 d j;rw[e]at a;injection a with a;subst a;dsimp only;omega
 |range=>exact DM.2 λh1 d j=>by have⟨u,a,_⟩:=A06 x h1 d j;rw[e]at a;cases a
 |_=>exact DM.2 λh1 d j=>by have⟨u,a,_⟩:=A06 x h1 d j;rw[e]at a;cases a
instance AL8:t6 strings_Repeat (λx=>x.1.length=1/\0<=x.2/\x.2<=1048576) (λx r=>(r.length:Int)=x.2):=⟨λx h=>by
 unfold strings_Repeat IP;rw[A6 (by rw[h.1];omega)];refine DM.2 ?_;rw[Lib.repeatL_length,h.1];omega⟩
def AL9(r:Int):(Lib.encodeRune r).length<=4:=by
 unfold Lib.encodeRune Lib.encodeRuneZ;rw[AY]
 repeat' split
 all_goals simp
def ALA(f:Int->Int):∀(n:Nat) (l:DK),(Lib.mapGoD f n l).length<=4*n:=by
 intro n;induction n with
 |zero=>intro l;simp[Lib.mapGoD]
 |succ n a=>
  intro l;simp only[Lib.mapGoD];split
  .simp
  .rw[AG];have h1:=a (l.drop (Lib.decodeL l).2)
   have h:(if 0<=f (Lib.decodeL l).1 then Lib.encodeRune (f (Lib.decodeL l).1)else []).length<=4:=by
    split
    .exact AL9 _
    .simp
   omega
instance A6x:t6 YV (λx=>x.length<=1048576) (λx r=>r.length<=4*x.length):=⟨λx h=>by
 unfold YV IP;rw[A6 oa];have h1:(Lib.toLowerD x).length<=4*x.length:=ALA _ _ _;show Tot (str? _) _;unfold str?;rw[A6 oa];exact DM.2 h1⟩
def ALB(p:Nat->Bool)(s:ByteArray):∀(f pos:Nat) (st:Option Nat) (b:List (Nat×Nat)),(Lib.spansFromP p s f pos st b).1.length<=b.length+f:=by
 intro f;induction f with
 |zero=>intro pos st b;simp[Lib.spansFromP]
 |succ f d=>
  intro pos st b;simp only[Lib.spansFromP];split
  .split
   .cases st with
    |some a=>have:=d (pos+(Utf8.decode s pos).2) none (b++[(a,pos)]);simp only[AG,BJ,BY]at this ⊢;omega
    |none=>have:=d (pos+(Utf8.decode s pos).2) none b;dsimp only;omega
   .cases st with
    |some a=>have:=d (pos+(Utf8.decode s pos).2) (some a) b;dsimp only;omega
    |none=>have:=d (pos+(Utf8.decode s pos).2) (some pos) b;dsimp only;omega
  .simp
def ALC(p:Nat->Bool)(s:ByteArray):(Lib.goFieldsP p s).length<=s.size+1:=by
 unfold Lib.goFieldsP Lib.spansOfP Lib.closeSpans;rw[AY];have:=ALB p s s.size 0 none [];simp only[BY]at this;split
 .rw[AG];simp only[BJ,BY];omega
 .omega
def ALD(p:Nat->Bool)(s:ByteArray):∀b∈Lib.goFieldsP p s,b.size<=s.size:=by
 intro b h;unfold Lib.goFieldsP at h;obtain⟨x,_,rfl⟩:=CD.1 h;rw[CE];omega
def ALE(x:DK×N3)(h:x.1.length<=1048576/\∀c,Tot (x.2 c) λ_=>True):Tot (VJ x) (λr:List DK=>r.length<=x.1.length+1/\∀s∈r,s.length<=x.1.length):=by
 have d:(⟨x.1.toArray⟩:ByteArray).size=x.1.length:=by simp[ByteArray.size]
 have a:=λp=>ALC p ⟨x.1.toArray⟩;rw[d]at a;unfold VJ IP;rw[@decide_eq_true _ (Classical.propDecidable _) ⟨oa,λr _=>let ⟨b,e,_⟩:=h.2 r;⟨b,e⟩,by have:=a λr=>(x.2 (r:Int)).getD false;omega⟩];refine DM.2 ⟨?_,?_⟩
 .rw[AY];exact a _
 .intro s h1;obtain⟨b,j,rfl⟩:=CD.1 h1;have:=ALD _ _ b j;rw[d]at this;have e:b.data.toList.length=b.size:=by rw[BD];rfl
  omega
abbrev Nm(n:Int):Prop:=0<=n/\n<=999999999999999999
abbrev Nm1(n:Int):Prop:=-1<=n/\n<=999999999999999999
abbrev LS(l:List DK):Prop:=l.length<=1002/\∀s∈l,s.length<=1000
abbrev NS(l:List Int):Prop:=l.length<=1002/\∀n∈l,0<=n/\n<=999999999999999999
abbrev TS(l:List LO):Prop:=l.length<=1002/\∀t∈l,t.2.1.length<=5000/\0<=t.2.2/\t.2.2<=999999999999999999
abbrev Dt:=(List Int)×(List DK)
abbrev Rv:=Int×DK×DK×Bool
abbrev Sg:=Int×(List Int)×Int×Int×Int×Int×(List DK)
abbrev Ql:=List LO
abbrev Vr:=Sum KN (Sum K4 (Sum FP (Sum G_ (Sum Int Unit))))
abbrev oR(v:Dt):Prop:=v.1.length=3/\(∀n∈v.1,0<=n/\n<=999999999999999999)/\v.2.length<=1002/\∀s∈v.2,s.length<=1000
abbrev bH(v:Rv):Prop:=Nm v.1/\v.2.1.length<=1000/\v.2.2.1.length<=1000
abbrev OZ(v:Sg):Prop:=Nm v.1/\NS v.2.1/\(0<=v.2.2.1/\v.2.2.1<=3)/\Nm v.2.2.2.1/\Nm1 v.2.2.2.2.1/\Nm1 v.2.2.2.2.2.1/\LS v.2.2.2.2.2.2
def MG(v:Vr):Prop:=match v with
 | .inl d=>oR d
 | .inr (.inl r)=>bH r
 | .inr (.inr (.inl s))=>OZ s
 | .inr (.inr (.inr (.inl q)))=>TS q
 | .inr (.inr (.inr (.inr (.inl n))))=>Nm n
 | .inr (.inr (.inr (.inr (.inr _))))=>False
theorem ALF(d:Dt):MG (.inl d)=oR d:=rfl
theorem ALG(d:Rv):MG (.inr (.inl d))=bH d:=rfl
theorem ALH(d:Sg):MG (.inr (.inr (.inl d)))=OZ d:=rfl
theorem ALI(d:Ql):MG (.inr (.inr (.inr (.inl d))))=TS d:=rfl
theorem ALJ(d:Int):MG (.inr (.inr (.inr (.inr (.inl d)))))=Nm d:=rfl
theorem EJ{α:Type}{l:List α}{i j:Nat}{a:α}:a∈(l.take i).drop j->a∈l:=λh=>List.mem_of_mem_take (List.mem_of_mem_drop h)
theorem EI{α:Type}(l:List α)(i j:Nat):((l.take i).drop j).length=min i l.length-j:=oh
def oS{xs:List DK}{sep:DK}{m k c:Nat}:(∀s∈xs,s.length<=m)->xs.length<=k->sep.length<=c->(Lib.join xs sep).length<=k*(m+c):=λh hk a=>
 AM (A02 sep m xs h) (Nat.mul_le_mul hk oa)
theorem EL(s:DK):DP s []=decide (s.length=0):=by rw[D_];cases s<;>simp
def ALK(x:DK×Int×N3×Int)(h:0<=x.2.2.2/\0<=x.2.1/\x.2.1+x.2.2.2<=x.1.length/\x.1.length<=1048576/\(∀c,Tot (x.2.2.1 c) λ_=>True)/\(∀j:Nat,x.2.1<=j->j<x.2.1+x.2.2.2->∀c,x.1[j]?=some c->x.2.2.1 (c.toNat:Int)=some true)):
 Tot (w9 x) (λr:Int=>x.2.2.2<=r/\x.2.1+r<=x.1.length/\(∀j:Nat,x.2.1<=j->j<x.2.1+r->∀c,x.1[j]?=some c->x.2.2.1 (c.toNat:Int)=some true)/\∀c,x.1[(x.2.1+r).toNat]?=some c->x.2.2.1 (c.toNat:Int)=some false):=by
 obtain⟨s,at_,f,n⟩:=x;dsimp only at h ⊢
 refine EQ (R:=λr:Int=>n<=r/\at_+r<=s.length/\(∀j:Nat,at_<=j->j<at_+r->∀c,s[j]?=some c->f (c.toNat:Int)=some true)/\∀c,s[(at_+r).toNat]?=some c->f (c.toNat:Int)=some false)
  (λy:DK×Int×N3×Int=>y.1=s/\y.2.1=at_/\y.2.2.1=f/\n<=y.2.2.2/\at_+y.2.2.2<=s.length/\(∀j:Nat,at_<=j->j<at_+y.2.2.2->∀c,s[j]?=some c->f (c.toNat:Int)=some true)) (λy=>(s.length-at_-y.2.2.2).toNat) ?_ _ _ ⟨rfl,rfl,rfl,AS _,h.2.2.1,h.2.2.2.2.2⟩ (by unfold fuel;dsimp only;omega)
 rintro next ⟨J,d,K,m⟩ D H
 dsimp only at D H;obtain⟨rfl,rfl,rfl,h1,C,p⟩:=D;obtain⟨L,M,N,O,I,_⟩:=h;unfold A42;dsimp only;rw[EG oa oa];by_cases G:d+m<J.length
 .rw[A6 G];simp only[A7,BV];refine DL.2 (EH.2 ⟨⟨oa,oa⟩,λb E=>?_⟩);have⟨r,B,_⟩:=I (b.toNat:Int);rw[B];refine DL.2 (DM.2 ?_);refine DN.2 ⟨λe=>?_,λe=>DM.2 ⟨h1,C,p,λc a=>?_⟩⟩
  .subst e;rw[EG oa oa];refine H _ ⟨rfl,rfl,rfl,om,om,?_⟩ om;intro j w z c l;dsimp only at z;by_cases A:(j:Int)<d+m
   .exact p j w A c l
   .have:j=(d+m).toNat:=oa
    subst this;rw[E]at l;cases l;exact B
  .subst e;rw[E]at a;cases a;exact B
 .rw[A9 G];simp only[A8,CX];refine DL.2 (DM.2 ?_);refine DL.2 (DM.2 ?_);refine DM.2 ⟨h1,C,p,λc a=>?_⟩;have:=(A5.1 a).1;omega
def oT(x:DK×Int×N3)(h:0<=x.2.1/\x.2.1<=x.1.length/\x.1.length<=1048576/\(∀c,Tot (x.2.2 c) λ_=>True)):
 Tot (IZ x) (λr:Int=>0<=r/\x.2.1+r<=x.1.length/\(∀j:Nat,x.2.1<=j->j<x.2.1+r->∀c,x.1[j]?=some c->x.2.2 (c.toNat:Int)=some true)/\∀c,x.1[(x.2.1+r).toNat]?=some c->x.2.2 (c.toNat:Int)=some false):=by
 obtain⟨s,a,f⟩:=x;dsimp only at h ⊢;unfold IZ;refine DL.2 ((ALK _ ⟨AS _,h.1,om,h.2.2.1,h.2.2.2,λj h1 b=>by dsimp only at h1 b;omega⟩).mono λr d=>DM.2 ?_);exact d
def ALL(x:DK×Int×N3)(h:0<=x.2.1/\x.2.1<=x.1.length/\x.1.length<=1048576/\(∀c,Tot (x.2.2 c) λ_=>True)):
 Tot (IZ x) (λr:Int=>0<=r/\x.2.1+r<=x.1.length):=(oT x h).mono λ_ a=>⟨a.1,a.2.1⟩
def O2(x:DK×Int×N3)(a:∀c,Tot (x.2.2 c) (λ_=>True))(h:0<=x.2.1/\x.2.1<=x.1.length/\x.1.length<=1048576):
 Tot (IZ x) (λr:Int=>0<=r/\x.2.1+r<=x.1.length):=ALL x ⟨h.1,h.2.1,h.2.2,a⟩
instance:t6 IZ (λx=>(∀c,Tot (x.2.2 c) (λ_=>True))/\0<=x.2.1/\x.2.1<=x.1.length/\x.1.length<=1048576) (λx r=>0<=r/\x.2.1+r<=x.1.length):=⟨λx h=>O2 x h.1 h.2⟩
def clo{α a:Type}{f:α->Option a}{P:a->Prop}{c:α}(h:Tot (f c) P):Tot ((f c).bind λr=>some r) λ_=>True:=DL.2 (h.mono λ_ _=>DM.2 trivial)
def A6y(c:Int):Tot ((H0 c).bind λr=>some r) λ_=>True:=⟨_,rfl,trivial⟩
instance HG:t6 H0 (λ_=>True) (λ_ _=>True):=⟨λc h=>⟨_,rfl,trivial⟩⟩
instance JH:t6 N6 (λ_=>True) (λ_ _=>True):=⟨λc h=>⟨_,rfl,trivial⟩⟩
def ALM(c:Int)(h:True):Tot (wF c) λ_=>True:=⟨_,rfl,trivial⟩
def A6z(c:Int)(h:True):Tot (wI c) λ_=>True:=⟨_,rfl,trivial⟩
def A70(b:UInt8)(h:((H0 (b.toNat:Int)).bind λr=>some r)=some true):U2 b:=by
 unfold H0 at h;simp at h;unfold U2;omega
instance LV:t6 K7 (λs=>s.length<=1048576) (λ_ r=>0<=r.1/\r.1<=999999999999999999):=⟨λs h=>by
 unfold K7;dsimp only;cases x:(DP s []||decide ((18:Int)<(s.length:Int)))with
 |true=>simp only[C9,A8,Bool.true_or,A7];exact DL.2 (DM.2 (DM.2 oi))
 |false=>
  simp only[CY,A7,CA];refine DL.2 ((oT _ ⟨AS _,om,h,A6y⟩).mono λr l=>?_);refine DN.2 ⟨λ_=>DM.2 oi,λe=>?_⟩;refine DL.2 ((AL7 s h).mono λz m=>DM.2 ?_);have a:=(BK.1 x);have y:r=s.length:=by simpa[DR]using e
  dsimp only at l;refine m (by simpa[D_]using a.1) (λb p=>?_) (by have:=AK a.2;omega);have⟨j,w,d⟩:=List.mem_iff_getElem.1 p;exact A70 b (l.2.2.1 j oa oa b (by rw[<-d];exact A1 w))⟩
def qM{p:Prop}(h:p:=by grind[fuel]):p:=h
def ALN(x:(List DY)×Int×HD×Int)(h:(∀p,Tot (x.2.2.1 p) λ_=>True)/\0<=x.2.1/\x.2.1<=x.2.2.2/\x.2.2.2<x.1.length/\x.1.length<=1048576):
 Tot (x6 x) (λr:List DY=>r.length=x.1.length/\∀q∈r,q∈x.1):=by
 refine EQ (R:=λr:List DY=>r.length=x.1.length/\∀q∈r,q∈x.1) (λy:(List DY)×Int×HD×Int=>(∀p,Tot (y.2.2.1 p) λ_=>True)/\0<=y.2.1/\y.2.1<=y.2.2.2/\y.2.2.2<y.1.length/\y.1.length<=1048576/\y.1.length=x.1.length/\∀q∈y.1,q∈x.1)
  (λy=>y.2.2.2.toNat) ?_ _ _ ⟨h.1,h.2.1,h.2.2.1,h.2.2.2.1,h.2.2.2.2,rfl,λq a=>a⟩ (by exact qM)
 rintro next ⟨d,b,e,j⟩ h m
 dsimp only at h m;obtain⟨h0,h1,A,B,C,s,l⟩:=h;unfold A4S;dsimp only;by_cases w:b<j
 .have z:i64.wrap (j-1)=j-1:=EG oa oa;simp only[z,A6 w,A7,BV];refine DL.2 (ET.2 ⟨⟨oa,oa⟩,?_⟩);refine DL.2 (ET.2 ⟨⟨oa,oa⟩,?_⟩);refine DL.2 ((h0 _).mono λD _=>?_);refine DN.2 ⟨λ_=>?_,λ_=>DM.2 ⟨s,l⟩⟩;refine DL.2 (ET.2 ⟨⟨oa,oa⟩,?_⟩);refine DL.2 (ET.2 ⟨⟨oa,oa⟩,?_⟩);refine DL.2 (ET.2 ⟨⟨oa,oa⟩,?_⟩);refine DL.2 (ET.2 ⟨⟨oa,oc⟩,?_⟩);refine m _ ⟨h0,h1,oc,oc,oc,oc,λq a=>?_⟩ oc;rcases E9 a with a|rfl
  .rcases E9 a with a|rfl
   .exact l q a
   .exact l _ (E8 oa)
  grind[E8]
 simp_all[A9,A8,CX,DL,DM]
theorem ALO(x:(List DY)×Int×Int×HD×Int)(h:(∀p,Tot (x.2.2.2.1 p) λ_=>True)/\0<=x.2.1/\x.2.1<=x.2.2.2.2/\x.2.2.1<=x.1.length/\x.2.2.2.2<=1048577/\x.1.length<=1048576):
 Tot (x7 x) (λr:List DY=>r.length=x.1.length/\∀q∈r,q∈x.1):=by
 refine EQ (R:=λr:List DY=>r.length=x.1.length/\∀q∈r,q∈x.1) (λy:(List DY)×Int×Int×HD×Int=>(∀p,Tot (y.2.2.2.1 p) λ_=>True)/\0<=y.2.1/\y.2.1<=y.2.2.2.2/\y.2.2.1<=y.1.length/\y.2.2.2.2<=1048577/\y.1.length<=1048576/\y.1.length=x.1.length/\∀q∈y.1,q∈x.1)
  (λy=>(y.2.2.1-y.2.2.2.2).toNat) ?_ _ _ ⟨h.1,h.2.1,h.2.2.1,h.2.2.2.1,h.2.2.2.2.1,h.2.2.2.2.2,rfl,λq B=>B⟩ (by exact qM)
 rintro next ⟨d,j,l,b,a⟩ h A
 dsimp only at h A;obtain⟨h0,h1,m,D,E,s,w,z⟩:=h;unfold A4T;dsimp only;refine DN.2 ⟨λe=>?_,λ_=>DM.2 ⟨w,z⟩⟩;have e:=AC e;have C:i64.wrap (a+1)=a+1:=EG oa oa;rw[C];refine DL.2 ((ALN _ ⟨h0,h1,m,oc,s⟩).mono λr G=>?_);grind
instance A71:t6 ZX (λx=>(∀p,Tot (x.2.2.2 p) λ_=>True)/\0<=x.2.1/\x.2.1<=1048576/\x.2.2.1<=x.1.length/\x.1.length<=1048576) (λx r=>r.length=x.1.length/\∀q∈r,q∈x.1):=⟨λx h=>by
 grind[ZX,EG,DL,ALO,DM]⟩
def ALP(x:(List DY)×Int×Int×Int×Int)(h:0<=x.2.1/\0<=x.2.2.1/\x.2.1+x.2.2.2.1<=x.1.length/\x.2.2.1+x.2.2.2.1<=x.1.length/\0<=x.2.2.2.2/\x.1.length<=1048576):
 Tot (x8 x) (λr:List DY=>r.length=x.1.length/\∀q∈r,q∈x.1):=by
 refine EQ (R:=λr:List DY=>r.length=x.1.length/\∀q∈r,q∈x.1) (λy:(List DY)×Int×Int×Int×Int=>0<=y.2.1/\0<=y.2.2.1/\y.2.1+y.2.2.2.1<=y.1.length/\y.2.2.1+y.2.2.2.1<=y.1.length/\0<=y.2.2.2.2/\y.1.length<=1048576/\y.1.length=x.1.length/\∀q∈y.1,q∈x.1)
  (λy=>(y.2.2.2.1-y.2.2.2.2).toNat) ?_ _ _ ⟨h.1,h.2.1,h.2.2.1,h.2.2.2.1,h.2.2.2.2.1,h.2.2.2.2.2,rfl,λq A=>A⟩ (by exact qM)
 rintro next ⟨e,b,d,B,a⟩ h z
 dsimp only at h z;obtain⟨h1,C,D,E,G,H,s,w⟩:=h;unfold A4U;dsimp only;refine DN.2 ⟨λp=>?_,λ_=>DM.2 ⟨s,w⟩⟩;have p:=AC p;have j:i64.wrap (b+a)=b+a:=EG oa oa;have l:i64.wrap (d+a)=d+a:=EG oa oa;have m:i64.wrap (a+1)=a+1:=EG oa oa;rw[j,l,m];refine DL.2 (ET.2 ⟨⟨oa,oa⟩,?_⟩);refine DL.2 (ET.2 ⟨⟨oa,oa⟩,?_⟩);refine DL.2 (ET.2 ⟨⟨oa,oa⟩,?_⟩);refine DL.2 (ET.2 ⟨⟨oa,oc⟩,?_⟩);grind
def A07(x:(List DY)×Int×Int×Int×HD)(h:0<=x.2.1/\0<=x.2.2.1/\x.2.1+x.2.2.2.1<=x.1.length/\x.2.2.1+x.2.2.2.1<=x.1.length/\x.1.length<=1048576):
 Tot (VX x) (λr:List DY=>r.length=x.1.length/\∀q∈r,q∈x.1):=by
 obtain⟨d,b,e,w,a⟩:=x;obtain⟨h1,j,l,m,p⟩:=h;unfold VX;dsimp only;exact DL.2 ((ALP _ ⟨h1,j,l,m,AS _,p⟩).mono λr s=>DM.2 s)
def ALQ(x:(List DY)×Int×HD×Int×Int)(h:0<x.2.2.2.1/\0<x.2.2.2.2/\x.2.2.2.1<=x.2.1/\x.2.1+x.2.2.2.2<=x.1.length/\x.1.length<=1048576):
 Tot (x9 x) (λr:(List DY)×Int=>r.1.length=x.1.length/\(∀q∈r.1,q∈x.1)/\0<r.2/\r.2<=x.2.1/\x.2.1+r.2<=x.1.length):=by
 refine EQ (R:=λr:(List DY)×Int=>r.1.length=x.1.length/\(∀q∈r.1,q∈x.1)/\0<r.2/\r.2<=x.2.1/\x.2.1+r.2<=x.1.length) (λy:(List DY)×Int×HD×Int×Int=>0<y.2.2.2.1/\0<y.2.2.2.2/\y.2.2.2.1<=y.2.1/\y.2.1+y.2.2.2.2<=y.1.length/\y.1.length<=1048576/\y.1.length=x.1.length/\(∀q∈y.1,q∈x.1)/\y.2.1=x.2.1)
  (λy=>(y.2.2.2.1+y.2.2.2.2).toNat) ?_ _ _ ⟨h.1,h.2.1,h.2.2.1,h.2.2.2.1,h.2.2.2.2,rfl,(λq G=>G),rfl⟩ (by exact qM)
 rintro next ⟨d,m,l,a,j⟩ h E
 dsimp only at h E;obtain⟨h1,I,J,K,B,C,D,L⟩:=h;unfold A4V;dsimp only;refine DN.2 ⟨λe=>?_,λe=>DM.2 ⟨C,D,h1,oa,?_⟩⟩
 .have e:a≠j:=by rw[DR]at e;simpa using e
  have p:i64.wrap (m-a)=m-a:=EG oa oa;have s:i64.wrap (m+j)=m+j:=EG oa oa;have w:i64.wrap (m+j-a)=m+j-a:=EG oa oa;have z:i64.wrap (a-j)=a-j:=EG oa oa;have A:i64.wrap (j-a)=j-a:=EG oa oa;rw[p,s,w,z,A];refine DN.2 ⟨λb=>?_,λb=>?_⟩
  .have b:=AC b;refine DL.2 ((A07 _ ⟨oc,oc,oc,oa,B⟩).mono λr H=>?_);grind
  .have b:=AK b;refine DL.2 ((A07 _ ⟨oc,oc,oc,oc,B⟩).mono λr H=>?_);grind
 grind[DR]
theorem ALR(x:(List DY)×Int×Int×Int×HD)(h:0<=x.2.1/\x.2.1<x.2.2.1/\x.2.2.1<x.2.2.2.1/\x.2.2.2.1<=x.1.length/\x.1.length<=1048576):
 Tot (jL x) (λr:List DY=>r.length=x.1.length/\∀q∈r,q∈x.1):=by
 obtain⟨d,a,m,b,e⟩:=x;dsimp only at h;obtain⟨h1,A,B,C,l⟩:=h;unfold jL;dsimp only;rw[EG (n:=m-a) oa oa,EG (n:=b-m) oa oa];refine DL.2 ((ALQ _ ⟨oc,oc,oc,oc,l⟩).mono λr j=>?_);dsimp only at j;obtain⟨p,s,w,y,z⟩:=j;rw[EG (n:=m-r.2) oa oa];refine DL.2 ((A07 _ ⟨oc,oc,oc,oc,oc⟩).mono λD j=>DM.2 ?_);grind
def ALS(slf:(List DY)×Int×Int×Int×HD->Option (List DY))(x:(List DY)×Int×HD×Int×Int)(h:(∀p,Tot (x.2.2.1 p) λ_=>True)/\0<=x.2.1/\x.2.1<x.1.length/\0<=x.2.2.2.1/\x.2.2.2.1<=x.2.2.2.2/\x.2.2.2.2<=x.1.length/\x.1.length<=1048576):
 Tot (xA slf x) (λr:(List DY)×Int=>r.1=x.1/\x.2.2.2.1<=r.2/\r.2<=x.2.2.2.2):=by
 refine EQ (R:=λr:(List DY)×Int=>r.1=x.1/\x.2.2.2.1<=r.2/\r.2<=x.2.2.2.2) (λy:(List DY)×Int×HD×Int×Int=>(∀p,Tot (y.2.2.1 p) λ_=>True)/\0<=y.2.1/\y.2.1<y.1.length/\0<=y.2.2.2.1/\y.2.2.2.1<=y.2.2.2.2/\y.2.2.2.2<=y.1.length/\y.1.length<=1048576/\y.1=x.1/\x.2.2.2.1<=y.2.2.2.1/\y.2.2.2.2<=x.2.2.2.2)
  (λy=>(y.2.2.2.2-y.2.2.2.1).toNat) ?_ _ _ ⟨h.1,h.2.1,h.2.2.1,h.2.2.2.1,h.2.2.2.2.1,h.2.2.2.2.2.1,h.2.2.2.2.2.2,rfl,AS _,AS _⟩ (by exact qM)
 rintro next ⟨d,s,b,a,j⟩ h A
 dsimp only at h A;obtain⟨h0,h1,B,C,D,E,G,w,z,H⟩:=h;unfold A4W;dsimp only;refine DN.2 ⟨λe=>?_,λe=>DM.2 ⟨w,z,oa⟩⟩;have e:=AC e;refine DL.2 (SA oa oa oa oa ?_);have l:i64.wrap ((a+j) / 2)=(a+j) / 2:=EG oa oa;have m:i64.wrap ((a+j) / 2+1)=(a+j) / 2+1:=EG oa oa;rw[l,m];refine DL.2 (ET.2 ⟨⟨oa,oa⟩,?_⟩);refine DL.2 (ET.2 ⟨⟨oa,oa⟩,?_⟩);refine DL.2 ((h0 _).mono λI _=>?_);grind
theorem ALT(slf:(List DY)×Int×Int×Int×HD->Option (List DY))(x:(List DY)×Int×Int)(h:0<=x.2.1/\x.2.1<=x.1.length/\0<=x.2.2/\x.1.length<=1048576):
 Tot (xB slf x) (λr:List DY=>r.length=x.1.length/\∀q∈r,q∈x.1):=by
 refine EQ (R:=λr:List DY=>r.length=x.1.length/\∀q∈r,q∈x.1) (λy:(List DY)×Int×Int=>0<=y.2.1/\y.2.1<=y.1.length/\0<=y.2.2/\y.1.length<=1048576/\y.1.length=x.1.length/\∀q∈y.1,q∈x.1)
  (λy=>(y.2.1-y.2.2).toNat) ?_ _ _ ⟨h.1,h.2.1,h.2.2.1,h.2.2.2,rfl,λq p=>p⟩ (by exact qM)
 rintro next ⟨d,b,a⟩ h m
 dsimp only at h m;obtain⟨h1,w,z,A,j,l⟩:=h;unfold A4X;dsimp only;rw[EG (n:=b-1) oa oa];refine DN.2 ⟨λe=>?_,λe=>DM.2 ⟨j,l⟩⟩;have e:=AC e;have s:i64.wrap (a+1)=a+1:=EG oa oa;rw[s];refine DL.2 (ET.2 ⟨⟨oa,oa⟩,?_⟩);refine DL.2 (ET.2 ⟨⟨oa,oa⟩,?_⟩);refine DL.2 (ET.2 ⟨⟨oa,oa⟩,?_⟩);refine DL.2 (ET.2 ⟨⟨oa,oc⟩,?_⟩);grind
theorem ALU(slf:(List DY)×Int×Int×Int×HD->Option (List DY))(x:(List DY)×Int×Int)(h:0<=x.2.1/\x.2.2<x.1.length/\x.1.length<=1048576):
 Tot (xD slf x) (λr:List DY=>r.length=x.1.length/\∀q∈r,q∈x.1):=by
 refine EQ (R:=λr:List DY=>r.length=x.1.length/\∀q∈r,q∈x.1) (λy:(List DY)×Int×Int=>0<=y.2.1/\y.2.2<y.1.length/\y.1.length<=1048576/\y.1.length=x.1.length/\∀q∈y.1,q∈x.1)
  (λy=>(y.2.2-y.2.1).toNat) ?_ _ _ ⟨h.1,h.2.1,h.2.2,rfl,λq b=>b⟩ (by exact qM)
 rintro next ⟨d,m,a⟩ h l
 dsimp only at h l;obtain⟨h1,w,z,p,e⟩:=h;unfold A4Z;dsimp only;refine DN.2 ⟨λj=>?_,λj=>DM.2 ⟨p,e⟩⟩;have j:=AC j;have s:i64.wrap (a-1)=a-1:=EG oa oa;rw[s];refine DL.2 (ET.2 ⟨⟨oa,oa⟩,?_⟩);refine DL.2 (ET.2 ⟨⟨oa,oa⟩,?_⟩);refine DL.2 (ET.2 ⟨⟨oa,oa⟩,?_⟩);refine DL.2 (ET.2 ⟨⟨oa,oc⟩,?_⟩);refine l _ ⟨h1,oc,oc,oc,λq b=>?_⟩ oc;rcases E9 b with b|rfl
 .rcases E9 b with b|rfl
  .exact e q b
  .exact e _ (E8 oa)
 grind[E8]
def ALV(slf:(List DY)×Int×Int×Int×HD->Option (List DY))(x:(List DY)×Int×HD×Int×Int)(h:(∀p,Tot (x.2.2.1 p) λ_=>True)/\0<=x.2.1/\x.2.1<x.1.length/\0<=x.2.2.2.1/\x.2.2.2.1<=x.2.2.2.2/\x.2.2.2.2<=x.1.length/\x.1.length<=1048576):
 Tot (xC slf x) (λr:(List DY)×Int=>r.1=x.1/\x.2.2.2.1<=r.2/\r.2<=x.2.2.2.2):=by
 refine EQ (R:=λr:(List DY)×Int=>r.1=x.1/\x.2.2.2.1<=r.2/\r.2<=x.2.2.2.2) (λy:(List DY)×Int×HD×Int×Int=>(∀p,Tot (y.2.2.1 p) λ_=>True)/\0<=y.2.1/\y.2.1<y.1.length/\0<=y.2.2.2.1/\y.2.2.2.1<=y.2.2.2.2/\y.2.2.2.2<=y.1.length/\y.1.length<=1048576/\y.1=x.1/\x.2.2.2.1<=y.2.2.2.1/\y.2.2.2.2<=x.2.2.2.2)
  (λy=>(y.2.2.2.2-y.2.2.2.1).toNat) ?_ _ _ ⟨h.1,h.2.1,h.2.2.1,h.2.2.2.1,h.2.2.2.2.1,h.2.2.2.2.2.1,h.2.2.2.2.2.2,rfl,AS _,AS _⟩ (by exact qM)
 rintro next ⟨d,A,b,a,j⟩ h z
 dsimp only at h z;obtain⟨h0,h1,C,D,E,G,H,s,w,I⟩:=h;unfold A4Y;dsimp only;refine DN.2 ⟨λe=>?_,λe=>DM.2 ⟨s,w,oa⟩⟩;have e:=AC e;refine DL.2 (SA oa oa oa oa ?_);have l:i64.wrap ((a+j) / 2)=(a+j) / 2:=EG oa oa;have m:i64.wrap ((a+j) / 2+1)=(a+j) / 2+1:=EG oa oa;rw[l,m];refine DL.2 (ET.2 ⟨⟨oa,oa⟩,?_⟩);refine DL.2 (ET.2 ⟨⟨oa,oa⟩,?_⟩);refine DL.2 ((h0 _).mono λB _=>?_);grind
def ALW(slf:(List DY)×Int×Int×Int×HD->Option (List DY))(x:(List DY)×HD×Int×Int×Int)(h:(∀p,Tot (x.2.1 p) λ_=>True)/\0<=x.2.2.1/\x.2.2.1<=x.2.2.2.1/\x.2.2.2.1<=x.1.length/\x.2.2.2.1-1<=x.2.2.2.2/\x.2.2.2.2-x.2.2.1<x.1.length/\x.1.length<=1048576):
 Tot (xE slf x) (λr:(List DY)×Int=>r.1=x.1/\x.2.2.1<=r.2/\r.2<=x.2.2.2.1):=by
 refine EQ (R:=λr:(List DY)×Int=>r.1=x.1/\x.2.2.1<=r.2/\r.2<=x.2.2.2.1) (λy:(List DY)×HD×Int×Int×Int=>(∀p,Tot (y.2.1 p) λ_=>True)/\0<=y.2.2.1/\y.2.2.1<=y.2.2.2.1/\y.2.2.2.1<=y.1.length/\y.2.2.2.1-1<=y.2.2.2.2/\y.2.2.2.2-y.2.2.1<y.1.length/\y.1.length<=1048576/\y.1=x.1/\x.2.2.1<=y.2.2.1/\y.2.2.2.1<=x.2.2.2.1)
  (λy=>(y.2.2.2.1-y.2.2.1).toNat) ?_ _ _ ⟨h.1,h.2.1,h.2.2.1,h.2.2.2.1,h.2.2.2.2.1,h.2.2.2.2.2.1,h.2.2.2.2.2.2,rfl,AS _,AS _⟩ (by exact qM)
 rintro next ⟨d,e,s,a,b⟩ h B
 dsimp only at h B;obtain⟨h0,h1,C,D,E,G,H,z,A,I⟩:=h;unfold A4_;dsimp only;refine DN.2 ⟨λj=>?_,λj=>DM.2 ⟨z,A,oa⟩⟩;have j:=AC j;refine DL.2 (SA oa oa oa oa ?_);have l:i64.wrap ((s+a) / 2)=(s+a) / 2:=EG oa oa;have m:i64.wrap ((s+a) / 2+1)=(s+a) / 2+1:=EG oa oa;have w:i64.wrap (b-(s+a) / 2)=b-(s+a) / 2:=EG oa oa;rw[l,m,w];refine DL.2 (ET.2 ⟨⟨oa,oa⟩,?_⟩);refine DL.2 (ET.2 ⟨⟨oa,oa⟩,?_⟩);refine DL.2 ((h0 _).mono λJ _=>?_);grind
def ALX(slf:(List DY)×Int×Int×Int×HD->Option (List DY))(x:(List DY)×Int×HD×Int×Int×Bool)(h:x.1.length<=1048576/\(x.2.2.2.2.2=true->0<=x.2.2.2.1/\x.2.2.2.1<x.2.1/\x.2.1<x.2.2.2.2.1/\x.2.2.2.2.1<=x.1.length)):
 Tot (jN slf x) (λr:List DY=>r.length=x.1.length/\∀q∈r,q∈x.1):=by
 obtain⟨d,m,a,s,e,b⟩:=x;dsimp only at h;unfold jN;dsimp only;refine DN.2 ⟨λl=>?_,λ_=>DM.2 ⟨rfl,λq j=>j⟩⟩;grind[DL,ALR,DM]
def ALY(slf:(List DY)×Int×Int×Int×HD->Option (List DY))(K:Int)(D:∀y:(List DY)×Int×Int×Int×HD,((∀p,Tot (y.2.2.2.2 p) λ_=>True)/\0<=y.2.1/\y.2.1<y.2.2.1/\y.2.2.1<y.2.2.2.1/\y.2.2.2.1<=y.1.length/\y.1.length<=1048576)->y.2.2.2.1-y.2.1<=K->Tot (slf y) (λr:List DY=>r.length=y.1.length/\∀q∈r,q∈y.1))(x:(List DY)×Int×Int×Int×HD)(h:(∀p,Tot (x.2.2.2.2 p) λ_=>True)/\0<=x.2.1/\x.2.1<x.2.2.1/\x.2.2.1<x.2.2.2.1/\x.2.2.2.1<=x.1.length/\x.1.length<=1048576)(L:x.2.2.2.1-x.2.1<=2*K):
 Tot (xF slf x) (λr:List DY=>r.length=x.1.length/\∀q∈r,q∈x.1):=by
 obtain⟨d,b,m,e,s⟩:=x;dsimp only at h L;obtain⟨h0,h1,h2,h3,J,w⟩:=h;unfold xF;dsimp only;rw[EG (n:=m-b) oa oa,EG (n:=e-m) oa oa];refine DN.2 ⟨λ_=>?_,λ_=>DN.2 ⟨λ_=>?_,λ_=>?_⟩⟩
 .refine DL.2 ((ALS slf _ ⟨h0,h1,oc,oc,oc,J,w⟩).mono λU a=>?_);grind[DL,ALT,DM]
 .refine DL.2 ((ALV slf _ ⟨h0,oc,oc,h1,oc,oc,w⟩).mono λU a=>?_);grind[DL,ALU,DM]
 .refine DL.2 (SA oa oa oa oa ?_);generalize C:(b+e) / 2=mid;rw[EG (n:=mid) oa oa,EG (n:=mid+m) oa oa,EG (n:=mid+m-1) oa oa]
  have M:Tot (jM slf (b,m,e,mid,mid+m,decide (mid<m))) λr:Int×Int=>0<=r.1/\b<=r.1/\mid+m-e<=r.1/\r.1<=r.2/\r.2<=m/\r.2<=mid+m/\mid+m-1-r.1<d.length:=by
   unfold jM;dsimp only;refine DN.2 ⟨λl=>DM.2 ?_,λl=>DM.2 ?_⟩
   .have l:=AC l;grind[EG]
   .grind
  refine DL.2 (M.mono λO a=>?_);obtain⟨f1,X,Y,G,Z,f6,H⟩:=a;refine DL.2 ((ALW slf _ ⟨h0,f1,G,oc,oc,H,w⟩).mono λj a=>?_);dsimp only at a;obtain⟨E,V,W⟩:=a;rw[EG (n:=mid+m-j.2) oa oa];refine DL.2 ((ALX slf _ ⟨oc,λl=>?_⟩).mono λA a=>?_)
  .grind
  dsimp only at a;rw[E]at a;obtain⟨I,B⟩:=a
  have z:Tot (jO slf (A,b,s,mid,j.2,decide (b<j.2)&&decide (j.2<mid))) λr:List DY=>r.length=d.length/\∀q∈r,q∈d:=by
   unfold jO;dsimp only;refine DN.2 ⟨λl=>?_,λ_=>DM.2 ⟨I,B⟩⟩;rw[A4,BH,BH]at l;refine DL.2 ((D _ ⟨h0,h1,oc,oc,oc,oc⟩ oc).mono λQ a=>DM.2 ?_);dsimp only at a;exact⟨oa,λq z=>B q (a.2 q z)⟩
  refine DL.2 (z.mono λR a=>?_);obtain⟨k1,N⟩:=a;refine DN.2 ⟨λl=>?_,λ_=>DM.2 ⟨k1,N⟩⟩;rw[A4,BH,BH]at l;refine DL.2 ((D _ ⟨h0,oc,oc,oc,oc,oc⟩ oc).mono λT a=>DM.2 ?_);grind
theorem ALZ:∀(n:Nat) (x:(List DY)×Int×Int×Int×HD) (h:(∀p,Tot (x.2.2.2.2 p) λ_=>True)/\0<=x.2.1/\x.2.1<x.2.2.1/\x.2.2.1<x.2.2.2.1/\x.2.2.2.1<=x.1.length/\x.1.length<=1048576) (a:x.2.2.2.1-x.2.1<=2 ^ n),Tot (ME n x) (λr:List DY=>r.length=x.1.length/\∀q∈r,q∈x.1):=by
 intro n;induction n with
 |zero=>
  omega
 |succ n d=>
  intro x h a;refine ALY (ME n) (2 ^ n) (λy b hk=>d y b hk) x h ?_;omega
instance A72:t6 ZY (λx=>(∀p,Tot (x.2.2.2.2 p) λ_=>True)/\0<=x.2.1/\x.2.1<x.2.2.1/\x.2.2.1<x.2.2.2.1/\x.2.2.2.1<=x.1.length/\x.1.length<=1048576) (λx r=>r.length=x.1.length/\∀q∈r,q∈x.1):=⟨λx h=>by
 unfold ZY;grind[ALZ]⟩
theorem A73:∀(x y:DK),Op.bytesLess x y=decide (x<y):=by
 intro x;induction x with
 |nil=>intro y;cases y<;>simp[Op.bytesLess]
 |cons a x e=>
  intro y;cases y with
  |nil=>simp[Op.bytesLess]
  |cons b y=>
   rw[Op.bytesLess,e y];simp only[List.cons_lt_cons_iff];by_cases h1:a<b<;>by_cases h:a=b<;>by_cases d:x<y<;>simp[h1,h,d]
theorem MH(a:DK):¬a<a:=List.lt_irrefl a
theorem WN{a b c:DK}(h1:a<b)(h:b<c):a<c:=List.lt_trans h1 h
theorem bI(a b:DK):a<b\/a=b\/b<a:=by
 by_cases h1:a<b
 .exact Or.inl h1
 .by_cases h:b<a
  .exact Or.inr (Or.inr h)
  .exact Or.inr (Or.inl (List.le_antisymm (List.not_lt.1 h) (List.not_lt.1 h1)))
def A74{a b c:DK}(h1:¬a<b)(e:¬b<c):¬a<c:=by
 intro h;rcases bI a b with d|d|d
 .exact h1 d
 .subst d;exact e h
 .exact e (WN d h)
theorem oU{a b:DK}(h1:a<b):¬b<a:=λh=>MH a (WN h1 h)
def J8(a b:DK):Int:=if a<b then -1 else if a=b then 0 else 1
theorem bJ(a b:DK):KR (a,b)=some (J8 a b):=by
 unfold KR VO J8;have e:∀s:DK,DP s s=true:=λs=>by rw[D_];simp
 simp only[e,C9,A0,A8,A73,D_];by_cases h:a=b
 .subst h;simp[MH]
 .by_cases h1:a<b<;>simp[h1,h]
theorem WO(a b:DK):J8 a b<0<->a<b:=by
 unfold J8;by_cases h:a=b
 .subst h;simp[MH]
 .by_cases h1:a<b<;>simp[h1,h]
def O3(a b:Int):Int:=if a<b then -1 else if b<a then 1 else 0
theorem oV(a b:Int):OR (a,b)=some (O3 a b):=by
 unfold OR gB O3;have e:∀s:Int,DO s s=true:=λs=>by rw[DR];simp
 simp only[e,C9,A0,A8];by_cases h1:a<b<;>by_cases h:b<a<;>simp[h1,h]
section
variable{T:Type}
theorem A08(xs:List T)(F:T×T->Option Int)(h:TE xs F):Tot (MA xs F) (λr=>r.Perm xs/\r.Pairwise (λa b=>∀c,F (b,a)=some c->0<=c)):=by
 unfold MA;split
 .rename_i h0;unfold IP;rw[A6 h];refine DM.2 ?_
  letI:Inhabited (Fin xs.length):=⟨⟨0,h0⟩⟩
  have D:Sort.SWO (IH xs F):=⟨h.2.1,h.2.2.1,h.2.2.2⟩;have x:=Sort.pdq_sorts (IH xs F) D (Array.ofFn id) 0 xs.length (Lib.bitLen xs.length) true true (AQ _) oh (Or.inl rfl);have e:L0 xs F h0=Sort.pdq (IH xs F) (Array.ofFn id) 0 xs.length (Lib.bitLen xs.length) true true:=A3L xs F h0;rw[e];generalize Sort.pdq (IH xs F) (Array.ofFn id) 0 xs.length (Lib.bitLen xs.length) true true=d at x;obtain⟨⟨h1,_,s⟩,B⟩:=x;have l:d.size=xs.length:=by rw[h1];simp
  have y:d.extract 0 xs.length=d:=by
   have:=Array.extract_size (xs:=d);rwa[l]at this
  have z:(Array.ofFn (id:Fin xs.length->Fin xs.length)).extract 0 xs.length=Array.ofFn id:=by
   have:=Array.extract_size (xs:=Array.ofFn (id:Fin xs.length->Fin xs.length));rwa[Array.size_ofFn]at this
  rw[y,z]at s;constructor
  .have C:=s.map xs.get
   have A:(Array.ofFn (id:Fin xs.length->Fin xs.length)).toList.map xs.get=xs:=by
    rw[Array.toList_ofFn,List.map_ofFn];apply List.ext_getElem
    .simp
    .intro i h1 E;simp
   rwa[A]at C
  .rw[List.pairwise_map,C4];intro i j hi G p c w;have H:d.toList.length=xs.length:=by rw[BD];exact l
   have m:=B i j (AQ _) p oa;rw[getElem!_pos d i oa,getElem!_pos d j oa]at m;unfold IH NR at m;rw[Array.getElem_toList,Array.getElem_toList]at w;rw[w]at m;simpa using m
 .rename_i h0;have:xs=[]:=List.length_eq_zero_iff.1 oa;subst this;exact DM.2 ⟨List.Perm.refl _,List.Pairwise.nil⟩
def AL_(xs:List T)(F:T×T->Option Int)(key:T->DK)(h:∀a b,F (a,b)=some (J8 (key a) (key b))):TE xs F:=by
 have e:∀i j,IH xs F i j=decide (key (xs.get i)<key (xs.get j)):=by
  intro i j;unfold IH NR;rw[h];simp[WO]
 refine⟨λi j=>by rw[h];rfl,λi=>?_,λi j k=>?_,λi j k=>?_⟩
 .rw[e];simp[MH]
 .rw[e,e,e];simp only[BH];exact WN
 .rw[e,e,e];simp only[CW];exact A74
def A75(xs:List T)(F:T×T->Option Int)(key:T->DK)(e:∀a b,F (a,b)=some (J8 (key a) (key b))):
 Tot (MA xs F) (λr=>r.Perm xs/\r.Pairwise (λa b=>¬key b<key a)):=
 (A08 xs F (AL_ xs F key e)).mono λr j=>⟨j.1,j.2.imp λ{a b} h d=>by
  have:=h _ (e b a);have:=(WO (key b) (key a)).2 d;omega⟩
end
abbrev Edge:=Int×DK×Bool×DK
abbrev I_:=Edge×Edge
def eo(a b:Edge):Int:=if a.1≠b.1\/a.1≠0 then O3 a.1 b.1 else if J8 a.2.1 b.2.1≠0\/a.2.2.1=b.2.2.1 then J8 a.2.1 b.2.1 else if a.2.2.1 then 1 else -1
theorem A76(a b:Edge):N7 (a,b)=some (eo a b):=by
 unfold N7 eo;dsimp only;rw[oV,bJ];simp only[A0,DR];by_cases h1:a.1=b.1
 .by_cases h:a.1=0
  .have j:I3 a.2.2.1 b.2.2.1=decide (a.2.2.1=b.2.2.1):=by cases a.2.2.1<;>cases b.2.2.1<;>rfl
   rw[j];by_cases d:J8 a.2.1 b.2.1=0<;>by_cases e:a.2.2.1=b.2.2.1<;>simp[<-h1,h,d,e]<;>(cases a.2.2.1<;>simp)
  .simp[<-h1,h]
 .simp[h1]
def L4(a b:Edge):Prop:=a.1<b.1\/(a.1=b.1/\a.1=0/\(a.2.1<b.2.1\/(a.2.1=b.2.1/\a.2.2.1=false/\b.2.2.1=true)))
def A77(a b:Edge):eo a b<0<->L4 a b:=by
 unfold eo L4 O3;by_cases h1:a.1=b.1
 .by_cases j:a.1=0
  .have d:b.1=0:=oa
   have l:¬(a.1≠b.1\/a.1≠0):=oa
   rw[if_neg l];rcases bI a.2.1 b.2.1 with h|h|h
   .have:J8 a.2.1 b.2.1= -1:=by unfold J8;rw[if_pos h]
    rw[this];simp[h1,d,h]
   .have:J8 a.2.1 b.2.1=0:=by unfold J8;rw[if_neg (by rw[h];exact MH _),if_pos h]
    rw[this,h];cases p:a.2.2.1<;>cases m:b.2.2.1<;>simp[h1,d,MH]
   .have e:¬a.2.1=b.2.1:=λe=>by rw[e]at h;exact MH _ h
    have:J8 a.2.1 b.2.1=1:=by unfold J8;rw[if_neg (oU h),if_neg e]
    rw[this];simp[h1,d,oU h,e]
  .have d:¬b.1=0:=oa
   simp[h1,d]
 .simp only[ne_eq,h1,not_false_eq_true,true_or,if_true,D9,or_false];by_cases j:a.1<b.1
  .simp[j]
  .by_cases h:b.1<a.1
   .simp[j,h]
   .omega
instance(a b:Edge):Decidable (L4 a b):=by unfold L4;infer_instance
def ALa(a:Edge):¬L4 a a:=by
 rintro(h|⟨_,_,h|⟨_,h1,b⟩⟩)
 .omega
 .exact MH _ h
 .rw[h1]at b;cases b
def ALb{a b c:Edge}(h1:L4 a b)(h:L4 b c):L4 a c:=by
 unfold L4 at *;rcases h1 with h1|⟨p1,j,p⟩
 .rcases h with h|⟨m,s,d⟩<;>exact Or.inl oa
 .rcases h with h|⟨m,s,d⟩
  .exact Or.inl oa
  .refine Or.inr ⟨oa,j,?_⟩;rcases p with p|⟨p,x,l⟩
   .rcases d with d|⟨d,e,w⟩
    .exact Or.inl (WN p d)
    .exact Or.inl (d▸p)
   .rcases d with d|⟨d,e,w⟩
    .exact Or.inl (p▸d)
    .rw[l]at e;cases e
def ALc{a b c:Edge}(h1:¬L4 a b)(j:¬L4 b c):¬L4 a c:=by
 intro h;unfold L4 at *;simp only[not_or,not_and]at h1 j;obtain⟨D,l⟩:=h1;obtain⟨E,s⟩:=j;rcases h with h|⟨p1,A,p⟩
 .omega
 .have x:a.1=b.1:=oa
  have y:b.1=c.1:=oa
  have⟨d,m⟩:=l x A;have⟨e,w⟩:=s y oa;rcases p with p|⟨p,B,C⟩
  .exact A74 d e p
  .rcases bI a.2.1 b.2.1 with g|g|g
   .exact d g
   .have z:b.2.1=c.2.1:=g▸p;have:=m g B;have:=w z (by cases G:b.2.2.1<;>simp_all);exact this C
   .exact e (p▸g)
def ALd(xs:List I_):Tot (uO (xs,λx=>(QF x).bind λr=>some r)) (λr=>r.Perm xs/\r.Pairwise λa b=>¬L4 b.1 a.1):=by
 have d:∀a b:I_,(QF (a,b)).bind (λr=>some r)=some (eo a.1 b.1):=by
  intro a b;unfold QF;dsimp only;rw[A76];rfl
 have e:∀i j,IH xs (λx=>(QF x).bind λr=>some r) i j=decide (L4 (xs.get i).1 (xs.get j).1):=by
  intro i j;unfold IH NR;show decide ((((QF (xs.get i,xs.get j)).bind λr=>some r).getD 0)<0)=_;rw[d];simp only[D1];exact decide_eq_decide.2 (A77 _ _)
 have p:TE xs (λx=>(QF x).bind λr=>some r):=by
  refine⟨λi j=>by show((QF (xs.get i,xs.get j)).bind λr=>some r).isSome=true;rw[d];rfl,λi=>?_,λi j k=>?_,λi j k=>?_⟩
  .rw[e];simp[ALa]
  .rw[e,e,e];simp only[BH];exact ALb
  .rw[e,e,e];simp only[CW];exact ALc
 refine(A08 xs _ p).mono λr m=>⟨m.1,m.2.imp λ{a b} h l=>?_⟩;have:=h _ (d b a);have:=(A77 b.1 a.1).2 l;omega
abbrev Af:=DK×Int×JD×(List DK)×(List DK)
abbrev FZ:=DK×(List DK)×DK×Int×Bool×DK×(List Af)
abbrev Bnd:=Bool×Bool×DK
abbrev bK:=Bnd×Bnd
def O_(a:Af):Prop:=a.1.length<=1048576/\a.2.2.1.length<=1048576/\(∀v∈a.2.2.1,v.2.length<=1048576)/\a.2.2.2.1.length<=1048576/\(∀s∈a.2.2.2.1,s.length<=1048576)/\a.2.2.2.2.length<=1048576/\(∀s∈a.2.2.2.2,s.length<=1048576)
def AfK(a:Af):Prop:=a.2.2.1.length<=100/\(∀v∈a.2.2.1,1<=v.1/\v.1<=3)/\a.2.2.2.1.length<=500
def LW(a:FZ):Prop:=a.1.length<=1048576/\a.2.1.length<=1048576/\(∀s∈a.2.1,s.length<=1048576)/\a.2.2.1.length<=1048576/\a.2.2.2.2.2.1.length<=1048576/\a.2.2.2.2.2.2.length<=1048576/\∀x∈a.2.2.2.2.2.2,O_ x
abbrev GW(s:bK):Prop:=s.1.2.2.length<=100/\s.2.2.2.length<=100
abbrev HH(s:I_):Prop:=s.1.2.2.2.length<=100/\s.2.2.2.2.length<=100
def P0{α:Type}{l:List α}{i:Nat}{x:α}(h:l[i]?=some x):x∈l:=AJ h
instance ALe:t6 OR (λ_=>True) (λ_ _=>True):=⟨λx h=>⟨_,oV x.1 x.2,trivial⟩⟩
instance U3:t6 N7 (λ_=>True) (λ_ _=>True):=⟨λx h=>⟨_,A76 x.1 x.2,trivial⟩⟩
def qu{p:Prop}(h:p:=by grind[E4,E3,E7,D_,DR,E6,E5,E2,E8,E9,EJ,EI,EL,EK,EM,EN,EO]):p:=h
def tl{p:Prop}(h:p:=by
 intros;try dsimp only at *
 repeat' first
  |(with_reducible first|refine DN.2 ⟨λ_=>?_,λ_=>?_⟩|refine DL.2 ?_|refine DM.2 ?_|refine EH.2 ⟨?_,λ_ _=>?_⟩|refine ET.2 ⟨?_,?_⟩|refine I6.2 ⟨?_,?_⟩|refine FT.2 ⟨?_,?_⟩|refine F4.2 ⟨?_,?_⟩|refine t7 ?_ λ_ _=>?_|refine⟨λ_=>?_,?_⟩)
  |split
  |dsimp only
 all_goals grind[E4,E3,E7,D_,DR,E6,E5,E2,E8,E9,EJ,EI,EL,EK,EM,EN,EO]):p:=h
instance oW:t6 TP (λx=>x.length<=1048576) (λ_ r=>0<=r.1/\r.1<=999999999999999999):=⟨by unfold TP;exact tl⟩
instance:t6 hY (λ_=>True) (λ_ _=>True):=⟨by unfold hY;exact tl⟩
instance:t6 wA (λx=>tj x.2.2 x.2.1 x.1.length/\∀s∈x.1,s.length<=1000) (λ_ r=>∀y,r=.inr y->y.1=[]/\y.2=false):=th (λ_ _=>True) (λy=>(y.2.1-y.2.2).toNat) (by unfold A43;exact tl)
instance:t6 ZH (λx=>x.length<=1000) (λ_ r=>LS r.1):=⟨by unfold ZH;exact tl⟩
instance:t6 wB (λx=>tj x.2.2 x.2.1 x.1.length/\∀s∈x.1,s.length<=1000) (λ_ r=>∀y,r=.inr y->y.1=[]/\y.2=false):=th (λ_ _=>True) (λy=>(y.2.1-y.2.2).toNat) (by unfold A44;exact tl)
instance:t6 hZ (λx=>x.length<=1000) (λ_ r=>LS r.1):=⟨by unfold hZ;exact tl⟩
instance ALi:t6 iA (λx=>x.length<=1000) (λ_ r=>LS r.1):=⟨by unfold iA;exact tl⟩
instance:t6 iB (λx=>0<=x.2.1/\x.2.1<=x.1.length/\x.1.length<=1000) (λx r=>(∀y,r=.inl y->0<=y/\y<=x.1.length)/\∀y,r=.inr y->y.2=false):=⟨by unfold iB;exact tl⟩
instance ALk:t6 wC (λx=>0<=x.2.2.2/\x.2.2.2<=3/\0<=x.2.2.1/\x.2.2.1<=x.1.length/\x.1.length<=1000/\x.2.1.1.length=3/\(∀n∈x.2.1.1,0<=n/\n<=999999999999999999)) (λx r=>(∀y,r=.inl y->y.1.1.length=3/\(∀n∈y.1.1,0<=n/\n<=999999999999999999)/\0<=y.2/\y.2<=x.1.length)/\∀y,r=.inr y->y.2=false):=th (λx y=>y.1=x.1) (λy=>(3-y.2.2.2).toNat) (by unfold A45;exact tl)
instance ALl:t6 iC (λx=>x.length<=1000) (λ_ r=>r.2=true->MG r.1):=⟨λx h=>by
 unfold iC
 repeat' first
  |(with_reducible first|refine DL.2 ?_|refine DM.2 ?_|refine I6.2 ⟨?_,?_⟩|refine(ALk.1 _ ?_).mono λ_ _=>?_|refine(ALi.1 _ ?_).mono λ_ _=>?_)
  |split
  |dsimp only
 all_goals grind[E4,E3,E7,D_,DR,E6,E5,E2,E8,E9,EJ,EI,EL,EK,EM,EN,EO,ALF]⟩
instance A7A:t6 iD (λ_=>True) (λ_ _=>True):=⟨by unfold iD;exact tl⟩
instance ALm:t6 wD (λx=>0<=x.2/\x.2<=x.1.length/\x.1.length<=1000) (λ_ r=>True):=⟨λx h=>by
 refine EQ (R:=λr:Sum (Unit) (Bool)=>True) (λy:DK×Int=>(0<=y.2/\y.2<=y.1.length/\y.1.length<=1000)/\y.1=x.1) (λy:DK×Int=>(y.1.length-y.2:Int).toNat) ?_ _ _ oc (by unfold fuel;grind);rintro next ⟨s,a⟩ h hn
 try dsimp only at h hn
 unfold A46
 repeat' first
  |(with_reducible first|refine DN.2 ⟨λ_=>?_,λ_=>?_⟩|refine DL.2 ?_|refine DM.2 ?_|refine(HG.1 _ ?_).mono λ_ _=>?_|refine(O2 _ ?_ ?_).mono λ_ _=>?_)
  |exact λc=>clo (HG.1 c trivial)
  |exact λc=>clo (JH.1 c trivial)
  |with_reducible refine hn _ ?_ ?_
  |dsimp only
 all_goals grind[E4,E3,E7,D_,DR,E6,E5,E2,E8,E9,EJ,EI,EL,EK,EM,EN,EO,Y4]⟩
instance ALn:t6 iE (λx=>x.length<=1000) (λ_ _=>True):=⟨by unfold iE;exact tl⟩
instance ALo:t6 iF (λx=>x.1.length<=1000/\x.2.2.2.1.length<=1000/\x.2.2.1.length<=1000/\x.2.1.1=0) (λx r=>(∀y,r=.inl y->y.1.length<=1000/\0<=y.2.1/\y.2.1<=999999999999999999/\y.2.2=x.2.1.2)/\∀y,r=.inr y->y.2=false):=⟨by unfold iF;exact tl⟩
instance ALp:t6 iG (λx=>x.length<=1000) (λ_ r=>r.2=true->MG r.1):=⟨λx h=>by
 unfold iG
 repeat' first
  |(with_reducible first|refine DN.2 ⟨λ_=>?_,λ_=>?_⟩|refine DL.2 ?_|refine DM.2 ?_|refine EH.2 ⟨?_,λ_ _=>?_⟩|refine I6.2 ⟨?_,?_⟩|refine(A6w.1 _ ?_).mono λ_ _=>?_|refine(ALo.1 _ ?_).mono λ_ _=>?_|refine(HG.1 _ ?_).mono λ_ _=>?_|refine(A7A.1 _ ?_).mono λ_ _=>?_|refine(ALn.1 _ ?_).mono λ_ _=>?_|refine(AL3 _ ?_).mono λ_ _=>?_|refine(bD.1 _ ?_).mono λ_ _=>?_|refine(O2 _ ?_ ?_).mono λ_ _=>?_)
  |exact λc=>clo (HG.1 c trivial)
  |exact λc=>clo (JH.1 c trivial)
  |exact λc=>clo (A7A.1 c trivial)
  |split
  |dsimp only
 all_goals grind[E4,E3,E7,D_,DR,E6,E5,E2,E8,E9,EJ,EI,EL,EK,EM,EN,EO,ALG]⟩
instance:t6 wE (λx=>x.1.length<=1000/\x.2.length+x.1.length<=1001/\(∀n∈x.2,0<=n/\n<=999999999999999999)) (λ_ r=>NS r.1/\r.2.1.length<=1000):=th (λ_ _=>True) (λy=>y.1.length) (by unfold A47;exact tl)
instance ALr:t6 iH (λx=>x.length<=1000) (λ_ r=>NS r.1/\r.2.1.length<=1000):=⟨by unfold iH;exact tl⟩
def ALs(x:DK×N3)(h:∀c,Tot (x.2 c) λ_=>True):Tot (ZI x) (λr:Int=>0<=r/\r<=1/\r<=x.1.length):=by
 obtain⟨s,a⟩:=x;try dsimp only at h ⊢
 unfold ZI
 repeat' first
  |(with_reducible first|refine DN.2 ⟨λ_=>?_,λ_=>?_⟩|refine DL.2 ?_|refine DM.2 ?_|refine EH.2 ⟨?_,λ_ _=>?_⟩|refine(ALM _ ?_).mono λ_ _=>?_|refine(h _).mono λ_ _=>?_)
  |dsimp only
 all_goals exact qu
instance:t6 wG (λx=>tj x.2.2.2.2 x.2.2.2.1 x.2.2.1.length/\x.2.1=[]) (λx r=>r.length<=x.1.length):=th (λx y=>y.1=x.1/\y.2.1=x.2.1) (λy=>(y.2.2.2.1-y.2.2.2.2).toNat) (by unfold A48;exact tl)
instance:t6 iI (λ_=>True) (λ_ _=>True):=⟨by unfold iI;exact tl⟩
instance:t6 iJ (λ_=>True) (λ_ _=>True):=⟨by unfold iJ;exact tl⟩
instance:t6 iK (λ_=>True) (λ_ _=>True):=⟨by unfold iK;exact tl⟩
instance ALx:t6 iL (λ_=>True) (λx r=>x.length<=281474976710656->r.1.length<=x.length/\(r.1≠[]->1<=r.2.1)/\r.2.1<=3/\0<=r.2.2/\r.2.2<=3):=⟨by unfold iL;exact tl⟩
instance ALy:t6 iM (λx=>0<=x.2.2.1/\x.2.2.1<=x.1.length/\x.1.length<=1000/\0<=x.2.1/\x.2.1<=999999999999999999) (λx r=>(∀y,r=.inl y->y.1.length<=x.1.length/\0<=y.2/\y.2<=999999999999999999)/\∀y,r=.inr y->y.2=false/\y.1=[]):=⟨by unfold iM;exact tl⟩
instance ALz:t6 wH (λx=>x.2.1.length<=1000/\0<=x.2.2/\x.2.2<=3/\OZ x.1) (λ_ r=>OZ r.1/\r.2.1.length<=1000):=⟨λx h=>by
 refine EQ (R:=λr:FP×DK×Bool=>OZ r.1/\r.2.1.length<=1000) (λy:FP×DK×Int=>(y.2.1.length<=1000/\0<=y.2.2/\y.2.2<=3/\OZ y.1)) (λy:FP×DK×Int=>(4-y.2.2).toNat) ?_ _ _ oc (by unfold fuel;grind);rintro next ⟨a,s,l⟩ h hn
 try dsimp only at h hn
 unfold A49
 repeat' first
  |(with_reducible first|refine DN.2 ⟨λ_=>?_,λ_=>?_⟩|refine DL.2 ?_|refine DM.2 ?_|refine EH.2 ⟨?_,λ_ _=>?_⟩|refine I6.2 ⟨?_,?_⟩|refine(ALs _ ?_).mono λ_ _=>?_|refine(JH.1 _ ?_).mono λ_ _=>?_|refine(ALx.1 _ ?_).mono λ_ _=>?_|refine(HG.1 _ ?_).mono λ_ _=>?_|refine(ALy.1 _ ?_).mono λ_ _=>?_)
  |exact λc=>clo (HG.1 c trivial)
  |exact λc=>clo (JH.1 c trivial)
  |with_reducible refine hn _ ?_ ?_
  |split
  |dsimp only
 all_goals exact qu⟩
instance AM0:t6 iN (λx=>x.2.length<=1000/\OZ x.1) (λ_ r=>r.1.length<=1000/\OZ r.2.2):=⟨by unfold iN;exact tl⟩
instance:t6 iO (λ_=>True) (λ_ _=>True):=⟨by unfold iO;exact tl⟩
instance AM1:t6 wJ (λx=>0<=x.2.2.2/\x.2.2.2<=x.2.2.1/\x.2.2.1=x.2.1.length/\x.2.2.1<=281474976710656/\0<=x.1/\x.1<=1048576+1000*x.2.2.2/\(∀s∈x.2.1,s.length<=1000)/\x.2.2.1<=1048576) (λ_ r=>∀y,r=.inr y->y.1=[]):=th (λ_ _=>True) (λy=>(y.2.2.1-y.2.2.2).toNat) (by unfold A4A;exact tl)
def AM2(x:DK)(h:x.length<=1000):Tot (iP x) (λr:(List DK)×Bool=>LS r.1):=by
 unfold iP
 repeat' first
  |(with_reducible first|refine DL.2 ?_|refine DM.2 ?_|refine(A6z _ ?_).mono λ_ _=>?_|refine(AM1.1 _ ?_).mono λ_ _=>?_|refine(ALE _ ⟨?_,?_⟩).mono λ_ _=>?_)
  |exact λc=>clo (A6z c trivial)
  |split
  |dsimp only
 all_goals exact qu
instance AM3:t6 iQ (λx=>x.1.length<=1000/\x.2.1.1=0/\0<=x.2.2.1/\x.2.2.1<=x.1.length/\(x.2.2.2=true->x.2.2.1<x.1.length)) (λx r=>(∀y,r=.inl y->y.1.length<=1000/\0<=y.2.1/\y.2.1<=999999999999999999/\y.2.2=x.2.1.2)/\∀y,r=.inr y->y.2=false):=⟨by unfold iQ;exact tl⟩
instance AM4:t6 iR (λx=>x.length<=1000) (λ_ r=>r.2=true->MG r.1):=⟨λx h=>by
 unfold iR
 repeat' first
  |(with_reducible first|refine DN.2 ⟨λ_=>?_,λ_=>?_⟩|refine DL.2 ?_|refine DM.2 ?_|refine EH.2 ⟨?_,λ_ _=>?_⟩|refine(AL1 _ ?_).mono λ_ _=>?_|refine(HG.1 _ ?_).mono λ_ _=>?_|refine(AM3.1 _ ?_).mono λ_ _=>?_|refine(ALr.1 _ ?_).mono λ_ _=>?_|refine(AM0.1 _ ?_).mono λ_ _=>?_|refine(AL2 _ ?_).mono λ_ _=>?_|refine(AM2 _ ?_).mono λ_ _=>?_|refine(O2 _ ?_ ?_).mono λ_ _=>?_)
  |exact λc=>clo (HG.1 c trivial)
  |exact λc=>clo (JH.1 c trivial)
  |split
  |dsimp only
 all_goals grind[E4,E3,E7,D_,DR,E6,E5,E2,E8,E9,EJ,EI,EL,EK,EM,EN,EO,ALH]⟩
instance AM5:t6 iS (λx=>x.1.length<=1000) (λ_ r=>r.length<=5000):=⟨by unfold iS;exact tl⟩
instance A09:t6 TQ (λ_=>True) (λ_ _=>True):=⟨by unfold TQ;exact tl⟩
instance AM6:t6 iT (λx=>0<=x.2.1/\x.2.1<x.1.length/\x.1.length<=1000) (λx r=>(∀y,r=.inl y->x.2.1<=y/\y<=x.1.length)/\∀y,r=.inr y->y.2=false):=⟨by unfold iT;exact tl⟩
def AM7(x:DK×G_×Int)(h:0<=x.2.2/\(x.1.length:Int)<=281474976710656/\x.2.2<=(x.1.length:Int)/\x.1.length<=1000/\x.2.1.length<=x.2.2/\(∀t∈x.2.1,t.2.1.length<=5000/\0<=t.2.2/\t.2.2<=999999999999999999)):Tot (wK x) (λr:Sum G_ (H8×Bool)=>(∀y,r=.inl y->TS y)/\∀y,r=.inr y->y.2=false):=by
 refine EQ (R:=λr:Sum G_ (H8×Bool)=>(∀y,r=.inl y->TS y)/\∀y,r=.inr y->y.2=false) (λy:DK×G_×Int=>(0<=y.2.2/\(y.1.length:Int)<=281474976710656/\y.2.2<=(y.1.length:Int)/\y.1.length<=1000/\y.2.1.length<=y.2.2/\(∀t∈y.2.1,t.2.1.length<=5000/\0<=t.2.2/\t.2.2<=999999999999999999))) (λy:DK×G_×Int=>((y.1.length:Int)-y.2.2).toNat) ?_ _ _ oc (by unfold fuel;grind);rintro next ⟨s,b,a⟩ h hn
 try dsimp only at h hn
 unfold A4B
 repeat' first
  |(with_reducible first|refine DN.2 ⟨λ_=>?_,λ_=>?_⟩|refine DL.2 ?_|refine DM.2 ?_|refine EH.2 ⟨?_,λ_ _=>?_⟩|refine I6.2 ⟨?_,?_⟩|refine F4.2 ⟨?_,?_⟩|refine(AM6.1 _ ?_).mono λ_ _=>?_|refine(HG.1 _ ?_).mono λ_ _=>?_|refine(LV.1 _ ?_).mono λ_ _=>?_|refine(JH.1 _ ?_).mono λ_ _=>?_|refine(AM5.1 _ ?_).mono λ_ _=>?_|refine(O2 _ ?_ ?_).mono λ_ _=>?_)
  |exact λc=>clo (HG.1 c trivial)
  |exact λc=>clo (JH.1 c trivial)
  |with_reducible refine hn _ ?_ ?_
  |split
  |dsimp only
 all_goals exact qu
def AM8(x:List LO)(h:TS x):Tot (wL x) (λr:List LO=>TS r):=by
 refine EQ (R:=λr=>TS r) (λy=>TS y) (λy=>y.length) ?_ _ _ h (by exact qM);intro next v h d
 unfold A4C;by_cases a:(0:Int)<v.length
 .rw[EG oa oa,A6 a];simp only[A7,BV];refine DL.2 (EH.2 ⟨⟨oa,oa⟩,λb j=>?_⟩);refine DL.2 ((A09.1 _ trivial).mono λr _=>?_);refine DN.2 ⟨λ_=>DL.2 (I6.2 ⟨⟨oa,oa,oa⟩,?_⟩),λ_=>DM.2 h⟩;refine d _ ⟨?_,λt e=>h.2 t (EJ e)⟩ ?_
  .rw[EI];omega
  .rw[EI];omega
 .rw[A9 a];simp only[A8,CX];grind[DL,DM]
instance AM9:t6 iU (λx=>x.length<=1000) (λ_ r=>r.2=true->MG r.1):=⟨λx h=>by
 unfold iU
 repeat' first
  |(with_reducible first|refine DL.2 ?_|refine DM.2 ?_|refine(AM7 _ ?_).mono λ_ _=>?_|refine(AM8 _ ?_).mono λ_ _=>?_)
  |split
  |dsimp only
 all_goals grind[E4,E3,E7,D_,DR,E6,E5,E2,E8,E9,EJ,EI,EL,EK,EM,EN,EO,ALI]⟩
instance AMA:t6 iV (λx=>x.length<=1000) (λ_ r=>r.2=true->MG r.1):=⟨λx h=>by
 unfold iV
 repeat' first
  |(with_reducible first|refine DL.2 ?_|refine DM.2 ?_|refine(oW.1 _ ?_).mono λ_ _=>?_)
  |dsimp only
 all_goals grind[E4,E3,E7,D_,DR,E6,E5,E2,E8,E9,EJ,EI,EL,EK,EM,EN,EO,ALJ]⟩
instance U4:t6 K8 (λx=>x.2.length<=1048576) (λ_ r=>r.2=0->MG r.1):=⟨by unfold K8;exact tl⟩
instance AMB:t6 wM (λx=>0<=x.2.2.2/\x.2.2.2<=x.2.2.1/\x.2.2.1=x.2.1.length/\x.2.2.1<=281474976710656/\x.1.length<=x.2.2.2/\(∀s∈x.1,s.length<=21)/\x.2.2.1<=1002) (λ_ r=>r.length<=1002/\∀s∈r,s.length<=21):=th (λ_ _=>True) (λy=>(y.2.2.1-y.2.2.2).toNat) (by unfold A4D;exact tl)
instance A7C:t6 ZJ (λx=>x.length<=1002) (λ_ r=>r.length<=30000):=⟨λx h=>by
 unfold ZJ;refine DL.2 ((AMB.1 _ ⟨oh,oh,rfl,ot,oh,oh,ot⟩).mono λr a=>?_);have b:(Lib.join r [46]).length<=1002*(21+1):=oS a.2 a.1 oh;exact DL.2 ((WM _ ⟨ot,oc⟩).mono λs d=>DM.2 oc)⟩
def A0A(x:(List Int)×(List DK))(h:oR x):Tot (ZK x) (λr:DK=>r.length<=1048576):=by
 unfold ZK;obtain⟨h1,d,a,b⟩:=h;have e:(Lib.join x.2 [46]).length<=1002*(1000+1):=oS b a oh;refine DL.2 (I6.2 ⟨⟨oa,oa,oa⟩,?_⟩);refine DL.2 ((A7C.1 _ oc).mono λr j=>?_);refine DN.2 ⟨λ_=>?_,λ_=>DM.2 oa⟩;refine DL.2 ((WM _ ⟨oc,oc⟩).mono λs l=>?_);grind[DL,FT,DM]
instance:t6 wN (λx=>0<=x.2.2/\x.2.2<=x.1.length/\x.1.length<=1000/\x.2.1.length<=21*x.2.2) (λ_ r=>r.length<=21000):=th (λx y=>y.1=x.1) (λy=>(y.1.length-y.2.2:Int).toNat) (by unfold A4E;exact tl)
instance:t6 ZL (λx=>x.length<=1000) (λ_ r=>r.length<=21000):=⟨by unfold ZL;exact tl⟩
instance:t6 ZM (λx=>bH x) (λ_ r=>r.length<=1000):=⟨by unfold ZM;exact tl⟩
instance:t6 wO (λx=>tj x.2.2.2 x.2.2.1 x.1.length/\x.2.2.1<=1000/\x.2.1.length<=x.2.2.2) (λx r=>r.length<=x.1.length):=th (λx y=>y.1=x.1) (λy=>(y.2.2.1-y.2.2.2).toNat) (by unfold A4F;exact tl)
instance AMF:t6 iX (λx=>x.length<=1000) (λx r=>r.length<=x.length+1):=⟨by unfold iX;exact tl⟩
instance L5:t6 K9 (λx=>0<=x/\x<=999999999999999999) (λ_ r=>r.length=18):=⟨by unfold K9;exact tl⟩
instance AMG:t6 wP (λx=>x.1.length<=1000/\x.2.length+40*x.1.length<=50000) (λ_ r=>r.length<=50000):=⟨λx h=>by
 refine EQ (R:=λr:List Int=>r.length<=50000) (λy:DK×(List Int)=>y.1.length<=1000/\y.2.length+40*y.1.length<=50000) (λy:DK×(List Int)=>y.1.length) ?_ _ _ h (by exact qM);rintro next ⟨s,b⟩ h hn
 dsimp only at h hn;unfold A4G;dsimp only;refine DN.2 ⟨λhc=>?_,λ_=>DM.2 oa⟩
 have hne:0<s.length:=by
  rw[EL]at hc;simp only[BC,CW]at hc;omega
 have f1:∀c,Tot ((iW c).bind λr=>some r) λ_=>True:=λc=>⟨_,rfl,trivial⟩;refine DL.2 ((oT _ ⟨AS _,oh,oc,f1⟩).mono λr1 hr1=>?_);dsimp only at hr1;obtain⟨a0,a1,_,a3⟩:=hr1;rw[Int.zero_add]at a1 a3;refine DL.2 ((oT _ ⟨a0,oa,oc,A6y⟩).mono λr2 hr2=>?_);dsimp only at hr2;obtain⟨b0,b1,_,b3⟩:=hr2
 have hpos:0<r1+r2:=by
  rcases Int.lt_or_le 0 (r1+r2)with h'|h'
  .exact h'
  .exfalso;have e1:r1=0:=oa
   have e2:r2=0:=oa
   subst e1 e2;have g:s[(0:Int).toNat]?=some (s[0]'hne):=A1 hne;grind[iW,H0]
 rw[EG oa oa];refine DL.2 (I6.2 ⟨⟨oa,oa,oa⟩,?_⟩);refine DL.2 ((LV.1 _ oc).mono λr4 h4=>?_);refine DL.2 (I6.2 ⟨⟨oa,oa,oa⟩,?_⟩);refine DL.2 ((AMF.1 _ oc).mono λr6 h6=>?_);rw[EI]at h6;refine DL.2 ((L5.1 _ h4).mono λr7 h7=>?_);refine DL.2 (FT.2 ⟨oa,?_⟩);refine DL.2 ((bF.1 _ ⟨oc,oc⟩).mono λr9 h9=>?_);grind[List.length_append,DL,I6,EI]⟩
instance:t6 QE (λx=>x.length<=1000) (λ_ r=>r.length<=50010):=⟨by unfold QE;exact tl⟩
instance:t6 iY (λx=>x.2.1.length<=1000000) (λx r=>r.1=x.1/\r.2.length<=x.2.1.length+30):=⟨by unfold iY;exact tl⟩
instance A0B:t6 ZN (λx=>bH x) (λ_ r=>r.length<=1048576):=⟨by unfold ZN;exact tl⟩
instance AMI:t6 wQ (λx=>NS x) (λ_ r=>NS r):=⟨λx h=>by
 refine EQ (R:=λr=>NS r) (λy=>NS y) (λy=>y.length) ?_ _ _ h (by exact qM);intro next v h d
 unfold A4H;by_cases a:(0:Int)<v.length
 .rw[EG oa oa,A6 a];simp only[A7,BV];refine DL.2 (EH.2 ⟨⟨oa,oa⟩,λb j=>?_⟩);refine DN.2 ⟨λ_=>DL.2 (I6.2 ⟨⟨oa,oa,oa⟩,?_⟩),λ_=>DM.2 h⟩;refine d _ ⟨?_,λt e=>h.2 t (EJ e)⟩ ?_
  .rw[EI];omega
  .rw[EI];omega
 .rw[A9 a];simp only[A8,CX];grind[DL,DM]⟩
instance A7F:t6 ZO (λx=>NS x) (λ_ r=>NS r):=⟨by unfold ZO;exact tl⟩
instance:t6 iZ (λx=>x.2.1.length<=10) (λx r=>r.1=x.1/\r.2.length<=30):=⟨by unfold iZ;exact tl⟩
instance:t6 i_ (λx=>x.1.length<=30/\x.2.1.length<=1002) (λ_ r=>r.length<=31000):=⟨by unfold i_;exact tl⟩
instance:t6 j6 (λx=>x.2.1.length<=31000/\0<=x.1.2.2.1/\x.1.2.2.1<=3) (λx r=>r.1=x.1/\r.2.length<=31100):=⟨by unfold j6;exact tl⟩
instance:t6 j7 (λx=>x.2.1.length<=31100) (λx r=>r.1=x.1/\r.2.length<=31200):=⟨by unfold j7;exact tl⟩
instance:t6 j8 (λx=>x.2.1.length<=31200) (λx r=>r.1=x.1/\r.2.length<=31300):=⟨by unfold j8;exact tl⟩
instance:t6 j9 (λ_=>True) (λx r=>r.length<=x.1.length+21):=⟨by unfold j9;exact tl⟩
instance:t6 wR (λx=>tj x.2.2.2 x.2.2.1 x.2.1.length/\x.1.length<=40000+1030*x.2.2.2/\x.2.2.1<=1002/\∀s∈x.2.1,s.length<=1000) (λ_ r=>r.length<=10000000):=th (λ_ _=>True) (λy=>(y.2.2.1-y.2.2.2).toNat) (by unfold A4I;exact tl)
instance A0C:t6 ZP (λx=>OZ x) (λ_ r=>r.length<=10000000):=⟨by unfold ZP;exact tl⟩
instance AMQ:t6 wS (λx=>0<=x.2.2.2/\x.2.2.2<=x.2.2.1/\x.2.2.1=x.2.1.length/\x.2.2.1<=281474976710656/\x.1.length<=x.2.2.2/\(∀s∈x.1,s.length<=5000)/\x.2.2.1<=1002/\∀t∈x.2.1,t.2.1.length<=5000) (λ_ r=>r.length<=1002/\∀s∈r,s.length<=5000):=th (λ_ _=>True) (λy=>(y.2.2.1-y.2.2.2).toNat) (by unfold A4J;exact tl)
def A0D(x:List LO)(h:TS x):Tot (ZQ x) (λr:DK=>r.length<=10000000):=by
 unfold ZQ;refine DL.2 ((AMQ.1 _ ⟨oh,oh,rfl,oc,oh,oh,oc,λt b=>(h.2 t b).1⟩).mono λr a=>?_);have d:(Lib.join r [45]).length<=1002*(5000+1):=oS a.2 a.1 oh;refine DN.2 ⟨λ_=>DM.2 oh,λ_=>?_⟩;exact DL.2 ((WM _ ⟨oc,oc⟩).mono λs e=>DM.2 oc)
def A0E(x:Int)(h:True):Tot (ZR x) (λr:DK=>r.length<=10000000):=by
 unfold ZR
 repeat' first
  |(with_reducible first|refine DL.2 ?_|refine DM.2 ?_|refine(KA.1 _ ?_).mono λ_ _=>?_)
  |dsimp only
 omega
instance AMR:t6 jA (λx=>MG x) (λ_ r=>r.1.length<=100):=⟨λx h=>by
 unfold jA;refine DL.2 (Tot.mono (P:=λr:DK=>r.length<=10000000) ?_ λd b=>?_)
 .rcases x with x|x|x|x|x|x
  .exact DL.2 ((A0A _ h).mono λ_ h=>DM.2 oa)
  .exact DL.2 ((A0B.1 _ h).mono λ_ h=>DM.2 oa)
  .exact DL.2 ((A0C.1 _ h).mono λ_ h=>DM.2 h)
  .exact DL.2 ((A0D _ h).mono λ_ h=>DM.2 h)
  .simp_all[DL,A0E,trivial,DM]
  .exact h.elim
 .refine DN.2 ⟨λ_=>DM.2 oh,λa=>DM.2 ?_⟩;grind⟩
instance oX:t6 TR (λx=>x.2.length<=1048576) (λ_ r=>r.1.length<=100):=⟨by unfold TR;exact tl⟩
instance:t6 vX (λx=>(∀p,Tot (x.2.2.1 p) λ_=>True)/\x.2.2.2.1=20/\0<=x.2.2.2.2.1/\x.2.2.2.2.2=x.2.2.2.2.1+20/\x.2.1=x.1.length/\x.2.1<=1048576/\x.2.2.2.2.1<=x.2.1) (λx r=>r.1.length=x.1.length/\(∀q∈r.1,q∈x.1)/\0<=r.2/\r.2<=x.2.1):=th (λx y=>y.2.1=x.2.1/\y.2.2.1=x.2.2.1/\y.2.2.2.1=x.2.2.2.1/\y.1.length=x.1.length/\∀q∈y.1,q∈x.1) (λy=>(y.2.1-y.2.2.2.2.1).toNat) (by unfold A3v;exact tl)
instance:t6 vY (λx=>(∀p,Tot (x.2.2.1 p) λ_=>True)/\0<x.2.2.2.1/\x.2.2.2.1<x.2.1/\0<=x.2.2.2.2.1/\x.2.2.2.2.2=x.2.2.2.2.1+2*x.2.2.2.1/\x.2.1=x.1.length/\x.2.1<=1048576/\x.2.2.2.2.1<=x.2.1) (λx r=>r.1.length=x.1.length/\(∀q∈r.1,q∈x.1)/\0<=r.2/\r.2<=x.2.1):=th (λx y=>y.2.1=x.2.1/\y.2.2.1=x.2.2.1/\y.2.2.2.1=x.2.2.2.1/\y.1.length=x.1.length/\∀q∈y.1,q∈x.1) (λy=>(y.2.1-y.2.2.2.2.1).toNat) (by unfold A3w;exact tl)
instance:t6 vZ (λx=>(∀p,Tot (x.2.2.1 p) λ_=>True)/\0<x.2.2.2/\x.2.2.2<=2097152/\x.2.1=x.1.length/\x.2.1<=1048576) (λx r=>r.length=x.1.length/\(∀q∈r,q∈x.1)):=th (λx y=>y.2.1=x.2.1/\y.2.2.1=x.2.2.1/\y.1.length=x.1.length/\∀q∈y.1,q∈x.1) (λy=>(2097153-y.2.2.2).toNat) (by unfold A3x;exact tl)
instance:t6 gT (λx=>(∀p,Tot (x.2.2 p) λ_=>True)/\x.2.1=x.1.length/\x.2.1<=1048576) (λx r=>r.length=x.1.length/\(∀q∈r,q∈x.1)):=⟨by unfold gT;exact tl⟩
instance AMW:t6 gU (λx=>(∀p,Tot (x.2 p) λ_=>True)/\x.1.length<=1048576) (λx r=>r.length=x.1.length/\(∀q∈r,q∈x.1)):=⟨by unfold gU;exact tl⟩
instance:t6 xG (λx=>(∀p,Tot (x.2.2.1 p) λ_=>True)/\x.2.2.2.1=20/\0<=x.2.2.2.2.1/\x.2.2.2.2.2=x.2.2.2.2.1+20/\x.2.1=x.1.length/\x.2.1<=1048576/\x.2.2.2.2.1<=x.2.1) (λx r=>r.1.length=x.1.length/\(∀q∈r.1,q∈x.1)/\0<=r.2/\r.2<=x.2.1):=th (λx y=>y.2.1=x.2.1/\y.2.2.1=x.2.2.1/\y.2.2.2.1=x.2.2.2.1/\y.1.length=x.1.length/\∀q∈y.1,q∈x.1) (λy=>(y.2.1-y.2.2.2.2.1).toNat) (by unfold A4a;exact tl)
instance:t6 xH (λx=>(∀p,Tot (x.2.2.1 p) λ_=>True)/\0<x.2.2.2.1/\x.2.2.2.1<x.2.1/\0<=x.2.2.2.2.1/\x.2.2.2.2.2=x.2.2.2.2.1+2*x.2.2.2.1/\x.2.1=x.1.length/\x.2.1<=1048576/\x.2.2.2.2.1<=x.2.1) (λx r=>r.1.length=x.1.length/\(∀q∈r.1,q∈x.1)/\0<=r.2/\r.2<=x.2.1):=th (λx y=>y.2.1=x.2.1/\y.2.2.1=x.2.2.1/\y.2.2.2.1=x.2.2.2.1/\y.1.length=x.1.length/\∀q∈y.1,q∈x.1) (λy=>(y.2.1-y.2.2.2.2.1).toNat) (by unfold A4b;exact tl)
instance:t6 xI (λx=>(∀p,Tot (x.2.2.1 p) λ_=>True)/\0<x.2.2.2/\x.2.2.2<=2097152/\x.2.1=x.1.length/\x.2.1<=1048576) (λx r=>r.length=x.1.length/\(∀q∈r,q∈x.1)):=th (λx y=>y.2.1=x.2.1/\y.2.2.1=x.2.2.1/\y.1.length=x.1.length/\∀q∈y.1,q∈x.1) (λy=>(2097153-y.2.2.2).toNat) (by unfold A4c;exact tl)
instance:t6 jP (λx=>(∀p,Tot (x.2.2 p) λ_=>True)/\x.2.1=x.1.length/\x.2.1<=1048576) (λx r=>r.length=x.1.length/\(∀q∈r,q∈x.1)):=⟨by unfold jP;exact tl⟩
instance AMa:t6 jQ (λx=>(∀p,Tot (x.2 p) λ_=>True)/\x.1.length<=1048576) (λx r=>r.length=x.1.length/\(∀q∈r,q∈x.1)):=⟨by unfold jQ;exact tl⟩
instance:t6 VO (λ_=>True) (λ_ _=>True):=⟨by unfold VO;exact tl⟩
instance:t6 KR (λ_=>True) (λ_ r=>-1<=r/\r<=1):=⟨by unfold KR;exact tl⟩
instance AMc:t6 gV (λ_=>True) (λ_ _=>True):=⟨by unfold gV;exact tl⟩
def AMd(x:DK×Int×Int)(h:x.1.length<=3000/\x.2.1=0/\x.2.2= -1):Tot (gO x) (λr:IB×EP=>r.1.2.2.2.2.1.length<=1048576):=by
 unfold gO;obtain⟨g1,g2,g3⟩:=h;refine DL.2 ((A6b.1 _ ⟨oc,oc,oc⟩).mono λr1 h1=>?_);dsimp only at h1;refine DN.2 ⟨λ_=>DM.2 oh,λ_=>?_⟩;refine DL.2 ((A6e.1 _ ⟨by rw[h1.1];omega,h1.2.1,oc⟩).mono λj J=>?_);obtain⟨l,R,y,T,U,z⟩:=J;rw[h1.1]at l y;rw[EG oa oa];refine DL.2 (I6.2 ⟨⟨oa,oa,oa⟩,?_⟩);have hj:(Lib.join ((j.1.take ((j.1.length:Int)-1).toNat).drop (0:Int).toNat) [47]).length<=1048577*(1048576+1):=oS (λs M=>z s (EJ M)) oc oh;refine DL.2 ((WM _ ⟨oc,oc⟩).mono λr4 h4=>?_);refine DL.2 (EH.2 ⟨⟨oa,oa⟩,λy5 N=>?_⟩);refine DL.2 (Tot.mono (P:=λw:Int=>w=0\/j.2.2.1<j.2.1.length) ?_ λw h6=>?_)
 .refine DN.2 ⟨λ_=>(U0.1 _ ⟨_,rfl,oa⟩).mono λr L=>?_,λ_=>DM.2 (Or.inl rfl)⟩;simp_all
 refine DL.2 ((AKO.1 _ ⟨oc,oc,oc,λK=>?_,oh⟩).mono λr8 p=>?_)
 .simp_all[DR]
 dsimp only at p;obtain⟨m,V,A,W,X,Y,Z,B⟩:=p;rw[l]at m A;refine DL.2 ((AKP.1 _ ⟨oc,oc,oc,?_,oh,?_⟩).mono λd a=>?_)
 .dsimp only;rw[B];simp;omega
 .simp_all
 dsimp only at a;obtain⟨C,c2,E,c4,c5,c6,c7,c8,G,D⟩:=a;rw[m]at C E;refine DL.2 (Tot.mono (P:=λe:Int=>e=0\/d.1.2.1<d.1.1.length) ?_ λe I=>?_)
 .refine DN.2 ⟨λ_=>(U0.1 _ ⟨_,rfl,oa⟩).mono λr L=>?_,λ_=>DM.2 (Or.inl rfl)⟩;simp_all
 refine DL.2 ((AKU _ ⟨oc,oc,oc,λK=>?_,?_⟩).mono λO b=>?_)
 .simp_all[DR]
 .grind
 dsimp only at b;obtain⟨d1,d2,d3,d4,d5,d6,d7,H,d9⟩:=b;refine DN.2 ⟨λ_=>DL.2 ((QJ.1 _ trivial).mono λQ _=>DM.2 ?_),λ_=>DM.2 ?_⟩<;>
 .dsimp only;rw[H];exact G
def AMe(x:I5×IB×Int)(h:1<=x.2.2/\x.2.1.2.2.2.2.1.length<=1048576):Tot (w6 x) (λr:Sum (I5×IB) (I5×Int×Int)=>(∀y,r=.inl y->y.2.2.2.2.2.1.length<=1048576)/\∀y,r=.inr y->y.2.2≠0):=by
 refine EQ (R:=λr:Sum (I5×IB) (I5×Int×Int)=>(∀y,r=.inl y->y.2.2.2.2.2.1.length<=1048576)/\∀y,r=.inr y->y.2.2≠0)
  (λy:I5×IB×Int=>1<=y.2.2/\y.2.1.2.2.2.2.1.length<=1048576) (λy:I5×IB×Int=>(y.2.1.2.2.2.2.1.length-y.2.2:Int).toNat) ?_ _ _ h (by unfold fuel;omega)
 rintro next ⟨e,p,i⟩ h d
 dsimp only at h d;unfold A3z;dsimp only;refine DN.2 ⟨λb=>?_,λ_=>DM.2 ⟨λy a=>oc,λy a=>by cases a⟩⟩;have b:=AC b;rw[EG oa oa,EG oa oa];refine DL.2 (ET.2 ⟨⟨oa,oa⟩,?_⟩);refine DL.2 (ET.2 ⟨⟨oa,oa⟩,?_⟩);refine DN.2 ⟨λ_=>DM.2 ⟨λy a=>(by cases a),λy a=>(by cases a;simp)⟩,λ_=>?_⟩;exact d _ ⟨oc,oc⟩ om
instance AMf:t6 VT (λx=>x.length<=1048576) (λ_ r=>r.2.2=0->r.1.2.2.2.2.1.length<=1048576):=⟨λx h=>by
 unfold VT;refine DN.2 ⟨λ_=>DM.2 oh,λj=>?_⟩;have j:=AK j;refine DL.2 ((AMd _ ⟨oc,rfl,rfl⟩).mono λB m=>?_);refine DN.2 ⟨λ_=>DM.2 oh,λ_=>?_⟩;refine DL.2 ((AMW.1 _ ⟨λc=>clo (AMc.1 c trivial),m⟩).mono λC A=>?_);refine DL.2 ((AMe _ ⟨oh,oc⟩).mono λz e=>?_);rcases z with y|y
 .have s:=e.1 y rfl;refine DL.2 ((bG _ s).mono λd a=>?_);refine DN.2 ⟨λb=>DM.2 λh0=>?_,λb=>?_⟩
  .simp
  .rw[DR]at b;have h0:d=0:=by simpa using b
   have p:=a h0;refine DL.2 ((oP _ p).mono λw l=>DM.2 λ_=>?_);grind
 .exact DM.2 λh0=>absurd h0 (e.2 y rfl)⟩
instance AMg:t6 g_ (λx=>x.length<=1048576) (λ_ _=>True):=⟨by unfold g_;exact tl⟩
def AMh(x:GQ×JD×Int×Int)(h:0<=x.2.2.2/\x.2.2.2<=x.2.2.1/\x.2.2.1=x.2.1.length/\x.2.2.1<=281474976710656/\(∀v∈x.2.1,v.2.length<=1048576)/\(∀j:Nat,(j:Int)<x.2.2.2->∀v,x.2.1[j]?=some v->1<=v.1/\v.1<=3)):Tot (wT x) (λr:Sum (Unit) (Int)=>(∀y,r=.inl y->∀v∈x.2.1,1<=v.1/\v.1<=3)/\∀y,r=.inr y->y≠0):=by
 refine EQ (R:=λr:Sum Unit Int=>(∀y,r=.inl y->∀v∈x.2.1,1<=v.1/\v.1<=3)/\∀y,r=.inr y->y≠0)
  (λy:Af×JD×Int×Int=>0<=y.2.2.2/\y.2.2.2<=y.2.2.1/\y.2.2.1=y.2.1.length/\y.2.2.1<=281474976710656/\y.2.1=x.2.1/\(∀v∈y.2.1,v.2.length<=1048576)/\∀j:Nat,(j:Int)<y.2.2.2->∀v,y.2.1[j]?=some v->1<=v.1/\v.1<=3)
  (λy=>(y.2.2.1-y.2.2.2).toNat) ?_ _ _ ⟨h.1,h.2.1,h.2.2.1,h.2.2.2.1,rfl,h.2.2.2.2⟩ (by exact qM)
 rintro next ⟨a,l,n,i⟩ s z
 dsimp only at s z;obtain⟨i0,i1,G,H,A,B,I⟩:=s;unfold A4K;dsimp only;refine DN.2 ⟨λe=>?_,λe=>DM.2 ⟨λy _ v p=>?_,λy b=>(by cases b)⟩⟩
 .have e:=AC e;rw[EG oa oa];refine DL.2 (EH.2 ⟨⟨i0,oa⟩,λv p=>?_⟩);refine DN.2 ⟨λ_=>DM.2 ⟨λy b=>(by cases b),λy b=>(by cases b;decide)⟩,λhk=>?_⟩
  have hk:1<=v.1/\v.1<=3:=by
   have:=BK.1 hk;have h1:=AK this.1;have J:=AK this.2;omega
  have d:∀j:Nat,(j:Int)<i+1->∀v,l[j]?=some v->1<=v.1/\v.1<=3:=by
   intro j C w L;by_cases D:(j:Int)<i
   .grind
   .grind
  have m:Tot (next (a,l,n,i+1)) (λr:Sum Unit Int=>(∀y,r=.inl y->∀v∈x.2.1,1<=v.1/\v.1<=3)/\∀y,r=.inr y->y≠0):=
   z _ ⟨oc,oc,G,H,A,B,d⟩ oc
  refine DN.2 ⟨λ_=>DN.2 ⟨λ_=>DM.2 ⟨λy b=>(by cases b),λy b=>(by cases b;decide)⟩,λ_=>m⟩,λ_=>?_⟩;refine DL.2 ((oX.1 (a.2.1,v.2) (B v (P0 p))).mono λr _=>?_);refine DN.2 ⟨λK=>DM.2 ⟨λy b=>(by cases b),λy b=>?_⟩,λ_=>m⟩;grind[DR]
 .have e:=AK e;rw[<-A]at p;have⟨j,C,E⟩:=List.mem_iff_getElem.1 p;exact I j oa v oc
def AMi(x:DK×Int×JD×(List DK)×(List DK))(h:O_ x):Tot (jB x) (λr:Int=>r=0->x.2.2.1.length<=100/\∀v∈x.2.2.1,1<=v.1/\v.1<=3):=by
 unfold jB;refine DN.2 ⟨λ_=>DM.2 λh0=>absurd h0 oi,λa=>?_⟩;have a:=AK a;refine DL.2 ((AMh _ ⟨AS _,BA _,rfl,oc,h.2.2.1,λj d=>oc⟩).mono λr b=>?_);rcases r with r|r
 .exact DM.2 λ_=>⟨oa,b.1 r rfl⟩
 .exact DM.2 λh0=>absurd h0 (b.2 r rfl)
instance AMj:t6 wU (λx=>0<=x.2.2.2/\x.2.2.2<=x.2.2.1/\x.2.2.1<=281474976710656/\x.2.2.1=x.1.length/\x.2.2.1<=1048576) (λ_ _=>True):=th (λ_ y=>(0≤y.2.2.2∧y.2.2.2≤y.2.2.1∧y.2.2.1≤281474976710656∧y.2.2.1=y.1.length∧y.2.2.1≤1048576)) (λy=>(y.2.2.1-y.2.2.2).toNat) (by unfold A4L;exact tl)
instance AMk:t6 wV (λx=>0<=x.2.2.2/\x.2.2.2<=x.2.2.1/\x.2.2.1=x.2.1.length/\x.2.2.1<=281474976710656/\x.1=x.2.1/\∀s∈x.2.1,s.length<=1048576) (λ_ r=>∀y,r=.inr y->y≠0):=⟨λx h=>by
 refine EQ (R:=λr:Sum Unit Int=>∀y,r=.inr y->y≠0)
  (λy:(List DK)×(List DK)×Int×Int=>0<=y.2.2.2/\y.2.2.2<=y.2.2.1/\y.2.2.1=y.2.1.length/\y.2.2.1<=281474976710656/\y.1=y.2.1/\∀v∈y.2.1,v.length<=1048576)
  (λy=>(y.2.2.1-y.2.2.2).toNat) ?_ _ _ h (by exact qM)
 rintro next ⟨a,l,n,i⟩ e m
 dsimp only at e m;obtain⟨i0,i1,B,C,z,A⟩:=e;subst z;unfold A4M;dsimp only;refine DN.2 ⟨λd=>?_,λd=>DM.2 λy b=>(by cases b)⟩;have d:=AC d;rw[EG (n:=i+1) oa oa,EG oa oa];refine DL.2 (EH.2 ⟨⟨i0,oa⟩,λv p=>?_⟩);have w:=A v (P0 p);refine DL.2 ((AMj.1 _ ⟨AS _,BA _,oc,rfl,oc⟩).mono λr _=>?_);refine DN.2 ⟨λ_=>DM.2 λy b=>(by cases b;decide),λ_=>?_⟩;refine DL.2 (Tot.mono (P:=λ_=>True) (DN.2 ⟨λj=>?_,λ_=>DM.2 trivial⟩) λD _=>?_)
 .have j:=AC j;exact EH.2 ⟨⟨oa,oa⟩,λ_ _=>trivial⟩
 .refine DN.2 ⟨λ_=>DM.2 λy b=>(by cases b;decide),λ_=>?_⟩;grind⟩
instance AMl:t6 jC (λx=>∀s∈x,s.length<=1048576) (λ_ _=>True):=⟨by unfold jC;exact tl⟩
instance AMm:t6 wW (λx=>0<=x.2.2.2/\x.2.2.2<=x.2.2.1/\x.2.2.1=x.2.1.length/\x.2.2.1<=281474976710656/\∀s∈x.2.1,s.length<=1048576) (λx r=>(∀y,r=.inl y->y=x.1)/\∀y,r=.inr y->y≠0):=th (λx y=>y.1=x.1) (λy=>(y.2.2.1-y.2.2.2).toNat) (by unfold A4N;exact tl)
def AMn(x:DK×Int×JD×(List DK)×(List DK))(h:O_ x):Tot (jD x) (λr:Int=>r=0->AfK x):=by
 unfold jD;refine DL.2 ((AMg.1 _ h.1).mono λp _=>?_);refine DN.2 ⟨λ_=>DM.2 λh0=>absurd h0 oi,λ_=>?_⟩;refine DN.2 ⟨λ_=>DM.2 λh0=>absurd h0 oi,λ_=>?_⟩;refine DL.2 ((AMi _ h).mono λl d=>?_);refine DN.2 ⟨λb=>DM.2 λh0=>?_,λb=>?_⟩
 .grind[DR]
 have a:l=0:=by rw[DR]at b;simpa using b
 refine DN.2 ⟨λ_=>DM.2 λh0=>absurd h0 oi,λj=>?_⟩;have j:=AK j;refine DL.2 ((AMm.1 _ ⟨AS _,BA _,rfl,oc,h.2.2.2.2.1⟩).mono λm e=>?_);rcases m with y|y
 .have:=e.1 y rfl;subst this;exact DL.2 ((AMl.1 _ h.2.2.2.2.2.2).mono λs _=>DM.2 λ_=>⟨(d a).1,(d a).2,oa⟩)
 .exact DM.2 λh0=>absurd h0 (e.2 y rfl)
instance:t6 jE (λ_=>True) (λ_ r=>r.length=4):=⟨by unfold jE;exact tl⟩
def AMp(x:(Int->Option DK)×(List Int)×(List Int)×Int×Int)(h:0<=x.2.2.2.2/\x.2.2.2.2<=x.2.2.2.1/\x.2.2.2.1=x.2.2.1.length/\x.2.2.2.1<=281474976710656/\(∀n∈x.2.2.1,Tot (x.1 n) λs=>s.length<=100)/\x.2.2.2.1<=1002/\x.2.1.length<=100*x.2.2.2.2):Tot (wX x) (λr:List Int=>r.length<=100200):=by
 refine EQ (R:=λr:List Int=>r.length<=100200) (λy:(Int->Option DK)×(List Int)×(List Int)×Int×Int=>0<=y.2.2.2.2/\y.2.2.2.2<=y.2.2.2.1/\y.2.2.2.1=y.2.2.1.length/\y.2.2.2.1<=281474976710656/\(∀n∈y.2.2.1,Tot (y.1 n) λs=>s.length<=100)/\y.2.2.2.1<=1002/\y.2.1.length<=100*y.2.2.2.2)
  (λy=>(y.2.2.2.1-y.2.2.2.2).toNat) ?_ _ _ h (by exact qM)
 rintro next ⟨f,b,l,n,i⟩ d e
 dsimp only at d e;obtain⟨i0,i1,z,A,m,B,C⟩:=d;unfold A4O;dsimp only;refine DN.2 ⟨λa=>?_,λa=>DM.2 oa⟩;have a:=AC a;rw[EG oa oa];refine DL.2 (EH.2 ⟨⟨i0,oa⟩,λv j=>?_⟩);refine DL.2 ((m v (P0 j)).mono λs w=>?_);refine DL.2 ((bF.1 _ ⟨oc,oc⟩).mono λD p=>?_);grind
def A7H(x:(List Int)×DK×(Int->Option DK))(h:(∀n∈x.1,Tot (x.2.2 n) λs=>s.length<=100)/\x.1.length<=1002/\x.2.1.length<=10):Tot (ZS x) (λr:DK=>r.length<=100210):=by
 obtain⟨l,e,f⟩:=x;dsimp only at h ⊢;unfold ZS;obtain⟨h1,a,b⟩:=h;dsimp only;refine DL.2 ((AMp _ ⟨AS _,BA _,rfl,oc,h1,oc,oh⟩).mono λr d=>?_);refine DL.2 ((U1.1 _ trivial).mono λs j=>?_);grind[DL,FT,DM,List.length_append]
def AMq(x:(DK->Option DK)×(List Int)×(List DK)×Int×Int)(h:0<=x.2.2.2.2/\x.2.2.2.2<=x.2.2.2.1/\x.2.2.2.1=x.2.2.1.length/\x.2.2.2.1<=281474976710656/\(∀n∈x.2.2.1,Tot (x.1 n) λs=>s.length<=3000)/\x.2.2.2.1<=1002/\x.2.1.length<=3000*x.2.2.2.2):Tot (wY x) (λr:List Int=>r.length<=3006000):=by
 refine EQ (R:=λr:List Int=>r.length<=3006000) (λy:(DK->Option DK)×(List Int)×(List DK)×Int×Int=>0<=y.2.2.2.2/\y.2.2.2.2<=y.2.2.2.1/\y.2.2.2.1=y.2.2.1.length/\y.2.2.2.1<=281474976710656/\(∀n∈y.2.2.1,Tot (y.1 n) λs=>s.length<=3000)/\y.2.2.2.1<=1002/\y.2.1.length<=3000*y.2.2.2.2)
  (λy=>(y.2.2.2.1-y.2.2.2.2).toNat) ?_ _ _ h (by exact qM)
 rintro next ⟨f,b,l,n,i⟩ d e
 dsimp only at d e;obtain⟨i0,i1,z,A,m,B,C⟩:=d;unfold A4P;dsimp only;refine DN.2 ⟨λa=>?_,λa=>DM.2 oa⟩;have a:=AC a;rw[EG oa oa];refine DL.2 (EH.2 ⟨⟨i0,oa⟩,λv j=>?_⟩);refine DL.2 ((m v (P0 j)).mono λs w=>?_);refine DL.2 ((bF.1 _ ⟨oc,oc⟩).mono λD p=>?_);grind
def A7I(x:(List DK)×DK×(DK->Option DK))(h:(∀n∈x.1,Tot (x.2.2 n) λs=>s.length<=3000)/\x.1.length<=1002/\x.2.1.length<=10):Tot (ZT x) (λr:DK=>r.length<=3006010):=by
 obtain⟨l,e,f⟩:=x;dsimp only at h ⊢;unfold ZT;obtain⟨h1,a,b⟩:=h;dsimp only;refine DL.2 ((AMq _ ⟨AS _,BA _,rfl,oc,h1,oc,oh⟩).mono λr d=>?_);refine DL.2 ((U1.1 _ trivial).mono λs j=>?_);grind[DL,FT,DM,List.length_append]
instance AMr:t6 jF (λx=>x.length<=1000) (λ_ r=>r.length<=3000):=⟨by unfold jF;exact tl⟩
def oY(x:(List Int)×(List DK))(h:oR x):Tot (NU x) (λr:DK=>r.length<=10000000):=by
 unfold NU;obtain⟨h1,b,d,e⟩:=h;refine DL.2 (I6.2 ⟨⟨oa,oa,oa⟩,?_⟩);refine DL.2 ((A7H _ ⟨λn j=>DL.2 ((L5.1 n (b n (EJ j))).mono λr a=>DM.2 oa),oc,oh⟩).mono λw l=>?_);refine DN.2 ⟨λ_=>DL.2 (FT.2 ⟨ot,DM.2 ot⟩),λ_=>?_⟩;refine DL.2 (FT.2 ⟨ot,?_⟩);refine DL.2 ((A7I _ ⟨λs p=>DL.2 ((AMr.1 s (e s p)).mono λr a=>DM.2 a),d,oh⟩).mono λy m=>?_);grind[DL,FT,DM]
instance oZ:t6 NV (λx=>bH x) (λ_ r=>r.length<=10000000):=⟨by unfold NV;exact tl⟩
instance AMs:t6 jG (λx=>0<=x/\x<=999999999999999999) (λ_ r=>r.length<=100):=⟨by unfold jG;exact tl⟩
instance AMt:t6 jH (λx=>0<=x.2.2.1/\x.2.2.1<=3) (λ_ r=>0<=r/\r<=4):=⟨by unfold jH;exact tl⟩
instance AMu:t6 jI (λx=>x<=999999999999999999) (λ_ r=>r.length<=30):=⟨by unfold jI;exact tl⟩
instance AMv:t6 jJ (λx=>x.length<=1000) (λ_ r=>r.length<=3000):=⟨by unfold jJ;exact tl⟩
instance AMw:t6 jK (λx=>(x.2.2=true->0<=x.1.2.2.2.2.2.1/\x.1.2.2.2.2.2.1<=999999999999999999)/\x.2.1.length<=10000000) (λx r=>r.1=x.1/\r.2.length<=x.2.1.length+30):=⟨by unfold jK;exact tl⟩
def o_(x:Int×(List Int)×Int×Int×Int×Int×(List DK))(h:OZ x):Tot (NW x) (λr:DK=>r.length<=10000000):=by
 unfold NW;obtain⟨h1,j,l,m,p,w,y⟩:=h;refine DL.2 ((L5.1 _ h1).mono λL D=>?_);refine DL.2 ((A7F.1 _ j).mono λM d=>?_);refine DL.2 ((A7H _ ⟨λn A=>DL.2 ((AMs.1 n (d.2 n A)).mono λr b=>DM.2 b),d.1,oh⟩).mono λN E=>?_);refine DL.2 (FT.2 ⟨oa,?_⟩);refine DL.2 ((AMt.1 _ l).mono λO G=>?_);refine DL.2 ((KA.1 _ trivial).mono λQ H=>?_);refine DL.2 ((L5.1 _ m).mono λR I=>?_);refine DL.2 (FT.2 ⟨oa,?_⟩);refine DL.2 ((AMu.1 _ p.2).mono λT J=>?_);refine DL.2 (FT.2 ⟨oc,?_⟩);refine DL.2 (FT.2 ⟨oc,?_⟩);refine DL.2 ((AMw.1 _ ⟨λz=>⟨AC z,w.2⟩,oc⟩).mono λB a=>?_);simp only[AG]at a;refine DN.2 ⟨λ_=>DL.2 (FT.2 ⟨ot,DM.2 ot⟩),λ_=>?_⟩;refine DL.2 (FT.2 ⟨ot,?_⟩);refine DL.2 ((A7I _ ⟨λs K=>DL.2 ((AMv.1 s (y.2 s oc)).mono λr b=>DM.2 b),oc,oh⟩).mono λC e=>?_);grind[DL,FT,DM]
instance:t6 ZU (λ_=>True) (λ_ r=>r.length=5):=⟨by unfold ZU;exact tl⟩
instance:t6 wZ (λx=>tj x.2.2.2 x.2.2.1 x.1.length) (λx r=>∀y,r=.inr y->0<=y/\y<x.1.length):=th (λx y=>y.1=x.1) (λy=>(y.2.2.1-y.2.2.2).toNat) (by unfold A4Q;exact tl)
instance A7K:t6 ZV (λx=>x.1.length<=1048576) (λx r=>-1<=r/\r<x.1.length):=⟨by unfold ZV;exact tl⟩
def pA(x:(List DK)×DK)(h:x.1.length<=1048576):Tot (NX x) (λr:Bool=>True):=by
 obtain⟨s,a⟩:=x;try dsimp only at h ⊢
 unfold NX
 repeat' first
  |(with_reducible first|refine DL.2 ?_|refine DM.2 ?_|refine(A7K.1 _ ?_).mono λ_ _=>?_)
  |dsimp only
 assumption
instance:t6 NX (λx=>x.1.length<=1048576) (λ_ r=>True):=⟨pA⟩
instance:t6 VV (λ_=>True) (λ_ _=>True):=⟨by unfold VV;exact tl⟩
instance:t6 ZW (λx=>x.2.1.length<=5000/\0<=x.2.2/\x.2.2<=999999999999999999) (λ_ r=>r.length<=6000):=⟨by unfold ZW;exact tl⟩
instance:t6 w_ (λx=>tj x.2.2.2.2 x.2.2.2.1 x.2.2.1.length/\x.1.length<=7000*x.2.2.2.2/\0<=x.2.1/\x.2.1<=x.2.2.2.2/\x.2.2.2.1<=1002/\(∀t∈x.2.2.1,t.2.1.length<=5000/\0<=t.2.2/\t.2.2<=999999999999999999)) (λ_ r=>r.length<=7014000):=th (λ_ _=>True) (λy=>(y.2.2.2.1-y.2.2.2.2).toNat) (by unfold A4R;exact tl)
instance pB:t6 NY (λx=>TS x) (λ_ r=>r.length<=10000000):=⟨by unfold NY;exact tl⟩
instance pC:t6 NZ (λx=>0<=x/\x<=999999999999999999) (λ_ r=>r.length<=10000000):=⟨by unfold NZ;exact tl⟩
instance AN0:t6 VW (λx=>x.2.length<=1048576) (λ_ r=>r.1.length<=10000000):=⟨λx h=>by
 unfold VW;refine DL.2 ((U4.1 _ h).mono λd h1=>?_);refine DN.2 ⟨λ_=>DM.2 oh,λb=>?_⟩;have h0:d.2=0:=by rw[DR]at b;simpa using b
 have a:=h1 h0;revert a;generalize d.1=v;intro a;refine DL.2 (Tot.mono (P:=λr:DK=>r.length<=10000000) ?_ λj e=>DM.2 e)
 .rcases v with x|x|x|x|x|x
  .exact DL.2 ((oY _ a).mono λ_ h=>DM.2 oa)
  .exact DL.2 ((oZ.1 _ a).mono λ_ h=>DM.2 oa)
  .exact DL.2 ((o_ _ a).mono λ_ h=>DM.2 oa)
  .exact DL.2 ((pB.1 _ a).mono λ_ h=>DM.2 oa)
  .exact DL.2 ((pC.1 _ a).mono λ_ h=>DM.2 oa)
  .exact a.elim⟩
instance:t6 gD (λx=>tj x.2.2.2 x.2.2.1 x.2.1.length) (λ_ _=>True):=th (λ_ _=>True) (λy=>(y.2.2.1-y.2.2.2).toNat) (by unfold gC;exact tl)
instance:t6 QD (λx=>x.length<=1048576) (λ_ _=>True):=⟨by unfold QD;exact tl⟩
instance AN3:t6 jR (λ_=>True) (λ_ _=>True):=⟨by unfold jR;exact tl⟩
instance AN4:t6 xJ (λx=>0<=x.2.2.2.2/\x.2.2.2.2<=x.2.2.2.1/\x.2.2.2.1=x.2.2.1.length/\x.2.2.2.1<=281474976710656/\x.2.1.length<=x.2.2.2.2/\(∀m∈x.2.1,m.2.2.1.length<=100)/\(∀v∈x.2.2.1,v.2.length<=1048576/\1<=v.1/\v.1<=3)/\x.2.2.2.1<=100) (λ_ r=>r.length<=100/\∀m∈r,m.2.2.1.length<=100):=th (λ_ _=>True) (λy=>(y.2.2.2.1-y.2.2.2.2).toNat) (by unfold A4d;exact tl)
def AN5(x:DK×Int×JD×(List DK)×(List DK))(h:O_ x/\AfK x):Tot (jS x) (λr:List DY=>r.length<=100/\∀m∈r,m.2.2.1.length<=100):=by
 unfold jS;obtain⟨h1,e,b,j⟩:=h;refine DL.2 ((AN4.1 _ ⟨AS _,BA _,rfl,oc,oh,oh,λv a=>⟨h1.2.2.1 v a,b v a⟩,oc⟩).mono λr l=>?_);refine DL.2 ((AMa.1 _ ⟨λc=>clo (AN3.1 c trivial),oc⟩).mono λp d=>DM.2 ?_);grind
instance AN6:t6 xK (λx=>0<=x.2.2.2.2.2/\x.2.2.2.2.2<=x.2.2.2.2.1/\x.2.2.2.2.1=x.2.2.2.1.length/\x.2.2.2.2.1<=281474976710656/\x.1.length<=x.2.2.2.2.2/\(∀s∈x.1,GW s)/\x.2.2.1.2.2.length<=100/\x.2.2.2.2.1<=100/\∀m∈x.2.2.2.1,m.2.2.1.length<=100) (λ_ r=>r.1.length<=100/\(∀s∈r.1,GW s)/\r.2.2.2.2.length<=100):=th (λ_ _=>True) (λy=>(y.2.2.2.2.1-y.2.2.2.2.2).toNat) (by unfold A4e;exact tl)
instance AN7:t6 jT (λx=>x.1.length<=100/\(∀s∈x.1,GW s)/\x.2.1.2.2.length<=100) (λ_ r=>r.length<=101/\(∀s∈r,GW s)):=⟨by unfold jT;exact tl⟩
instance AN8:t6 xL (λx=>0<=x.2.2.2.2/\x.2.2.2.2<=x.2.2.2.1/\x.2.2.2.1=x.2.2.1.length/\x.2.2.2.1<=281474976710656/\x.2.1.length<=101+x.2.2.2.2/\(∀s∈x.2.1,GW s)/\x.2.2.2.1<=500/\∀m∈x.2.2.1,m.length<=1048576) (λ_ r=>r.length<=601/\(∀s∈r,GW s)):=th (λ_ _=>True) (λy=>(y.2.2.2.1-y.2.2.2.2).toNat) (by unfold A4f;exact tl)
def AN9(x:DK×Int×JD×(List DK)×(List DK))(h:O_ x/\AfK x):Tot (jU x) (λr:List (GI×GI)=>r.length<=601/\(∀s∈r,GW s)):=by
 unfold jU;refine DL.2 ((AN5 _ h).mono λr e=>?_);obtain⟨h1,l,m,p⟩:=h;refine DL.2 ((AN6.1 _ ⟨AS _,BA _,rfl,oc,oh,oh,oh,oc,e.2⟩).mono λw b=>?_);refine DL.2 ((AN7.1 _ b).mono λy d=>?_);exact DL.2 ((AN8.1 _ ⟨AS _,BA _,rfl,oc,oc,d.2,oc,h1.2.2.2.2.1⟩).mono λj a=>DM.2 a)
instance ANA:t6 S0 (λx=>x.2.2.2.length<=1048576) (λ_ r=>True):=⟨λx h=>by
 unfold S0;refine DN.2 ⟨λ_=>DN.2 ⟨λ_=>DM.2 trivial,λ_=>DM.2 trivial⟩,λ_=>?_⟩;refine DL.2 ((U4.1 _ h).mono λd h1=>?_);refine DN.2 ⟨λ_=>DM.2 trivial,λb=>?_⟩;have h0:d.2=0:=by rw[DR]at b;simpa using b
 have a:=h1 h0;revert a;generalize d.1=v;intro a;refine DL.2 (Tot.mono (P:=λr:DK=>r.length<=10000000) ?_ λj e=>?_)
 .rcases v with x|x|x|x|x|x
  .exact DL.2 ((A0A _ a).mono λ_ h=>DM.2 oa)
  .exact DL.2 ((A0B.1 _ a).mono λ_ h=>DM.2 oa)
  .exact DL.2 ((A0C.1 _ a).mono λ_ h=>DM.2 oa)
  .exact DL.2 ((A0D _ a).mono λ_ h=>DM.2 oa)
  .simp_all[DL,A0E,trivial,DM]
  .exact a.elim
 refine DN.2 ⟨λ_=>DM.2 trivial,λ_=>?_⟩;refine DL.2 (Tot.mono (P:=λr:DK=>r.length<=10000000) ?_ λj e=>DM.2 trivial)
 .rcases v with x|x|x|x|x|x
  .exact DL.2 ((oY _ a).mono λ_ h=>DM.2 oa)
  .exact DL.2 ((oZ.1 _ a).mono λ_ h=>DM.2 oa)
  .exact DL.2 ((o_ _ a).mono λ_ h=>DM.2 oa)
  .exact DL.2 ((pB.1 _ a).mono λ_ h=>DM.2 oa)
  .exact DL.2 ((pC.1 _ a).mono λ_ h=>DM.2 oa)
  .exact a.elim⟩
instance A7M:t6 ZZ (λx=>x.1.2.2.length<=100) (λ_ r=>r.2.2.2.length<=100):=⟨by unfold ZZ;exact tl⟩
instance A7N:t6 Z_ (λx=>x.1.2.2.length<=100) (λ_ r=>r.2.2.2.length<=100):=⟨by unfold Z_;exact tl⟩
instance:t6 jV (λx=>x.1.1.2.2.2.length<=100/\x.2.1=0) (λx r=>r.1=x.1/\0<=r.2/\r.2<=1000000000000000000):=⟨by unfold jV;exact tl⟩
instance ANC:t6 jW (λx=>x.1.2.2.2.length<=100/\x.2.2.2.2.length<=100) (λ_ r=>0<=r.1/\r.2.1<=999999999999999999/\(r.2.2=true->r.1<=r.2.1)):=⟨by unfold jW;exact tl⟩
instance AND:t6 jX (λx=>0<=x.1/\x.1<=999999999999999999/\x.2.1.2.2.2.length<=100) (λ_ r=>r.2.2.2.length<=100):=⟨by unfold jX;exact tl⟩
instance ANE:t6 xM (λx=>0<=x.2.2.2.2/\x.2.2.2.2<=x.2.2.2.1/\x.2.2.2.1=x.2.2.1.length/\x.2.2.2.1<=281474976710656/\x.1.length<=x.2.2.2.2/\(∀s∈x.1,HH s)/\(∀s∈x.2.2.1,HH s)/\x.2.2.2.1<=1048576/\ -2<=x.2.1/\x.2.1<=999999999999999999) (λ_ r=>r.length<=1048576/\∀s∈r,HH s):=⟨λx h=>by
 refine EQ (R:=λr:List I_=>r.length<=1048576/\∀s∈r,HH s) (λy:(List I_)×Int×(List I_)×Int×Int=>0<=y.2.2.2.2/\y.2.2.2.2<=y.2.2.2.1/\y.2.2.2.1=y.2.2.1.length/\y.2.2.2.1<=281474976710656/\y.1.length<=y.2.2.2.2/\(∀s∈y.1,HH s)/\(∀s∈y.2.2.1,HH s)/\y.2.2.2.1<=1048576/\ -2<=y.2.1/\y.2.1<=999999999999999999)
  (λy=>(y.2.2.2.1-y.2.2.2.2).toNat) ?_ _ _ h (by exact qM)
 rintro next ⟨out,e,l,n,i⟩ B b
 dsimp only at B b;obtain⟨i0,i1,j,m,T,p,d,w,M,N⟩:=B;unfold A4g;dsimp only;refine DN.2 ⟨λz=>?_,λz=>DM.2 ⟨oa,p⟩⟩;have z:=AC z;rw[EG (n:=i+1) oa oa,EG (n:=e+1) oa oa];refine DL.2 (EH.2 ⟨⟨i0,oa⟩,λv L=>?_⟩);have A:=d v (P0 L);refine DL.2 ((ANC.1 _ A).mono λV D=>?_);obtain⟨C,U,O⟩:=D;refine DN.2 ⟨λ_=>b _ ⟨oc,oc,j,m,oc,p,d,w,M,N⟩ oc,λI=>?_⟩;have K:=O (by simpa using I);refine DL.2 (Tot.mono (P:=λr:Edge=>r.2.2.2.length<=100) ((AND.1 _ ⟨oa,oa,oh⟩)) λW E=>?_);by_cases J:(0:Int)<out.length
 .rw[EG (n:=(out.length:Int)-1) oa oa];refine DN.2 ⟨λ_=>?_,λ_=>?_⟩
  .refine DL.2 (ET.2 ⟨⟨oa,oa⟩,?_⟩);refine b _ ⟨oc,oc,j,m,oc,λs a=>?_,d,w,oc,oa⟩ oc;dsimp only at a;rcases E9 a with a|a
   .exact p s a
   .subst a;exact⟨(p _ (E8 oa)).1,E⟩
  .refine DL.2 ((L5.1 _ ⟨C,oa⟩).mono λQ G=>?_);refine DL.2 ((KA.1 _ trivial).mono λR H=>?_);refine DL.2 (F4.2 ⟨oc,?_⟩);refine b _ ⟨oc,oc,j,m,oc,λs a=>?_,d,w,oc,oa⟩ oc;grind
 .rw[A9 J,CX];simp only[A8];refine DL.2 ((L5.1 _ ⟨C,oa⟩).mono λQ G=>?_);refine DL.2 ((KA.1 _ trivial).mono λR H=>?_);refine DL.2 (F4.2 ⟨oc,?_⟩);refine b _ ⟨oc,oc,j,m,oc,λs a=>?_,d,w,oc,oa⟩ oc;grind⟩
instance:t6 jY (λx=>(∀s∈x,HH s)/\x.length<=1048576) (λ_ r=>r.length<=1048576/\∀s∈r,HH s):=⟨by unfold jY;exact tl⟩
instance ANG:t6 jZ (λx=>(∀s∈x.1,HH s)/\x.1.length<=1048576) (λ_ r=>r.length<=1048576/\∀s∈r,HH s):=⟨by unfold jZ;exact tl⟩
instance:t6 j_ (λx=>HH x.1/\GW x.2.1) (λx r=>r.1=x.1/\GW r.2):=⟨by unfold j_;exact tl⟩
instance ANI:t6 xN (λx=>0<=x.2.2.2/\x.2.2.2<=x.2.2.1/\x.2.2.1=x.2.1.length/\x.2.2.1<=281474976710656/\x.1.2.length<=x.2.2.2/\x.2.2.1<=200/\(∀s∈x.2.1,HH s)/\(∀s∈x.1.2,GW s)) (λx r=>r.1=x.1.1/\r.2.length<=200/\∀s∈r.2,GW s):=th (λx y=>y.1.1=x.1.1) (λy=>(y.2.2.1-y.2.2.2).toNat) (by unfold A4h;exact tl)
theorem ANJ(x:Int×(List FG))(h:(∀s∈x.2,HH s)/\x.2.length<=1048576):Tot (k9 x) (λr:(Int×F6)×Int=>r.1.2.length<=200/\∀s∈r.1.2,GW s):=by
 obtain⟨a,l⟩:=x;try dsimp only at h ⊢
 unfold k9
 repeat' first
  |(with_reducible first|refine DN.2 ⟨λ_=>?_,λ_=>?_⟩|refine DL.2 ?_|refine DM.2 ?_|refine(ANG.1 _ ?_).mono λ_ _=>?_|refine(ANI.1 _ ?_).mono λ_ _=>?_)
  |dsimp only
 all_goals exact qu
instance ANK:t6 xO (λx=>0<=x.2.2.2.2.2/\x.2.2.2.2.2<=x.2.2.2.2.1/\x.2.2.2.2.1=x.2.2.2.1.length/\x.2.2.2.2.1<=281474976710656/\x.2.2.1.length<=x.2.2.2.2.2/\(∀s∈x.2.2.1,HH s)/\x.2.2.2.2.1<=1048576/\(∀s∈x.2.2.2.1,GW s)) (λ_ r=>(∀y,r=.inl y->y.2.length<=1048576/\∀s∈y.2,HH s)/\∀y,r=.inr y->y.1.2=[]):=th (λ_ _=>True) (λy=>(y.2.2.2.2.1-y.2.2.2.2.2).toNat) (by unfold A4i;exact tl)
def ANL(x:(List FG)×(List FG)×Int×Int)(h:0<=x.2.2.2/\x.2.2.2<=x.2.2.1/\x.2.2.1=x.2.1.length/\x.2.2.1<=281474976710656/\x.1.length<=x.2.2.2/\(∀s∈x.1,HH s)/\x.2.2.1<=1048576/\(∀s∈x.2.1,HH s)):Tot (xP x) (λr:List FG=>r.length<=1048576/\∀s∈r,HH s):=by
 refine EQ (R:=λr:List I_=>r.length<=1048576/\∀s∈r,HH s) (λy:(List I_)×(List I_)×Int×Int=>0<=y.2.2.2/\y.2.2.2<=y.2.2.1/\y.2.2.1=y.2.1.length/\y.2.2.1<=281474976710656/\y.1.length<=y.2.2.2/\(∀s∈y.1,HH s)/\y.2.2.1<=1048576/\(∀s∈y.2.1,HH s))
  (λy=>(y.2.2.1-y.2.2.2).toNat) ?_ _ _ h (by exact qM)
 rintro next ⟨out,l,n,i⟩ C j
 dsimp only at C j;obtain⟨i0,i1,z,A,J,d,B,m⟩:=C;unfold A4j;dsimp only;refine DN.2 ⟨λp=>?_,λp=>DM.2 ⟨oa,d⟩⟩;have p:=AC p;rw[EG (n:=i+1) oa oa];refine DL.2 (ET.2 ⟨⟨i0,oa⟩,?_⟩);have E:=m _ (E8 (l:=l) (i:=i.toNat) (d:=((0,(([]:DK),(false,([]:DK)))),(0,(([]:DK),(false,([]:DK)))))) oa);generalize l.getD i.toNat ((0,(([]:DK),(false,([]:DK)))),(0,(([]:DK),(false,([]:DK)))))=v at E;have b:∀(Q:List I_->Prop),Q (out++[v])->Tot (app? 192 out [v]) Q:=λQ G=>F4.2 ⟨oc,G⟩
 have w:Tot (next (out++[v],l,n,i+1)) (λr:List I_=>r.length<=1048576/\∀s∈r,HH s):=by
  refine j _ ⟨oc,oc,z,A,oc,λs a=>?_,B,m⟩ oc;dsimp only at a;rcases AV.1 a with a|a
  .exact d s a
  .grind
 by_cases D:(out.length:Int)=0
 .have e:DO (out.length:Int) 0=true:=by rw[DR];exact A6 D
  rw[e];simp only[C9,A8,Bool.true_or,A7];grind[DL,DM]
 .have e:DO (out.length:Int) 0=false:=by rw[DR];exact A9 D
  rw[e,EG (n:=(out.length:Int)-1) oa oa];simp only[CY,A7,CA];refine DL.2 (ET.2 ⟨⟨oa,oa⟩,?_⟩);refine DL.2 ((U3.1 _ trivial).mono λH _=>?_);refine DN.2 ⟨λ_=>DL.2 (b _ w),λ_=>?_⟩;refine DL.2 (ET.2 ⟨⟨oa,oa⟩,?_⟩);refine DL.2 ((U3.1 _ trivial).mono λI _=>?_);refine DN.2 ⟨λ_=>?_,λ_=>j _ ⟨oc,oc,z,A,oc,d,B,m⟩ oc⟩;refine DL.2 (ET.2 ⟨⟨oa,oa⟩,?_⟩);refine j _ ⟨oc,oc,z,A,oc,λs a=>?_,B,m⟩ oc;dsimp only at a;rcases E9 a with a|a
  .exact d s a
  .subst a;exact⟨(d _ (E8 oa)).1,E.2⟩
theorem ANM(x:Int×F6)(h:(∀s∈x.2,GW s)/\x.2.length<=1048576):Tot (kA x) (λr:(Int×F6)×Int=>r.1.2.length<=200/\∀s∈r.1.2,GW s):=by
 unfold kA;obtain⟨h1,z⟩:=h;refine DL.2 ((ANK.1 _ ⟨AS _,BA _,rfl,oc,oh,oh,oc,h1⟩).mono λr b=>?_);rcases r with y|y
 .obtain⟨w,d⟩:=b.1 y rfl;refine DL.2 ((ALd y.2).mono λm a=>?_);have l:=a.1.length_eq;refine DL.2 ((ANL _ ⟨AS _,BA _,rfl,oc,oh,oh,oc,λs j=>d s (a.1.mem_iff.1 j)⟩).mono λp e=>?_);grind[DL,ANJ,DM]
 .have:=b.2 y rfl;grind[DM]
instance A7O:t6 kB (λx=>O_ x) (λ_ r=>r.1.2.length<=200/\(∀s∈r.1.2,GW s)):=⟨λx h=>by
 unfold kB;refine DL.2 ((AMn _ h).mono λb h1=>?_);refine DN.2 ⟨λ_=>DM.2 oh,λa=>?_⟩;have h0:b=0:=by rw[DR]at a;simpa using a
 refine DL.2 ((AN9 _ ⟨h,h1 h0⟩).mono λe d=>?_);grind[DL,ANM,DM]⟩
instance ANN:t6 vD (λx=>0<=x.2.2.2/\x.2.2.2<=x.2.2.1/\x.2.2.1=x.2.1.length/\x.2.2.1<=281474976710656/\(∀s∈x.2.1,s.length<=1048576)/\x.2.1=x.1.2.1) (λ_ r=>True):=⟨λx h=>by
 refine EQ (R:=λr:Sum Unit Int=>True)
  (λy:FZ×(List DK)×Int×Int=>0<=y.2.2.2/\y.2.2.2<=y.2.2.1/\y.2.2.1=y.2.1.length/\y.2.2.1<=281474976710656/\(∀v∈y.2.1,v.length<=1048576)/\y.2.1=y.1.2.1)
  (λy=>(y.2.2.1-y.2.2.2).toNat) ?_ _ _ h (by exact qM)
 rintro next ⟨a,l,n,i⟩ d j
 dsimp only at d j;obtain⟨i0,i1,z,A,w,B⟩:=d;unfold A3d;dsimp only;refine DN.2 ⟨λb=>?_,λb=>DM.2 trivial⟩;have b:=AC b;rw[EG (n:=i+1) oa oa,EG oa oa];refine DL.2 (EH.2 ⟨⟨i0,oa⟩,λv m=>?_⟩);have p:=w v (P0 m);refine DL.2 ((oL.1 _ oa).mono λr _=>?_);refine DN.2 ⟨λ_=>DM.2 trivial,λ_=>?_⟩;refine DN.2 ⟨λ_=>DM.2 trivial,λ_=>?_⟩;refine DL.2 (Tot.mono (P:=λ_=>True) (DN.2 ⟨λe=>?_,λ_=>DM.2 trivial⟩) λC _=>?_)
 .have e:=AC e;exact EH.2 ⟨⟨oa,oc⟩,λ_ _=>trivial⟩
 .refine DN.2 ⟨λ_=>DM.2 trivial,λ_=>?_⟩;grind⟩
instance A7P:t6 gG (λx=>∀s∈x.2.1,s.length<=1048576) (λ_ _=>True):=⟨by unfold gG;exact tl⟩
instance A7Q:t6 gH (λ_=>True) (λ_ r=>r.length=6):=⟨by unfold gH;exact tl⟩
instance ANO:t6 gI (λx=>0<=x.2.2.2/\x.2.2.2<=6/\x.2.2.1.length=6/\x.1.length=6) (λ_ _=>True):=th (λ_ _=>True) (λy=>(6-y.2.2.2).toNat) (by unfold vE;exact tl)
instance A7R:t6 TL (λ_=>True) (λ_ r=>True):=⟨λx h=>by
 unfold TL
 repeat' first
  |(with_reducible first|refine DN.2 ⟨λ_=>?_,λ_=>?_⟩|refine DL.2 ?_|refine DM.2 ?_|refine(A7Q.1 _ ?_).mono λ_ _=>?_|refine(ANO.1 _ ?_).mono λ_ _=>?_|refine oN.2 ⟨?_,?_⟩)
  |split
  |dsimp only
 all_goals exact qu⟩
instance ANP:t6 VY (λ_=>True) (λx r=>∀y,r=.inl y->y=x.1):=⟨by unfold VY;exact tl⟩
instance ANQ:t6 VZ (λx=>0<=x.2.2.2/\x.2.2.2<=x.2.2.1/\x.2.2.1=x.2.1.length/\x.2.2.1<=281474976710656/\x.2.2.1<=50/\x.1.length<=x.2.2.2/\∀z∈x.2.1,O_ z) (λ_ _=>True):=th (λ_ _=>True) (λy=>(y.2.2.1-y.2.2.2).toNat) (by unfold xQ;exact tl)
instance ANR:t6 N8 (λx=>LW x) (λ_ r=>True):=⟨λx h=>by
 unfold N8
 repeat' first
  |(with_reducible first|refine DN.2 ⟨λ_=>?_,λ_=>?_⟩|refine DL.2 ?_|refine DM.2 ?_|refine(oL.1 _ ?_).mono λ_ _=>?_|refine(A7P.1 _ ?_).mono λ_ _=>?_|refine(ANP.1 _ ?_).mono λ_ _=>?_|refine(ANQ.1 _ ?_).mono λ_ _=>?_)
  |split
  |dsimp only
 all_goals grind[E4,E3,E7,D_,DR,E6,E5,E2,E8,E9,EJ,EI,EL,EK,EM,EN,EO,LW]⟩
instance ANS:t6 TT (λx=>LW x) (λ_ _=>True):=⟨by unfold TT;exact tl⟩
def GX{α:Type}{l:List α}{i:Nat}{a:α}(h:l[i]?=some a):l.take (i+1)=l.take i++[a]:=by
 rw[List.take_add_one,h];rfl
abbrev Rg:=Int×(List bK)
noncomputable def bL(v:Vr):Option DK:=(λz=>Sum.casesOn (motive:=λ_=>Option DK) z (λx=>(NU x).bind λr=>some r) (λz=>Sum.casesOn (motive:=λ_=>Option DK) z (λx=>(NV x).bind λr=>some r) (λz=>Sum.casesOn (motive:=λ_=>Option DK) z (λx=>(NW x).bind λr=>some r) (λz=>Sum.casesOn (motive:=λ_=>Option DK) z (λx=>(NY x).bind λr=>some r) (λz=>Sum.casesOn (motive:=λ_=>Option DK) z (λx=>(NZ x).bind λr=>some r) (λ_=>none)))))) v
def A7S{v:Vr}(a:MG v):Tot (bL v) (λ_=>True):=by
 unfold bL;rcases v with x|x|x|x|x|x
 .exact DL.2 ((oY _ a).mono λ_ h=>DM.2 trivial)
 .exact DL.2 ((oZ.1 _ a).mono λ_ h=>DM.2 trivial)
 .exact DL.2 ((o_ _ a).mono λ_ h=>DM.2 trivial)
 .exact DL.2 ((pB.1 _ a).mono λ_ h=>DM.2 trivial)
 .exact DL.2 ((pC.1 _ a).mono λ_ h=>DM.2 trivial)
 .exact a.elim
def Vs(k:Int)(w:DK)(v:Vr)(s:DK):Prop:=K8 (k,w)=some (v,0)/\bL v=some s
def ANT{k:Int}{w:DK}{v:Vr}(d:w.length<=1048576)(h:K8 (k,w)=some (v,0)):∃s,Vs k w v s:=by
 have⟨r,h1,a⟩:=U4.1 (k,w) d;rw[h]at h1;cases h1;have⟨s,b,_⟩:=A7S (a rfl);exact⟨s,h,b⟩
def ANU{k:Int}{w:DK}{v:Vr}{s:DK}(h:Vs k w v s):VW (k,w)=some (s,0):=by
 show((K8 (k,w)).bind λa=>bif (!(DO a.2 (0:Int)))then some (([]:DK),a.2)else(bL a.1).bind λb=>some (b,(0:Int)))=_;rw[h.1];simp only[A0,DR,decide_true,C9,A8];rw[h.2];rfl
noncomputable def ky(k:Int)(w:DK):DK:=((VW (k,w)).getD ([],0)).1
def ANV{k:Int}{w:DK}{v:Vr}{s:DK}(h:Vs k w v s):ky k w=s:=by unfold ky;rw[ANU h];rfl
def Ok(k:Int)(w:DK):Prop:=∃v,Vs k w v (ky k w)
def ANW{k:Int}{w:DK}{v:Vr}{s:DK}(h:Vs k w v s):Ok k w:=⟨v,by rw[ANV h];exact h⟩
def ANX(k:Int)(w:DK)(a:w.length<=1048576):Tot (aH (k,w)) (λr=>r=0->Ok k w):=by
 unfold aH;dsimp only;have⟨⟨v,e⟩,h1,d⟩:=U4.1 (k,w) a;rw[h1];refine DL.2 (DM.2 (DM.2 λh=>?_));dsimp only at h;subst h;have⟨s,b⟩:=ANT a h1;exact ANW b
def ANY(s:bK)(b:List I_)(m:GW s)(a:∀x∈b,HH x)(j:b.length<=1048576):Tot (lM (s,b)) (λ_=>True):=by
 unfold lM;dsimp only;refine DN.2 ⟨λ_=>DM.2 trivial,λ_=>DN.2 ⟨λh=>?_,λ_=>DM.2 trivial⟩⟩;have h:=AC h;rw[EG (n:=(b.length:Int)-1) oa oa];refine DL.2 ((LV.1 _ oa).mono λr l=>DL.2 (EH.2 ⟨⟨oa,oa⟩,λy e=>?_⟩));refine DL.2 ((LV.1 _ (by have:=(a y (P0 e)).2;omega)).mono λp d=>?_);simp_all[DN,DM,trivial]
def ANZ(l:List I_)(k:DK)(m:l.length<=1048576):Tot (aJ (l,k)) (λ_=>True):=by
 unfold aJ yH;dsimp only;refine DL.2 (DL.2 (Tot.mono (P:=λ_=>True) ?_ λq _=>by rcases q with y|y<;>exact DM.2 (DM.2 trivial)));generalize b:(λx:I_=>(lN (x,(some ((0:Int),(k,(false,([]:DK))))))).bind λr=>some r)=f
 have d:∀x,Tot (f x) λ_=>True:=by
  intro x;subst b;unfold lN;dsimp only;refine DL.2 (DL.2 (DM.2 (DL.2 ((U3.1 _ trivial).mono λA _=>?_))));refine DL.2 (Tot.mono (P:=λ_=>True) (DN.2 ⟨λ_=>DM.2 trivial,λ_=>DM.2 trivial⟩) λz _=>?_);exact DL.2 (Tot.mono (P:=λ_=>True) (DN.2 ⟨λ_=>U3.1 _ trivial,λ_=>DM.2 trivial⟩) λB _=>DM.2 (DM.2 trivial))
 clear b
 refine EQ (R:=λ_:Sum Unit Int=>True) (λy:(List I_)×(I_->Option Bool)×Int×Int=>y.1=l/\y.2.1=f/\y.2.2.1=l.length/\0<=y.2.2.2/\y.2.2.2<=l.length)
  (λy=>((l.length:Int)-y.2.2.2).toNat) ?_ _ _ ⟨rfl,rfl,rfl,AS _,BA _⟩ (by exact qM)
 rintro next ⟨w,j,n,i⟩ a e
 dsimp only at a e;obtain⟨rfl,rfl,rfl,i0,i1⟩:=a;unfold A5K;dsimp only;refine DN.2 ⟨λh=>?_,λh=>DM.2 trivial⟩;have h:=AC h;rw[EG (n:=i+1) oa oa];refine DL.2 (EH.2 ⟨⟨i0,h⟩,λs p=>?_⟩);refine DL.2 ((d s).mono λr _=>DN.2 ⟨λ_=>DM.2 trivial,λ_=>?_⟩);grind
noncomputable def inn(L:List I_)(k:Int)(w:DK):Bool:=decide (0<=(aJ (L,ky k w)).getD 0)
abbrev Bs:=Int×(List FZ)×(List Int)
abbrev Dl:=Int×Int×(List FZ)×(List DK)
noncomputable def QK(a:FZ):Int:=(TT a).getD 1
def A7T{a:FZ}(h:LW a):TT a=some (QK a):=by
 have⟨r,b,_⟩:=ANS.1 a h;grind[QK]
def okR(l:List FZ)(i:Nat):Prop:=∀a,l[i]?=some a->QK a=0/\(0<i->∀a',l[i-1]?=some a'->a'.1<a.1)
def WP(b:Bs)(i:Nat):Prop:=okR b.2.1 i/\∀s,b.2.2[i]?=some s->0<=s/\s<=b.1
theorem A7U(a b:DK):(Op.bytesLess a b||DP a b)= !decide (b<a):=by
 grind[A73,D_,bI,oU,MH]
def AN_(b:Bs)(Z:∀a∈b.2.1,LW a)(hl:b.2.2.length=b.2.1.length)(hm:b.2.1.length<=2000):
 Tot (xR (b,b.2.1,(b.2.1.length:Int),0)) (λr=>(∀u,r=.inl u->∀j,j<b.2.1.length->WP b j)/\∀e,r=.inr e->e≠0/\¬∀j,j<b.2.1.length->WP b j):=by
 refine EQ (R:=λr:Sum Unit Int=>(∀u,r=.inl u->∀j,j<b.2.1.length->WP b j)/\∀e,r=.inr e->e≠0/\¬∀j,j<b.2.1.length->WP b j)
  (λy:Bs×(List FZ)×Int×Int=>y.1=b/\y.2.1=b.2.1/\y.2.2.1=b.2.1.length/\0<=y.2.2.2/\y.2.2.2<=b.2.1.length/\∀j:Nat,(j:Int)<y.2.2.2->WP b j)
  (λy=>((b.2.1.length:Int)-y.2.2.2).toNat) ?_ _ _ ⟨rfl,rfl,rfl,AS _,BA _,λj L=>oc⟩ (by exact qM)
 rintro next ⟨I,l,n,i⟩ R U
 dsimp only at R U;obtain⟨rfl,rfl,rfl,i0,i1,i2⟩:=R;unfold A4k;dsimp only;refine DN.2 ⟨λG=>?_,λG=>DM.2 ⟨λu _ j L=>?_,λe m=>(by cases m)⟩⟩
 .have G:=AC G;rw[EG (n:=i+1) oa oa,EG oa oa];refine DL.2 (EH.2 ⟨⟨i0,G⟩,λa K=>?_⟩);rw[A7T (Z a (P0 K))];refine DL.2 (DM.2 ?_);have A:i.toNat<I.2.1.length:=oa
  refine DN.2 ⟨λm=>DM.2 ⟨λu C=>(by cases C),λe d=>?_⟩,λm=>?_⟩
  .cases d;rw[DR]at m;have m:¬QK a=0:=by simpa using m
   exact⟨m,λh=>m ((h i.toNat A).1 a K).1⟩
  have hk:QK a=0:=by rw[DR]at m;simpa using m
  refine DL.2 (Tot.mono (P:=λH:FZ=>0<i->I.2.1[i.toNat-1]?=some H) (DN.2 ⟨λx=>?_,λx=>DM.2 λh0=>absurd h0 (AK x)⟩) λH Q=>?_)
  .have x:=AC x;refine EH.2 ⟨⟨oa,oa⟩,λw hw _=>?_⟩;simp_all
  rw[A7U];refine DN.2 ⟨λp=>DM.2 ⟨λu C=>(by cases C),λe d=>?_⟩,λp=>?_⟩
  .cases d;have O:=CV.1 p;have x:=AC O.1;have N:¬H.1<a.1:=by simpa using O.2
   exact⟨oi,λh=>N (((h i.toNat A).1 a K).2 oa H (Q x))⟩
  have T:0<i.toNat->∀E,I.2.1[i.toNat-1]?=some E->E.1<a.1:=by
   intro x E z;have D:0<i:=oa
   rw[Q D]at z;cases z;rw[A6 D,BV]at p;simpa using p
  refine DL.2 (EH.2 ⟨⟨i0,oa⟩,λs hs=>?_⟩);refine DL.2 (Tot.mono (P:=λV:Int=>0<=s->V=s) (DN.2 ⟨λx=>EH.2 ⟨⟨i0,oa⟩,λw hw _=>?_⟩,λx=>DM.2 λh0=>?_⟩) λV Y=>?_)
  .grind
  .grind
  refine DN.2 ⟨λB=>DM.2 ⟨λu C=>(by cases C),λe d=>?_⟩,λB=>?_⟩
  .cases d;refine⟨oi,λh=>?_⟩;have J:=(h i.toNat A).2 s hs;grind
  .have J:=BK.1 B;have h9:=AK J.1;have W:=AK J.2;have X:=Y oa;refine U _ ⟨rfl,rfl,rfl,oc,oc,λj L=>?_⟩ oc;dsimp only at L;by_cases M:(j:Int)<i
   .exact i2 j M
   .have:j=i.toNat:=oa
    subst this;refine⟨λE z=>?_,λs' h3=>?_⟩<;>grind
 grind
def BB(b:Bs):Prop:=∀a∈b.2.1,LW a
def WQ(b:Bs):Prop:=(0<=b.1/\b.1<=1000000000)/\b.2.1.length<=2000/\b.2.2.length=b.2.1.length/\∀j,j<b.2.1.length->WP b j
def A7V(b:Bs)(m:BB b):Tot (V_ b) (λr=>r=0<->WQ b):=by
 unfold V_ WQ;refine DN.2 ⟨λh=>DM.2 ⟨λh0=>absurd h0 oi,λhk=>?_⟩,λh1=>?_⟩
 .simp at h;omega
 have a:=BK.1 h1;have p:=AK a.1;have s:=AK a.2;refine DN.2 ⟨λh=>DM.2 ⟨λh0=>absurd h0 oi,λhk=>?_⟩,λl=>?_⟩
 .grind
 have w:=AK l;refine DN.2 ⟨λh=>DM.2 ⟨λh0=>absurd h0 oi,λhk=>?_⟩,λj=>?_⟩
 .grind[DR]
 have e:b.2.2.length=b.2.1.length:=by
  rw[DR]at j;have:((b.2.2.length:Nat):Int)=b.2.1.length:=by simpa using j
  omega
 refine DL.2 ((AN_ b m e oa).mono λr d=>?_);rcases r with r|r
 .exact DM.2 ⟨λ_=>⟨oa,oa,e,d.1 r rfl⟩,λ_=>rfl⟩
 .exact DM.2 ⟨λh0=>absurd h0 (d.2 r rfl).1,λhk=>absurd hk.2.2.2 (d.2 r rfl).2⟩
def DB(d:Dl):Prop:=d.2.2.1.length<=1048576/\∀a∈d.2.2.1,LW a
end Go.Ev.Pv
