/-
  The law as plain Lean, first part: that there are answers: names, versions, ranges, advisories.
-/
import Derived.Test.YtkmlfnhigaoplaaGreatDoorD
import Derived.Sort.AssemblyPlain
set_option linter.all false
set_option maxRecDepth 1000000
set_option maxHeartbeats 16000000
open Go.IntKind hiding min max bits signed
namespace Go.Ev
theorem EM{α:Type}{a:α}{l:List α}:(a::l).length=l.length+1:=BN
theorem EO{α:Type}:([]:List α).length=0:=C0
theorem EP{α:Type}{a:α}{i:Nat}{l:List α}(h:a∈l.take i):a∈l:=List.mem_of_mem_take h
theorem EQ{α:Type}{a:α}{i:Nat}{l:List α}(h:a∈l.drop i):a∈l:=List.mem_of_mem_drop h
def Tot{α:Type}(m:Option α)(Q:α->Prop):Prop:=∃x,m=some x/\Q x
section
variable{α β:Type}{m n:Option α}{P Q:α->Prop}
def Tot.mono(h:Tot m P)(k:∀x,P x->Q x):Tot m Q:=let ⟨x,h1,h2⟩:=h;⟨x,h1,k x h2⟩
theorem DO{x:α}:Tot (some x) Q<->Q x:=⟨λ⟨_,h1,a⟩=>A2 h1▸a,λh=>⟨x,rfl,h⟩⟩
theorem DN{f:α->Option β}{R:β->Prop}:Tot (m.bind f) R<->Tot m λx=>Tot (f x) R:=by
 constructor
 .rintro⟨y,h1,h⟩;have⟨x,a,b⟩:=B6.1 h1;exact⟨x,a,y,b,h⟩
 .rintro⟨x,rfl,y,h1,h⟩;exact⟨y,h1,h⟩
def DP{b:Bool}:Tot (bif b then m else n) Q<->(b=true->Tot m Q)/\(b=false->Tot n Q):=by
 cases b
 .exact⟨λh=>⟨λe=>(by cases e),λ_=>h⟩,λh=>h.2 rfl⟩
 .exact⟨λh=>⟨λ_=>h,λe=>(by cases e)⟩,λh=>h.1 rfl⟩
theorem EV{n:Nat}{i:Int}{Q:Unit->Prop}:Tot (in? n i) Q<->(0<=i/\i<n)/\Q ():=by
 unfold in? Tot;by_cases h1:0<=i<;>by_cases a:i<n<;>simp[h1,a]
 exact⟨λ⟨_,h⟩=>h,λh=>⟨(),h⟩⟩
theorem FT{a b:DM}{Q:DM->Prop}:Tot (cat? a b) Q<->a.length+b.length<=281474976710656/\Q (a++b):=by
 unfold cat? Tot;by_cases h:a.length+b.length<=281474976710656<;>simp[h]
theorem F9{B:Nat}{a b:List α}{Q:List α->Prop}:Tot (app? B a b) Q<->(a.length+b.length)*B<=70368744177664/\Q (a++b):=by
 unfold app? Tot;by_cases h:(a.length+b.length)*B<=70368744177664<;>simp[h]
theorem I5{l:List α}{lo hi:Int}{Q:List α->Prop}:Tot (cut? l lo hi) Q<->(0<=lo/\lo<=hi/\hi<=l.length)/\Q ((l.take hi.toNat).drop lo.toNat):=by
 unfold cut? Tot;by_cases h1:0<=lo<;>by_cases h:lo<=hi<;>by_cases a:hi<=l.length<;>simp[h1,h,a]
def AJt{l:List α}{i:Int}{Q:α->Prop}(h1:0<=i)(b:i<l.length)(a:∀x,x∈l->l[i.toNat]?=some x->Q x):Tot (at? l i) Q:=by
 have h:i.toNat<l.length:=oa
 refine⟨l[i.toNat],?_,a _ (AK h) (A1 h)⟩;unfold at?;rw[A6 h1];exact A1 h
def EJ{l:List α}{i:Int}{Q:α->Prop}:Tot (at? l i) Q<->(0<=i/\i<l.length)/\∀x,l[i.toNat]?=some x->Q x:=by
 constructor
 .rintro⟨x,h1,h⟩;unfold at? at h1;by_cases h0:0<=i
  .rw[A6 h0]at h1;have h1:l[i.toNat]?=some x:=h1;have d:=(A4.1 h1).1;exact⟨⟨h0,oa⟩,λy a=>by rw[h1]at a;cases a;exact h⟩
  .rw[A9 h0]at h1;cases h1
 .rintro⟨⟨h1,h⟩,b⟩;exact AJt h1 h λx _ e=>b x e
def II:Tot m (λ_=>True)<->∃x,m=some x:=⟨λ⟨x,h,_⟩=>⟨x,h⟩,λ⟨x,h⟩=>⟨x,h,trivial⟩⟩
def ES{r:(α->Option β)->α->Option β}{R:β->Prop}(I:α->Prop)(a:α->Nat)(h:∀next x,I x->(∀y,I y->a y<a x->Tot (next y) R)->Tot (r next x) R):
 ∀(k:Nat) (x:α),I x->a x<k->Tot (DX r k x) R:=by
 intro k;induction k with
 |zero=>intro x _ h;omega
 |succ k e=>intro x b hk;exact h _ x b λy d j=>e y d oa
theorem EI{n:Int}(h1:-9223372036854775808<=n)(h:n<=9223372036854775807):i64.wrap n=n:=by
 simp only[IntKind.wrap,IntKind.bits,IntKind.signed];simp;omega
def zO{n:Int}(h1:0<=n)(h:n<=255):u8.wrap n=n:=by
 simp only[IntKind.wrap,IntKind.bits,IntKind.signed];simp;omega
def AJu(n:Int):0<=u8.wrap n/\u8.wrap n<=255:=by
 simp only[IntKind.wrap,IntKind.bits,IntKind.signed];simp;omega
end
end Go.Ev
namespace Go.Ev.Pv
theorem E6{n:Int}:-9223372036854775808<=n->n<=9223372036854775807->i64.wrap n=n:=λh1 h=>EI h1 h
theorem E4(b:UInt8):b.toNat<=255:=by have:=b.toNat_lt;omega
theorem E7{n:Int}:0<=n->n<=255->u8.wrap n=n:=λh1 h=>zO h1 h
theorem E8(n:Int):0<=u8.wrap n/\u8.wrap n<=255:=AJu n
theorem E9(s:DM):(FX s).length=s.length:=by simp[FX]
theorem E5(s:List Int):(IL s).length=s.length:=by simp[IL]
theorem E1(s t:DM):DR s t=decide (s=t):=by grind[DR]
theorem DU(s t:Int):DQ s t=decide (s=t):=by rfl
abbrev th(a b:Int)(n:Nat):Prop:=0<=a/\a<=b/\b=n/\b<=281474976710656
class t6{α β:Type}(f:α->Option β)(P:outParam (α->Prop))(Q:outParam (α->β->Prop)):Prop where h:∀x,P x->Tot (f x) (Q x)
theorem t7{α β:Type}{f:α->Option β}{P Q}[i:t6 f P Q]{x:α}{R:β->Prop}(h:P x)(k:∀r,Q x r->R r):Tot (f x) R:=(i.h x h).mono k
theorem td{α β:Type}{s:(α->Option β)->α->Option β}{n:Nat}{P Q}(K:α->α->Prop)(m:α->Nat)(h:∀next x y,P x->P y->K x y->[t6 next (λz=>(P z/\K x z)/\m z<m y) (λ_=>Q x)]->Tot (s next y) (Q x))(d:∀x,P x->K x x/\m x<n:=by
 intros;try dsimp only at *
 exact⟨by grind,by unfold fuel;grind⟩):t6 (DX s n) P Q:=
 ⟨λx a=>ES (λy=>P y/\K x y) m (λn y b g=>@h n x y a b.1 b.2 ⟨λz e=>g z e.1 e.2⟩) _ _ ⟨a,(d x a).1⟩ (d x a).2⟩
instance aZ:t6 strings_IndexByte (λx=>x.1.length<=1048576) (λ_ r=>-1<=r):=⟨λx h=>by
 grind[strings_IndexByte,IN,decide_eq_true,DO,Lib.indexByte_ge]⟩
def zP(sep:DM)(m:Nat):∀x:List DM,(∀s∈x,s.length<=m)->(Lib.join x sep).length<=x.length*(m+sep.length):=by
 intro x;induction x with
 |nil=>intro _;simp[Lib.join,List.intercalate]
 |cons a r d=>
  intro h;have h1:=h a AE;have e:=d λs b=>h s (AN _ b);cases r<;>grind[Lib.join,List.intercalate,List.intersperse,List.length_append,EM,Nat.add_mul]
theorem AJv{xs:List DM}(h1:xs.length<=1048577)(a:∀s∈xs,s.length<=1048576):(Lib.join xs [47]).length<=1099513724929:=by
 have h:=zP [47] 1048576 xs a;grind
def WI(x:(List DM)×DM)(h:x.1.length<=140737488355328/\(Lib.join x.1 x.2).length<=140737488355328):Tot (strings_Join x) (λr=>r=Lib.join x.1 x.2):=by
 unfold strings_Join IN;rw[A6 h];exact DO.2 rfl
def qB{p:Prop}(h:p:=by grind[E6,E5,E9,E1,DU,E8,E7,E4]):p:=h
theorem t8{p:Prop}(h:p:=by
 intros;try dsimp only at *
 repeat' first
  |(with_reducible first|refine DP.2 ⟨λ_=>?_,λ_=>?_⟩|refine DN.2 ?_|refine DO.2 ?_|refine EJ.2 ⟨?_,λ_ _=>?_⟩|refine EV.2 ⟨?_,?_⟩|refine I5.2 ⟨?_,?_⟩|refine FT.2 ⟨?_,?_⟩|refine F9.2 ⟨?_,?_⟩|refine t7 ?_ λ_ _=>?_|refine⟨λ_=>?_,?_⟩)
  |split
  |dsimp only
 all_goals grind[E6,E5,E9,E1,DU,E8,E7,E4,EM,EO,EP,EQ]):p:=h
instance:t6 uP (λx=>th x.2.2 x.2.1 x.1.length) (λ_ _=>True):=td (λ_ _=>True) (λy=>(y.2.1-y.2.2).toNat) (by unfold A3X;exact t8)
instance oC:t6 VL (λx=>x.length<=1048576) (λ_ _=>True):=⟨by unfold VL;exact t8⟩
instance:t6 uS (λx=>th x.2.2 x.2.1 x.1.length) (λx r=>r.length=x.1.length):=td (λx y=>y.1.length=x.1.length) (λy=>(y.2.1-y.2.2).toNat) (by unfold A3Z;exact t8)
instance:t6 TD (λx=>x.length<=1048576) (λx r=>r.length=x.length):=⟨by unfold TD;exact t8⟩
instance QD:t6 M_ (λ_=>True) (λx r=>r.1=x.1.1/\r.2.1=x.1.2.1/\(0<=x.2->0<=r.2.2)):=⟨by unfold M_;exact t8⟩
instance TT:t6 L2 (λx=>∃y,x=some y/\0<=y.2.1) (λx r=>0<=r/\(r=0\/∃y,x=some y/\y.2.1<y.1.length)):=⟨λx h=>by
 unfold L2;obtain⟨y,rfl,h⟩:=h
 repeat' first
  |(with_reducible first|refine DP.2 ⟨λ_=>?_,λ_=>?_⟩|refine DN.2 ?_|refine DO.2 ?_|refine EJ.2 ⟨?_,λ_ _=>?_⟩)
  |dsimp only
 all_goals exact qB⟩
instance A6U:t6 YY (λ_=>True) (λ_ _=>True):=⟨by unfold YY;exact t8⟩
instance:t6 uT (λx=>0<=x.2/\x.2<=(4:Int)/\(4:Int)<=281474976710656/\x.1.1.length<=1048576/\0<=x.1.2.1/\x.1.2.1<=x.1.1.length/\x.2<=x.1.1.length) (λx r=>match r with| .inl q=>q=x.1/\4<=x.1.1.length| .inr q=>q.1.1=x.1.1/\q.1.2.1=x.1.2.1/\q.2=[]):=td (λx y=>y.1=x.1) (λy=>((4:Int)-y.2).toNat) (by unfold A3_;exact t8)
instance:t6 uU (λx=>x.1.length<=1048576/\0<=x.2.1/\x.2.1<=x.1.length) (λx r=>r.1=x.1/\r.2.2=x.2.2/\x.2.1<=r.2.1/\r.2.1<=r.1.length):=td (λx y=>y.1=x.1/\y.2.2=x.2.2/\x.2.1<=y.2.1) (λy=>(y.1.length-y.2.1).toNat) (by unfold A3a;exact t8)
instance:t6 gE (λx=>x.1.1.length<=1048576/\0<=x.1.2.1/\x.1.2.1<=x.1.1.length/\(x.2=true->x.1.2.1<x.1.1.length)) (λx r=>r.1=x.1.1/\x.1.2.1<=r.2.1/\r.2.1<=r.1.length):=⟨by unfold gE;exact t8⟩
instance A6V:t6 YZ (λx=>x.1.1.length<=1048576/\0<=x.1.2.1/\x.1.2.1<=x.1.1.length) (λx r=>r.2.1=x.1.1/\0<=r.2.2.1/\r.2.2.1<=x.1.1.length/\r.1.length<=x.1.1.length):=⟨by unfold YZ;exact t8⟩
instance A6W:t6 YV (λx=>0<=x/\x<=255) (λ_ r=>-1<=r/\r<=15):=⟨by unfold YV;exact t8⟩
instance:t6 gF (λx=>x.1.1.length<=1048576/\0<=x.1.2.1/\x.1.2.1<=x.1.1.length/\1<=x.2.1/\x.2.1<=2/\x.2.2.1= -1/\(x.2.2.2=true->x.1.2.1+x.2.1<x.1.1.length)) (λx r=>r.1=x.1/\(x.2.2.2=true\/r.2= -1)):=⟨by unfold gF;exact t8⟩
instance:t6 uV (λx=>x.1.1.length<=1048576/\0<=x.1.2.1/\x.1.2.1<=x.1.1.length/\1<=x.2.2/\x.2.2<=3/\x.1.2.1+x.2.2<=x.1.1.length) (λx r=>match r with| .inl q=>q.1=x.1/\x.1.2.1+3<=x.1.1.length| .inr q=>q.1.1=x.1.1/\q.1.2.1=x.1.2.1/\q.2.2=false):=td (λx y=>y.1=x.1) (λy=>(3-y.2.2).toNat) (by unfold A3b;exact t8)
instance A6X:t6 Y_ (λx=>x.1.length<=1048576/\0<=x.2.1/\x.2.1<=x.1.length) (λx r=>r.2.2.1=x.1/\x.2.1<=r.2.2.2.1/\r.2.2.2.1<=x.1.length/\(r.2.1=true->x.2.1<r.2.2.2.1)):=⟨by unfold Y_;exact t8⟩
instance:t6 uW (λx=>x.1.1.length<=1048576/\0<=x.1.2.1/\x.1.2.1<=x.1.1.length/\x.2.length<=x.1.2.1) (λx r=>r.1.1=x.1.1/\x.1.2.1<=r.1.2.1/\r.1.2.1<=x.1.1.length/\r.2.length<=r.1.2.1):=td (λx y=>y.1.1=x.1.1/\x.1.2.1<=y.1.2.1) (λy=>(y.1.1.length-y.1.2.1).toNat) (by unfold A3c;exact t8)
instance:t6 TE (λx=>x.1.length<=1048576/\0<=x.2.1/\x.2.1<=x.1.length) (λx r=>r.2.1=x.1/\x.2.1<=r.2.2.1/\r.2.2.1<=x.1.length/\r.1.length<=x.1.length):=⟨by unfold TE;exact t8⟩
instance:t6 uX (λx=>x.1.1.length<=1048576/\0<=x.1.2.1/\x.1.2.1<=x.1.1.length/\x.2.length<=x.1.2.1+1/\∀s∈x.2,s.length<=1048576) (λx r=>r.1.1=x.1.1/\x.1.2.1<=r.1.2.1/\r.1.2.1<=x.1.1.length/\x.2.length<=r.2.length/\r.2.length<=1048577/\∀s∈r.2,s.length<=1048576):=td (λx y=>y.1.1=x.1.1/\x.1.2.1<=y.1.2.1/\x.2.length<=y.2.length) (λy=>(y.1.1.length-y.1.2.1).toNat) (by unfold A3d;exact t8)
instance A6Y:t6 Z0 (λx=>x.1.length<=1048576/\0<=x.2.1/\x.2.1<=x.1.length) (λx r=>r.2.1=x.1/\x.2.1<=r.2.2.1/\r.2.2.1<=x.1.length/\1<=r.1.length/\r.1.length<=1048577/\∀s∈r.1,s.length<=1048576):=⟨by unfold Z0;exact t8⟩
instance:t6 YT (λ_=>True) (λ_ _=>True):=⟨by unfold YT;exact t8⟩
instance:t6 uY (λx=>x.1.1.length<=1048576/\0<=x.1.2.1/\x.1.2.1<=x.1.1.length) (λx r=>r.1=x.1.1/\x.1.2.1<=r.2.1/\r.2.1<=x.1.1.length):=td (λx y=>y.1.1=x.1.1/\y.1.2.2=x.1.2.2/\x.1.2.1<=y.1.2.1) (λy=>(y.1.1.length-y.1.2.1).toNat) (by unfold A3e;exact t8)
instance:t6 gG (λx=>x.1.length<=1048576/\0<=x.2.1/\x.2.1<=x.1.length) (λx r=>r.2.1=x.1/\x.2.1<=r.2.2.1/\r.2.2.1<=x.1.length/\r.1.1.length<=1048576/\r.1.2.length<=1048576):=⟨by unfold gG;exact t8⟩
instance AK7:t6 gH (λx=>x.1.1.length<=1048576/\0<=x.1.2.1/\x.1.2.1<=x.1.1.length/\(x.2.2=true->x.1.2.1<x.1.1.length)/\x.2.1.2.2.2.1.length<=1048576) (λx r=>r.1.1=x.1.1/\x.1.2.1<=r.1.2.1/\r.1.2.1<=x.1.1.length/\r.2.1=x.2.1.1/\r.2.2.1=x.2.1.2.1/\r.2.2.2.1=x.2.1.2.2.1/\r.2.2.2.2.1.length<=1048576/\r.2.2.2.2.2=x.2.1.2.2.2.2):=⟨by unfold gH;exact t8⟩
instance AK8:t6 uZ (λx=>x.1.1.length<=1048576/\0<=x.1.2.1/\x.1.2.1<=x.1.1.length/\x.2.1.2.2.2.2.1.length<=x.1.2.1/\x.2.2≠0/\∀q∈x.2.1.2.2.2.2.1,q.1.length<=1048576/\q.2.length<=1048576) (λx r=>r.1.1=x.1.1/\x.1.2.1<=r.1.2.1/\r.1.2.1<=x.1.1.length/\r.2.1=x.2.1.1/\r.2.2.1=x.2.1.2.1/\r.2.2.2.1=x.2.1.2.2.1/\r.2.2.2.2.1=x.2.1.2.2.2.1/\r.2.2.2.2.2.2=x.2.1.2.2.2.2.2/\r.2.2.2.2.2.1.length<=1048576/\∀q∈r.2.2.2.2.2.1,q.1.length<=1048576/\q.2.length<=1048576):=td (λx y=>y.1.1=x.1.1/\y.2.1.1=x.2.1.1/\y.2.1.2.1=x.2.1.2.1/\y.2.1.2.2.1=x.2.1.2.2.1/\y.2.1.2.2.2.1=x.2.1.2.2.2.1/\y.2.1.2.2.2.2.2=x.2.1.2.2.2.2.2/\x.1.2.1<=y.1.2.1) (λy=>(y.1.1.length-y.1.2.1).toNat) (by unfold A3f;exact t8)
def oE{k:IntKind}{a b:Int}{Q:Int->Prop}:Tot (div? k a b) Q<->b≠0/\Q (k.wrap (a.tdiv b)):=by
 grind[div?,Tot]
def A6_{a b:Int}{Q:Int->Prop}:Tot (mod? a b) Q<->b≠0/\Q (a.tmod b):=by
 grind[mod?,Tot]
def AK9{a:Int}(h0:0<=a)(h1:a<=255):0<=a.tdiv 16/\a.tdiv 16<=15:=oc
def AKA{a:Int}(h0:0<=a)(h1:a<=255):0<=a.tmod 16/\a.tmod 16<=15:=oc
def AKB(b:UInt8):0<=((b.toNat:Int)).tdiv 16/\((b.toNat:Int)).tdiv 16<=15:=AK9 oa (by have:=E4 b;omega)
def AKC(b:UInt8):0<=((b.toNat:Int)).tmod 16/\((b.toNat:Int)).tmod 16<=15:=AKA oa (by have:=E4 b;omega)
theorem EA{α:Type}{l:List α}{i:Nat}{d:α}:i<l.length->l.getD i d∈l:=λh=>by
 grind
theorem EB{α:Type}{l:List α}{i:Nat}{a b:α}:a∈l.set i b->a∈l\/a=b:=List.mem_or_eq_of_mem_set
instance A6a:t6 strings_Split (λx=>x.1.length<4294967281/\1<=x.2.length) (λx r=>r.length<=x.1.length+2/\∀s∈r,s.length<=x.1.length):=⟨λx h=>by
 unfold strings_Split IN;rw[A6 h];refine DO.2 ⟨?_,?_⟩
 .rw[AX];have h1:=Lib.splitB_length_le ⟨x.2.toArray⟩ 0 (Lib.countB ⟨x.1.toArray⟩ ⟨x.2.toArray⟩) ⟨x.1.toArray⟩;have j:Lib.countB ⟨x.1.toArray⟩ ⟨x.2.toArray⟩<=x.1.length+1:=Lib.count_le x.1 x.2;omega
 .intro s e;obtain⟨b,d,rfl⟩:=C1.1 e
  have:∀(k:Nat) (s:ByteArray),∀y∈Lib.splitB ⟨x.2.toArray⟩ 0 k s,y.size<=s.size:=by
   intro k;induction k with
   |zero=>simp_all[Lib.splitB_zero,AP,AD]
   |succ k l=>
    intro s y a;unfold Lib.splitB at a;split at a
    .grind
    .rcases B1.1 a with rfl|a
     .rw[CE];omega
     grind[ByteArray.size_extract]
  have:=this _ _ b d;assumption⟩
instance A6b:t6 fD (λ_=>True) (λx r=>r=x):=⟨λx h=>DO.2 rfl⟩
instance TU:t6 PQ (λ_=>True) (λx r=>r.length=x.length):=⟨λx h=>DO.2 (E5 x)⟩
def AKD(x:ER×IA×Bool)(h:x.1.1.length<=1048576/\0<=x.1.2.1/\x.1.2.1<=x.1.1.length/\(x.2.2=true->x.1.2.1<x.1.1.length)/\x.2.1.2.2.2.2.2.length<=1048576):Tot (gI x) (λr:ER×IA=>r.1.1=x.1.1/\x.1.2.1<=r.1.2.1/\r.1.2.1<=x.1.1.length/\r.2.1=x.2.1.1/\r.2.2.1=x.2.1.2.1/\r.2.2.2.1=x.2.1.2.2.1/\r.2.2.2.2.1=x.2.1.2.2.2.1/\r.2.2.2.2.2.1=x.2.1.2.2.2.2.1/\r.2.2.2.2.2.2.length<=1099513724929):=by
 obtain⟨a,p,b⟩:=x;try dsimp only at h ⊢
 unfold gI
 repeat' first
  |(with_reducible first|refine DP.2 ⟨λ_=>?_,λ_=>?_⟩|refine DN.2 ?_|refine DO.2 ?_|refine(A6Y.1 _ ?_).mono λ_ _=>?_|refine(WI _ ?_).mono λ_ _=>?_)
  |dsimp only
 all_goals grind[E6,E5,E9,E1,DU,E8,E7,E4,EA,EB,AJv]
instance A6c:t6 fM (λ_=>True) (λ_ r=>r.length=5/\∀z∈r,z.1.length<=20):=⟨λx h=>⟨_,rfl,rfl,oi⟩⟩
def za{p:Prop}(h:p:=by grind[E6,E5,E9,E1,DU,E8,E7,E4,EA,EB]):p:=h
theorem tc{p:Prop}(h:p:=by
 intros;try dsimp only at *
 repeat' first
  |(with_reducible first|refine DP.2 ⟨λ_=>?_,λ_=>?_⟩|refine DN.2 ?_|refine DO.2 ?_|refine EJ.2 ⟨?_,λ_ _=>?_⟩|refine EV.2 ⟨?_,?_⟩|refine I5.2 ⟨?_,?_⟩|refine FT.2 ⟨?_,?_⟩|refine F9.2 ⟨?_,?_⟩|refine t7 ?_ λ_ _=>?_|refine⟨λ_=>?_,?_⟩)
  |split
  |dsimp only
 all_goals grind[E6,E5,E9,E1,DU,E8,E7,E4,EA,EB,EM,EO,EP,EQ]):p:=h
instance:t6 uD (λx=>0<=x.2.2/\x.2.2<=(5:Int)/\x.2.1.length=(5:Int)/\(5:Int)<=281474976710656/\∀z∈x.2.1,z.1.length<=20) (λx r=>match r with| .inl _=>True| .inr r=>0<=r/\r<5/\x.1.length<=20):=td (λx y=>y.1=x.1) (λy=>((5:Int)-y.2.2).toNat) (by unfold A3I;exact tc)
instance A6d:t6 YR (λ_=>True) (λx r=>r<5/\(0<=r->x.length<=20)):=⟨by unfold YR;exact tc⟩
instance A6e:t6 VI (λ_=>True) (λx r=>r.2=0->x.length<=20):=⟨by unfold VI;exact tc⟩
instance AKF:t6 uE (λx=>0<=x.2.2/\x.2.2<=x.2.1/\x.2.1=x.1.length/\x.2.1<=281474976710656) (λx r=>match r with| .inl _=>(∀j:Nat,x.2.2<=j->∀s,x.1[j]?=some s->s.length<=200)| .inr r=>r=true):=td (λx y=>y.1=x.1/\(∀j:Nat,x.2.2<=j->(j:Int)<y.2.2->∀s,y.1[j]?=some s->s.length<=200)/\x.2.2<=y.2.2) (λy=>(y.2.1-y.2.2).toNat) (by unfold A3J;exact tc)
def A6f{α:Type}{l:List α}{P:α->Prop}(h:∀j:Nat,(0:Int)<=j->∀s,l[j]?=some s->P s):∀s∈l,P s:=λs a=>let ⟨j,hj⟩:=BO a;h j (B9 j) s hj
instance AKG:t6 uF (λx=>0<=x.2.2/\x.2.2<=x.2.1/\x.2.1=x.1.length/\x.2.1<=281474976710656) (λx r=>match r with| .inl _=>(∀j:Nat,x.2.2<=j->∀s,x.1[j]?=some s->s.1.length<=200/\s.2.length<=200)| .inr r=>r=true):=td (λx y=>y.1=x.1/\(∀j:Nat,x.2.2<=j->(j:Int)<y.2.2->∀s,y.1[j]?=some s->s.1.length<=200/\s.2.length<=200)/\x.2.2<=y.2.2) (λy=>(y.2.1-y.2.2).toNat) (by unfold A3K;exact tc)
def AKH(x:DM×DM×DM×DM×DW×DM)(h:x.2.2.2.2.1.length<=1048576):Tot (fN x) (λr:Bool=>r=false->(x.2.1.length<=200/\x.2.2.1.length<=200/\x.2.2.2.1.length<=200/\x.2.2.2.2.2.length<=200/\x.2.2.2.2.1.length<=10/\∀q∈x.2.2.2.2.1,q.1.length<=200/\q.2.length<=200)):=by
 unfold fN;dsimp only;refine DN.2 ((AKF.1 _ oh).mono λr d=>?_);rcases r with r|r
 .have d:=A6f d;refine DN.2 ((AKG.1 _ oc).mono λb a=>?_);rcases b with b|b
  .have a:=A6f a;grind[DO,of_decide_eq_false]
  grind[DO]
 grind[DO]
instance oG:t6 TB (λx=>x.length<4294967281) (λx r=>r.length<=x.length+2/\∀s∈r,s.length<=x.length):=⟨by unfold TB;exact tc⟩
instance:t6 uG (λx=>th x.2.2.2 x.2.2.1 x.2.1.length) (λ_ _=>True):=td (λ_ _=>True) (λy=>(y.2.2.1-y.2.2.2).toNat) (by unfold A3L;exact tc)
instance A6g:t6 YS (λx=>x.1.length<=1048576) (λ_ _=>True):=⟨by unfold YS;exact tc⟩
instance:t6 uH (λx=>th x.2.2 x.2.1 x.1.length) (λ_ _=>True):=td (λ_ _=>True) (λy=>(y.2.1-y.2.2).toNat) (by unfold A3M;exact tc)
instance AKK:t6 fO (λx=>x.length<=1048576) (λ_ _=>True):=⟨by unfold fO;exact tc⟩
instance AKL:t6 uI (λx=>0<=x.2.2.2/\x.2.2.2<=x.2.2.1/\x.2.2.1=x.2.1.length/\x.2.2.1<=281474976710656/\x.1.length=x.2.1.length/\∀q∈x.2.1,q.1.length<=1048576) (λ_ r=>True):=⟨λx h=>by
 refine ES (λx:DW×DW×Int×Int=>0<=x.2.2.2/\x.2.2.2<=x.2.2.1/\x.2.2.1=x.2.1.length/\x.2.2.1<=281474976710656/\x.1.length=x.2.1.length/\∀q∈x.2.1,q.1.length<=1048576)
  (λx=>(x.2.2.1-x.2.2.2).toNat) ?_ _ _ h (by unfold fuel;omega)
 rintro next ⟨l,z,A,B⟩ h e
 dsimp only at h e;obtain⟨h1,m,p,s,w,d⟩:=h;unfold A3N;dsimp only;refine DP.2 ⟨λa=>?_,λ_=>DO.2 trivial⟩;have a:=AC a;refine DN.2 (EJ.2 ⟨⟨oa,oa⟩,λy j=>?_⟩);refine DN.2 ((AKK.1 _ (d _ (AL j))).mono λr _=>?_);refine DP.2 ⟨λ_=>DO.2 trivial,λ_=>?_⟩;refine DP.2 ⟨λ_=>DO.2 trivial,λ_=>?_⟩;refine DN.2 (Tot.mono (P:=λ_=>True) ?_ λC _=>?_)
 .refine DP.2 ⟨λb=>?_,λ_=>DO.2 trivial⟩;have b:=AC b;rw[EI oa oa];exact EJ.2 ⟨⟨oa,oa⟩,λ_ _=>trivial⟩
 .refine DP.2 ⟨λ_=>DO.2 trivial,λ_=>?_⟩;grind[EI]⟩
instance AKM:t6 fP (λx=>x.length<=1048576/\∀q∈x,q.1.length<=1048576) (λ_ _=>True):=⟨by unfold fP;exact tc⟩
instance:t6 uJ (λx=>th x.2.2 x.2.1 x.1.length) (λ_ _=>True):=td (λ_ _=>True) (λy=>(y.2.1-y.2.2).toNat) (by unfold A3O;exact tc)
instance:t6 YU (λx=>x.length<=1048576) (λ_ _=>True):=⟨by unfold YU;exact tc⟩
instance AKO:t6 uK (λx=>0<=x.2.2/\x.2.2<=x.2.1/\x.2.1=x.1.length/\x.2.1<=281474976710656/\∀z∈x.1,z.length<=1048576) (λ_ r=>∀z,r=.inr z->z=8):=td (λ_ _=>True) (λy=>(y.2.1-y.2.2).toNat) (by unfold A3P;exact tc)
instance AKP:t6 uL (λx=>0<=x.2.2/\x.2.2<=x.2.1/\x.2.1=x.1.length/\x.2.1<=281474976710656/\∀z∈x.1,z.2.length<=1048576) (λ_ r=>∀z,r=.inr z->z=8):=td (λ_ _=>True) (λy=>(y.2.1-y.2.2).toNat) (by unfold A3Q;exact tc)
def A6i(x:Int)(h:True):Tot (ZC x) (λr:Bool=>True):=by
 unfold ZC
 repeat' first
  |with_reducible refine DO.2 ?_
  |dsimp only
 all_goals exact za
instance a_:t6 OL (λx=>x.1.length<=1048576000) (λx r=>r.2.length=x.1.length+1):=⟨by unfold OL;exact tc⟩
instance bA:t6 RV (λx=>x.1.length<=1048576000/\x.2.length<=1048576000) (λx r=>r.2.2.length=x.1.length+x.2.length):=⟨by unfold RV;exact tc⟩
instance AKQ:t6 vM (λx=>0<=x.2.2.2/\x.2.2.2<=x.2.2.1/\x.2.2.1=x.1.length/\x.2.1.length<=x.2.2.2/\x.1.length<=1048576) (λx r=>r.length<=x.1.length):=⟨λx h=>by
 refine ES (R:=λr:List Int=>r.length<=x.1.length) (λy:DM×(List Int)×Int×Int=>y.1=x.1/\0<=y.2.2.2/\y.2.2.2<=y.2.2.1/\y.2.2.1=y.1.length/\y.2.1.length<=y.2.2.2/\y.1.length<=1048576)
  (λy=>(y.2.2.1-y.2.2.2).toNat) ?_ _ _ ⟨rfl,h⟩ (by unfold fuel;omega)
 rintro next ⟨s,j,I,e⟩ h l
 dsimp only at h l;obtain⟨h0,h1,A,B,C,D⟩:=h;unfold A3s;dsimp only;refine DP.2 ⟨λa=>?_,λa=>DO.2 ?_⟩
 .have a:=AC a;have p:i64.wrap (e+1)=e+1:=EI oa oa;rw[p];refine DN.2 (EJ.2 ⟨⟨h1,oa⟩,λb _=>?_⟩);refine DN.2 ((A6i _ trivial).mono λr _=>?_);refine DP.2 ⟨λ_=>?_,λ_=>?_⟩
  .refine DN.2 (EJ.2 ⟨⟨h1,oa⟩,λw _=>?_⟩);refine DN.2 ((a_.1 _ oc).mono λE m=>?_);grind
  .refine DN.2 (Tot.mono (P:=λ_=>True) ?_ λz _=>?_)
   .refine DP.2 ⟨λd=>?_,λ_=>DO.2 trivial⟩
    have d:e≠0:=by
     rw[DU]at d;simpa using d
    rw[EI oa oa];exact EJ.2 ⟨⟨oa,oa⟩,λ_ _=>trivial⟩
   .refine DN.2 (Tot.mono (P:=λ_=>True) ?_ λG _=>?_)
    .simp_all[DP,A6i,trivial,DO]
    .refine DP.2 ⟨λ_=>?_,λ_=>?_⟩
     .refine DN.2 ((a_.1 _ oc).mono λH m=>?_);grind
     grind
 grind⟩
instance AKR:t6 gR (λx=>x.length<=1048576) (λx r=>r.length<=x.length):=⟨by unfold gR;exact tc⟩
instance AKS:t6 gS (λx=>x.1.2.1.length<=1048576/\x.1.2.2.1.length<=1048576) (λx r=>r.1=x.1.1/\r.2.1.length=x.1.2.1.length/\r.2.2.1.length=x.1.2.2.1.length/\r.2.2.2=x.1.2.2.2):=⟨by unfold gS;exact tc⟩
def A6j{α:Type}{a b:List α}{Q:List α->Prop}(h1:a.length+b.length<=1099511627776)(h:Q (a++b)):Tot (app? 48 a b) Q:=F9.2 ⟨oa,h⟩
def oH(x:DM×DM×DM×DM×DW×DM)(h:x.1.length<=20/\x.2.1.length<=200/\x.2.2.1.length<=200/\x.2.2.2.1.length<=200/\x.2.2.2.2.2.length<=200/\x.2.2.2.2.1.length<=10/\(∀q∈x.2.2.2.2.1,q.1.length<=200/\q.2.length<=200)):Tot (TF x) (λr:DM×DM×DM×DM×DW×DM=>r.1.length<=20/\r.2.1.length<=200/\r.2.2.1.length<=200/\r.2.2.2.1.length<=200/\r.2.2.2.2.2.length<=200/\r.2.2.2.2.1.length<=10/\(∀q∈r.2.2.2.2.1,q.1.length<=200/\q.2.length<=200)):=by
 obtain⟨s,D,E,w,y,z,A⟩:=h;unfold TF;try dsimp only
 refine DN.2 ((A6e.1 _ trivial).mono λH _=>?_);refine DN.2 ((AKS.1 _ ⟨om,om⟩).mono λa b=>?_);try dsimp only at b
 obtain⟨p,B,C,e⟩:=b;have k1:a.1.length<=20:=by rw[p];exact s
 have d:a.2.2.2.1.length<=200:=by rw[e];exact w
 have j:a.2.2.2.2.1.length<=10:=by rw[e];exact z
 have l:a.2.2.2.2.2.length<=200:=by rw[e];exact y
 have m:∀q∈a.2.2.2.2.1,q.1.length<=200/\q.2.length<=200:=by rw[e];exact A
 refine DP.2 ⟨λ_=>?_,λ_=>?_⟩
 .refine DN.2 ((AKR.1 _ oa).mono λI G=>?_);refine DN.2 (A6j ot ?_);exact DO.2 ⟨k1,om,om,d,l,by simpa using j,by simpa using m⟩
 .refine DN.2 (A6j ot ?_);exact DO.2 ⟨k1,om,om,d,l,by simpa using j,by simpa using m⟩
def bB(x:DM×DM×DM×DM×DW×DM)(h:x.2.2.2.2.1.length<=1048576):Tot (KQ x) (λr:Int=>r=0->(x.1.length<=20/\x.2.1.length<=200/\x.2.2.1.length<=200/\x.2.2.2.1.length<=200/\x.2.2.2.2.2.length<=200/\x.2.2.2.2.1.length<=10/\(∀q∈x.2.2.2.2.1,q.1.length<=200/\q.2.length<=200))):=by
 unfold KQ;try dsimp only
 refine DN.2 ((A6e.1 _ trivial).mono λL h1=>?_);refine DP.2 ⟨λb=>DO.2 λa=>?_,λb=>?_⟩
 .rw[DU,a]at b;simp at b
 have D:x.1.length<=20:=h1 (by rw[DU]at b;simpa using b);refine DN.2 ((AKH _ h).mono λM G=>?_);refine DP.2 ⟨λ_=>DO.2 λa=>absurd a oi,λs=>?_⟩;have⟨w,y,A,B,C,l⟩:=G s;refine DP.2 ⟨λ_=>DO.2 λa=>absurd a oi,λ_=>?_⟩;refine DN.2 ((oG.1 _ oa).mono λN K=>?_);refine DN.2 ((A6g.1 _ (by(try dsimp only);omega)).mono λO _=>?_);refine DP.2 ⟨λ_=>DO.2 λa=>absurd a oi,λ_=>?_⟩;refine DN.2 (Tot.mono (P:=λ_=>True) (DP.2 ⟨λ_=>(aZ.1 _ (by(try dsimp only);omega)).mono λ_ _=>trivial,λ_=>DO.2 trivial⟩) λQ _=>?_);refine DP.2 ⟨λ_=>DO.2 λa=>absurd a oi,λ_=>?_⟩;refine DN.2 ((AKM.1 _ ⟨oa,λq H=>by have:=l q H;omega⟩).mono λR _=>?_);refine DP.2 ⟨λb=>DO.2 λa=>?_,λ_=>?_⟩
 .rw[DU,a]at b;simp at b
 refine DN.2 ((oG.1 _ oa).mono λI E=>?_);refine DN.2 ((A6g.1 _ (by(try dsimp only);omega)).mono λJ _=>?_);refine DP.2 ⟨λ_=>DO.2 λa=>absurd a oi,λ_=>?_⟩;refine DN.2 ((AKO.1 _ ⟨AS _,oh,rfl,oh,λz j=>?_⟩).mono λd m=>?_)
 .simp only[B1,List.not_mem_nil,or_false]at j;rcases j with rfl|rfl|rfl|rfl<;>omega
 rcases d with d|d
 .refine DN.2 ((AKP.1 _ ⟨AS _,B9 _,rfl,(by show((x.2.2.2.2.1.length:Nat):Int)<=281474976710656;omega),λz j=>by have:=l z j;omega⟩).mono λe p=>?_);rcases e with e|e
  .exact DO.2 λ_=>⟨D,w,y,A,B,C,l⟩
  .exact DO.2 λa=>by have:=p _ rfl;omega
 .exact DO.2 λa=>by have:=m _ rfl;omega
def A6k{q:Int}{Q:DM->Prop}(l:DM)(a:l.length=16)(h0:0<=q)(h1:q<=15)(h:∀s:DM,s.length=1->Q s):Tot (cut? l q (u8.wrap (q+1))) Q:=by
 rw[zO oa oa];refine I5.2 ⟨⟨h0,oa,oa⟩,h _ ?_⟩;rw[BY,BG];omega
instance AKT:t6 vO (λx=>0<=x.2.2.2/\x.2.2.2<=x.2.2.1/\x.2.2.1=x.1.length/\x.2.1.length<=3*x.2.2.2/\x.1.length<=1048576) (λx r=>r.length<=3*x.1.length):=⟨λx h=>by
 refine ES (R:=λr:List Int=>r.length<=3*x.1.length) (λy:DM×(List Int)×Int×Int=>y.1=x.1/\0<=y.2.2.2/\y.2.2.2<=y.2.2.1/\y.2.2.1=y.1.length/\y.2.1.length<=3*y.2.2.2/\y.1.length<=1048576)
  (λy=>(y.2.2.1-y.2.2.2).toNat) ?_ _ _ ⟨rfl,h⟩ (by unfold fuel;omega)
 rintro next ⟨K,B,Q,A⟩ h m
 dsimp only at h m;obtain⟨h0,h1,L,w,M,z⟩:=h;unfold A3u;dsimp only;refine DP.2 ⟨λd=>?_,λd=>DO.2 ?_⟩
 .have d:=AC d;have E:i64.wrap (A+1)=A+1:=EI oa oa;rw[E];refine DN.2 (EJ.2 ⟨⟨h1,oa⟩,λb _=>?_⟩);refine DN.2 ((A6U.1 _ trivial).mono λr _=>?_);refine DN.2 (Tot.mono (P:=λ_=>True) (DP.2 ⟨λ_=>(aZ.1 _ (by show 4<=1048576;decide)).mono λ_ _=>trivial,λ_=>DO.2 trivial⟩) λN _=>?_);refine DP.2 ⟨λ_=>?_,λ_=>?_⟩
  .refine DN.2 ((a_.1 _ om).mono λO j=>?_);dsimp only at j;exact m _ ⟨h0,om,om,w,om,z⟩ om
  .obtain⟨p,C⟩:=AKB b;have⟨G,H⟩:=AKC b;have D:u8.wrap ((b.toNat:Int).tdiv 16)=(b.toNat:Int).tdiv 16:=zO p oa;refine DN.2 (oE.2 ⟨oi,?_⟩);refine DN.2 (oE.2 ⟨oi,?_⟩);rw[D];refine DN.2 (A6k _ rfl p C λJ l=>?_);refine DN.2 (FT.2 ⟨by simp[l],?_⟩);refine DN.2 (A6_.2 ⟨oi,?_⟩);refine DN.2 (A6_.2 ⟨oi,?_⟩);refine DN.2 (A6k _ rfl G H λs e=>?_);refine DN.2 (FT.2 ⟨by simp[l,e],?_⟩);have a:([37]++J++s:DM).length=3:=by simp[l,e]
   refine DN.2 ((bA.1 _ ⟨om,by rw[a];decide⟩).mono λI j=>?_);rw[a]at j;dsimp only at j;exact m _ ⟨h0,om,om,w,om,z⟩ om
 .have d:=AG d;rw[<-h0];omega⟩
instance zR:t6 VO (λx=>x.length<=1048576) (λx r=>r.length<=3*x.length):=⟨by unfold VO;exact tc⟩
def AKU(x:(List DM)×(List DM)×Int×Int)(h:0<=x.2.2.2/\x.2.2.2<=x.2.2.1/\x.2.2.1=x.2.1.length/\x.2.2.1<=202/\x.1.length<=x.2.2.2/\(∀z∈x.2.1,z.length<=200)/\(∀z∈x.1,z.length<=600)):
 Tot (vP x) (λr:List DM=>r.length<=202/\∀z∈r,z.length<=600):=by
 refine ES (R:=λr:List DM=>r.length<=202/\∀z∈r,z.length<=600) (λx:(List DM)×(List DM)×Int×Int=>0<=x.2.2.2/\x.2.2.2<=x.2.2.1/\x.2.2.1=x.2.1.length/\x.2.2.1<=202/\x.1.length<=x.2.2.2/\(∀z∈x.2.1,z.length<=200)/\(∀z∈x.1,z.length<=600))
  (λy=>(y.2.2.1-y.2.2.2).toNat) ?_ _ _ h (by unfold fuel;omega)
 rintro next ⟨A,G,H,m⟩ h j
 dsimp only at h j;obtain⟨h1,B,p,s,C,d,e⟩:=h;unfold A3v;dsimp only;refine DP.2 ⟨λb=>?_,λb=>DO.2 ⟨oa,e⟩⟩;have b:=AC b;have w:i64.wrap (m+1)=m+1:=EI oa oa;rw[w];refine DN.2 (EJ.2 ⟨⟨h1,oa⟩,λI l=>?_⟩);have l:=d _ (AL l);refine DN.2 ((zR.1 _ oa).mono λE D=>?_);refine DN.2 (F9.2 ⟨ot,?_⟩);refine j _ ⟨om,om,p,s,ot,d,λz a=>?_⟩ om;rcases AZ.1 a with a|a
 .exact e z a
 .rw[AP]at a;subst a;omega
def AKV(x:DM)(h:x.length<=200):Tot (gT x) (λr:DM=>r.length<=121402):=by
 unfold gT;refine DN.2 ((oG.1 _ oa).mono λj h1=>?_);refine DN.2 ((AKU _ ⟨AS _,B9 _,rfl,(by show((j.length:Nat):Int)<=202;omega),oh,(λz b=>by have:=h1.2 z b;omega),(λz b=>by cases b)⟩).mono λd a=>?_);have l:=zP [47] 600 d a.2;have m:d.length*(600+[(47:UInt8)].length)<=202*(600+1):=Nat.mul_le_mul a.1 (AD _);refine DN.2 ((WI _ ⟨by have:=a.1;dsimp only;omega,om⟩).mono λp e=>DO.2 ?_);rw[e];dsimp only;omega
def A6l(x:DM×DM×DM×DM×DW×DM)(h:x.1.length<=20/\x.2.1.length<=200/\x.2.2.1.length<=200/\x.2.2.2.1.length<=200/\x.2.2.2.2.2.length<=200/\x.2.2.2.2.1.length<=10/\(∀q∈x.2.2.2.2.1,q.1.length<=200/\q.2.length<=200)):Tot (gU x) (λr:DM=>r.length<=200000):=by
 obtain⟨e,a,j,l,m,p,s⟩:=h;unfold gU;refine DN.2 (FT.2 ⟨ot,?_⟩);refine DN.2 (FT.2 ⟨ot,?_⟩);refine DP.2 ⟨λ_=>?_,λ_=>?_⟩
 .refine DN.2 ((AKV _ a).mono λy w=>?_);refine DN.2 (FT.2 ⟨ot,?_⟩);refine DN.2 (FT.2 ⟨ot,?_⟩);refine DN.2 ((zR.1 _ oa).mono λd b=>?_);refine DN.2 (FT.2 ⟨ot,?_⟩);exact DO.2 ot
 .refine DN.2 ((zR.1 _ oa).mono λd b=>?_);refine DN.2 (FT.2 ⟨ot,?_⟩);exact DO.2 ot
instance AKW:t6 M9 (λx=>x.2.2.2.2.1.length<=1048576) (λ_ r=>r.1.length<=200000):=⟨λx h=>by
 unfold M9;refine DN.2 ((bB _ h).mono λe h1=>?_);refine DP.2 ⟨λ_=>DO.2 oh,λa=>?_⟩;have h1:=h1 (by rw[DU]at a;simpa using a);refine DN.2 ((oH _ h1).mono λj b=>?_);exact DN.2 ((A6l _ b).mono λl d=>DO.2 d)⟩
def AKX(x:DW×Int×H9×Int)(h:(∀p,Tot (x.2.2.1 p) λ_=>True)/\0<=x.2.1/\x.2.1<=x.2.2.2/\x.2.2.2<x.1.length/\x.1.length<=1048576):
 Tot (u_ x) (λr:List (DM×DM)=>r.length=x.1.length/\∀q∈r,q∈x.1):=by
 refine ES (R:=λr:List (DM×DM)=>r.length=x.1.length/\∀q∈r,q∈x.1) (λy:DW×Int×H9×Int=>(∀p,Tot (y.2.2.1 p) λ_=>True)/\0<=y.2.1/\y.2.1<=y.2.2.2/\y.2.2.2<y.1.length/\y.1.length<=1048576/\y.1.length=x.1.length/\∀q∈y.1,q∈x.1)
  (λy=>y.2.2.2.toNat) ?_ _ _ ⟨h.1,h.2.1,h.2.2.1,h.2.2.2.1,h.2.2.2.2,rfl,λq a=>a⟩ (by obtain⟨_,_,_,_,_⟩:=h;unfold fuel;omega)
 rintro next ⟨d,e,l,j⟩ h w
 dsimp only at h w;obtain⟨h0,h1,A,B,C,m,b⟩:=h;unfold A3g;dsimp only;by_cases s:e<j
 .have z:i64.wrap (j-1)=j-1:=EI oa oa;simp only[z,A6 s,A7,BZ];refine DN.2 (EV.2 ⟨⟨oa,oa⟩,?_⟩);refine DN.2 (EV.2 ⟨⟨oa,oa⟩,?_⟩);refine DN.2 ((h0 _).mono λD _=>?_);refine DP.2 ⟨λ_=>?_,λ_=>DO.2 ⟨m,b⟩⟩;refine DN.2 (EV.2 ⟨⟨oa,oa⟩,?_⟩);refine DN.2 (EV.2 ⟨⟨oa,oa⟩,?_⟩);refine DN.2 (EV.2 ⟨⟨oa,oa⟩,?_⟩);refine DN.2 (EV.2 ⟨⟨oa,by rw[B2];omega⟩,?_⟩);refine w _ ⟨h0,h1,om,by simp only[B2];omega,by simp only[B2];omega,by simp only[B2];omega,λq a=>?_⟩ om;rcases EB a with a|rfl
  .rcases EB a with a|rfl
   .exact b q a
   .exact b _ (EA oa)
  .exact b _ (EA oa)
 .simp only[A9 s,A8,C_];refine DN.2 (DO.2 ?_);refine DN.2 (DO.2 ?_);refine DN.2 (DO.2 ?_);exact DO.2 ⟨m,b⟩
def AKY(x:DW×Int×Int×H9×Int)(h:(∀p,Tot (x.2.2.2.1 p) λ_=>True)/\0<=x.2.1/\x.2.1<=x.2.2.2.2/\x.2.2.1<=x.1.length/\x.2.2.2.2<=1048577/\x.1.length<=1048576):
 Tot (vA x) (λr:List (DM×DM)=>r.length=x.1.length/\∀q∈r,q∈x.1):=by
 refine ES (R:=λr:List (DM×DM)=>r.length=x.1.length/\∀q∈r,q∈x.1) (λy:DW×Int×Int×H9×Int=>(∀p,Tot (y.2.2.2.1 p) λ_=>True)/\0<=y.2.1/\y.2.1<=y.2.2.2.2/\y.2.2.1<=y.1.length/\y.2.2.2.2<=1048577/\y.1.length<=1048576/\y.1.length=x.1.length/\∀q∈y.1,q∈x.1)
  (λy=>(y.2.2.1-y.2.2.2.2).toNat) ?_ _ _ ⟨h.1,h.2.1,h.2.2.1,h.2.2.2.1,h.2.2.2.2.1,h.2.2.2.2.2,rfl,λq e=>e⟩ (by obtain⟨_,_,_,_,_,_⟩:=h;unfold fuel;omega)
 rintro next ⟨d,w,z,b,a⟩ h m
 dsimp only at h m;obtain⟨h0,h1,B,H,I,C,D,j⟩:=h;unfold A3h;dsimp only;refine DP.2 ⟨λl=>?_,λ_=>DO.2 ⟨D,j⟩⟩;have l:=AC l;have E:i64.wrap (a+1)=a+1:=EI oa oa;rw[E];refine DN.2 ((AKX _ ⟨h0,h1,B,om,C⟩).mono λr s=>?_);dsimp only at s;obtain⟨G,A⟩:=s;exact m _ ⟨h0,h1,om,om,om,om,om,λq e=>j q (A q e)⟩ om
instance A6m:t6 ZA (λx=>(∀p,Tot (x.2.2.2 p) λ_=>True)/\0<=x.2.1/\x.2.1<=1048576/\x.2.2.1<=x.1.length/\x.1.length<=1048576) (λx r=>r.length=x.1.length/\∀q∈r,q∈x.1):=⟨λx h=>by
 obtain⟨d,b,e,a⟩:=x;dsimp only at h;obtain⟨h0,h1,s,j,l⟩:=h;unfold ZA;dsimp only;rw[EI oa oa];exact DN.2 ((AKY _ ⟨h0,h1,om,j,om,l⟩).mono λr m=>DO.2 m)⟩
def AKZ(x:DW×Int×Int×Int×Int)(h:0<=x.2.1/\0<=x.2.2.1/\x.2.1+x.2.2.2.1<=x.1.length/\x.2.2.1+x.2.2.2.1<=x.1.length/\0<=x.2.2.2.2/\x.1.length<=1048576):
 Tot (vB x) (λr:List (DM×DM)=>r.length=x.1.length/\∀q∈r,q∈x.1):=by
 refine ES (R:=λr:List (DM×DM)=>r.length=x.1.length/\∀q∈r,q∈x.1) (λy:DW×Int×Int×Int×Int=>0<=y.2.1/\0<=y.2.2.1/\y.2.1+y.2.2.2.1<=y.1.length/\y.2.2.1+y.2.2.2.1<=y.1.length/\0<=y.2.2.2.2/\y.1.length<=1048576/\y.1.length=x.1.length/\∀q∈y.1,q∈x.1)
  (λy=>(y.2.2.2.1-y.2.2.2.2).toNat) ?_ _ _ ⟨h.1,h.2.1,h.2.2.1,h.2.2.2.1,h.2.2.2.2.1,h.2.2.2.2.2,rfl,λq b=>b⟩ (by obtain⟨_,_,_,_,_,_⟩:=h;unfold fuel;omega)
 rintro next ⟨j,d,e,C,a⟩ h z
 dsimp only at h z;obtain⟨h1,A,D,E,G,H,B,l⟩:=h;unfold A3i;dsimp only;refine DP.2 ⟨λw=>?_,λ_=>DO.2 ⟨B,l⟩⟩;have w:=AC w;have m:i64.wrap (d+a)=d+a:=EI oa oa;have p:i64.wrap (e+a)=e+a:=EI oa oa;have s:i64.wrap (a+1)=a+1:=EI oa oa;rw[m,p,s];refine DN.2 (EV.2 ⟨⟨oa,oa⟩,?_⟩);refine DN.2 (EV.2 ⟨⟨oa,oa⟩,?_⟩);refine DN.2 (EV.2 ⟨⟨oa,oa⟩,?_⟩);refine DN.2 (EV.2 ⟨⟨oa,by rw[B2];omega⟩,?_⟩);refine z _ ⟨h1,A,by simp only[B2];omega,by simp only[B2];omega,om,by simp only[B2];omega,by simp only[B2];omega,λq b=>?_⟩ om;rcases EB b with b|rfl
 .rcases EB b with b|rfl
  .exact l q b
  .exact l _ (EA oa)
 .exact l _ (EA oa)
def zS(x:DW×Int×Int×Int×H9)(h:0<=x.2.1/\0<=x.2.2.1/\x.2.1+x.2.2.2.1<=x.1.length/\x.2.2.1+x.2.2.2.1<=x.1.length/\x.1.length<=1048576):
 Tot (VM x) (λr:List (DM×DM)=>r.length=x.1.length/\∀q∈r,q∈x.1):=by
 obtain⟨d,b,e,w,a⟩:=x;obtain⟨h1,j,l,m,p⟩:=h;unfold VM;dsimp only;exact DN.2 ((AKZ _ ⟨h1,j,l,m,AS _,p⟩).mono λr s=>DO.2 s)
def AK_(x:DW×Int×H9×Int×Int)(h:0<x.2.2.2.1/\0<x.2.2.2.2/\x.2.2.2.1<=x.2.1/\x.2.1+x.2.2.2.2<=x.1.length/\x.1.length<=1048576):
 Tot (vC x) (λr:DW×Int=>r.1.length=x.1.length/\(∀q∈r.1,q∈x.1)/\0<r.2/\r.2<=x.2.1/\x.2.1+r.2<=x.1.length):=by
 refine ES (R:=λr:DW×Int=>r.1.length=x.1.length/\(∀q∈r.1,q∈x.1)/\0<r.2/\r.2<=x.2.1/\x.2.1+r.2<=x.1.length) (λy:DW×Int×H9×Int×Int=>0<y.2.2.2.1/\0<y.2.2.2.2/\y.2.2.2.1<=y.2.1/\y.2.1+y.2.2.2.2<=y.1.length/\y.1.length<=1048576/\y.1.length=x.1.length/\(∀q∈y.1,q∈x.1)/\y.2.1=x.2.1)
  (λy=>(y.2.2.2.1+y.2.2.2.2).toNat) ?_ _ _ ⟨h.1,h.2.1,h.2.2.1,h.2.2.2.1,h.2.2.2.2,rfl,(λq e=>e),rfl⟩ (by obtain⟨_,_,_,_,_⟩:=h;unfold fuel;omega)
 rintro next ⟨p,m,s,a,j⟩ h z
 dsimp only at h z;obtain⟨h1,I,J,L,G,K,w,H⟩:=h;unfold A3j;dsimp only;refine DP.2 ⟨λb=>?_,λb=>DO.2 ⟨K,w,h1,om,?_⟩⟩
 .have b:a≠j:=by rw[DU]at b;simpa using b
  have A:i64.wrap (m-a)=m-a:=EI oa oa;have B:i64.wrap (m+j)=m+j:=EI oa oa;have C:i64.wrap (m+j-a)=m+j-a:=EI oa oa;have D:i64.wrap (a-j)=a-j:=EI oa oa;have E:i64.wrap (j-a)=j-a:=EI oa oa;rw[A,B,C,D,E];refine DP.2 ⟨λd=>?_,λd=>?_⟩
  .have d:=AC d;refine DN.2 ((zS _ ⟨om,om,om,om,G⟩).mono λr l=>?_);dsimp only at l;exact z _ ⟨om,I,om,om,om,om,λq e=>w q (l.2 q e),H⟩ om
  .have d:=AG d;refine DN.2 ((zS _ ⟨om,om,om,om,G⟩).mono λr l=>?_);dsimp only at l;exact z _ ⟨h1,om,J,om,om,om,λq e=>w q (l.2 q e),H⟩ om
 .have b:a=j:=by rw[DU]at b;simpa using b
  omega
def AKa(x:DW×Int×Int×Int×H9)(h:0<=x.2.1/\x.2.1<x.2.2.1/\x.2.2.1<x.2.2.2.1/\x.2.2.2.1<=x.1.length/\x.1.length<=1048576):
 Tot (gK x) (λr:List (DM×DM)=>r.length=x.1.length/\∀q∈r,q∈x.1):=by
 obtain⟨d,b,m,e,j⟩:=x;dsimp only at h;obtain⟨h1,B,C,D,p⟩:=h;unfold gK;dsimp only;rw[EI (n:=m-b) oa oa,EI (n:=e-m) oa oa];refine DN.2 ((AK_ _ ⟨om,om,om,om,p⟩).mono λr a=>?_);dsimp only at a;obtain⟨w,l,y,z,A⟩:=a;rw[EI (n:=m-r.2) oa oa];refine DN.2 ((zS _ ⟨om,om,om,om,om⟩).mono λE a=>DO.2 ?_);dsimp only at a;exact⟨oa,λq s=>l q (a.2 q s)⟩
def S5{i j:Int}{Q:Int->Prop}(h1:0<=i)(d:0<=j)(l:i<=4611686018427387903)(m:j<=4611686018427387903)(h:Q ((i+j) / 2)):Tot (shr? u64 (u64.wrap (i64.wrap (i+j))) (1:Int)) Q:=by
 have e:i64.wrap (i+j)=i+j:=EI oa oa
 have a:u64.wrap (i+j)=i+j:=by
  simp only[IntKind.wrap,IntKind.bits,IntKind.signed];simp;omega
 rw[e,a]
 have b:(i+j).fdiv (2 ^ min (1:Int).toNat u64.bits)=(i+j) / 2:=by
  have:(2:Int) ^ min (1:Int).toNat u64.bits=2:=oi
  rw[this,DA _ oi]
 unfold shr?;rw[b];exact DO.2 h
def AKb(slf:DW×Int×Int×Int×H9->Option DW)(x:DW×Int×H9×Int×Int)(h:(∀p,Tot (x.2.2.1 p) λ_=>True)/\0<=x.2.1/\x.2.1<x.1.length/\0<=x.2.2.2.1/\x.2.2.2.1<=x.2.2.2.2/\x.2.2.2.2<=x.1.length/\x.1.length<=1048576):
 Tot (vD slf x) (λr:DW×Int=>r.1=x.1/\x.2.2.2.1<=r.2/\r.2<=x.2.2.2.2):=by
 refine ES (R:=λr:DW×Int=>r.1=x.1/\x.2.2.2.1<=r.2/\r.2<=x.2.2.2.2) (λy:DW×Int×H9×Int×Int=>(∀p,Tot (y.2.2.1 p) λ_=>True)/\0<=y.2.1/\y.2.1<y.1.length/\0<=y.2.2.2.1/\y.2.2.2.1<=y.2.2.2.2/\y.2.2.2.2<=y.1.length/\y.1.length<=1048576/\y.1=x.1/\x.2.2.2.1<=y.2.2.2.1/\y.2.2.2.2<=x.2.2.2.2)
  (λy=>(y.2.2.2.2-y.2.2.2.1).toNat) ?_ _ _ ⟨h.1,h.2.1,h.2.2.1,h.2.2.2.1,h.2.2.2.2.1,h.2.2.2.2.2.1,h.2.2.2.2.2.2,rfl,AS _,AS _⟩ (by obtain⟨_,_,_,_,_,_,_⟩:=h;unfold fuel;omega)
 rintro next ⟨d,C,b,a,j⟩ h m
 dsimp only at h m;obtain⟨h0,h1,z,D,H,E,A,e,B,G⟩:=h;unfold A3k;dsimp only;refine DP.2 ⟨λl=>?_,λl=>DO.2 ⟨e,B,om⟩⟩;have l:=AC l;refine DN.2 (S5 oa oa oa oa ?_);have s:i64.wrap ((a+j) / 2)=(a+j) / 2:=EI oa oa;have w:i64.wrap ((a+j) / 2+1)=(a+j) / 2+1:=EI oa oa;rw[s,w];refine DN.2 (EV.2 ⟨⟨oa,oa⟩,?_⟩);refine DN.2 (EV.2 ⟨⟨oa,oa⟩,?_⟩);refine DN.2 ((h0 _).mono λI _=>?_);refine DP.2 ⟨λ_=>?_,λ_=>?_⟩
 .exact m _ ⟨h0,h1,z,om,om,E,A,e,om,G⟩ om
 .exact m _ ⟨h0,h1,z,D,om,om,A,e,B,om⟩ om
def AKc(slf:DW×Int×Int×Int×H9->Option DW)(x:DW×Int×Int)(h:0<=x.2.1/\x.2.1<=x.1.length/\0<=x.2.2/\x.1.length<=1048576):
 Tot (vE slf x) (λr:List (DM×DM)=>r.length=x.1.length/\∀q∈r,q∈x.1):=by
 refine ES (R:=λr:List (DM×DM)=>r.length=x.1.length/\∀q∈r,q∈x.1) (λy:DW×Int×Int=>0<=y.2.1/\y.2.1<=y.1.length/\0<=y.2.2/\y.1.length<=1048576/\y.1.length=x.1.length/\∀q∈y.1,q∈x.1)
  (λy=>(y.2.1-y.2.2).toNat) ?_ _ _ ⟨h.1,h.2.1,h.2.2.1,h.2.2.2,rfl,λq b=>b⟩ (by obtain⟨_,_,_,_⟩:=h;unfold fuel;omega)
 rintro next ⟨e,d,a⟩ h m
 dsimp only at h m;obtain⟨h1,w,z,A,p,j⟩:=h;unfold A3l;dsimp only;rw[EI (n:=d-1) oa oa];refine DP.2 ⟨λl=>?_,λl=>DO.2 ⟨p,j⟩⟩;have l:=AC l;have s:i64.wrap (a+1)=a+1:=EI oa oa;rw[s];refine DN.2 (EV.2 ⟨⟨oa,oa⟩,?_⟩);refine DN.2 (EV.2 ⟨⟨oa,oa⟩,?_⟩);refine DN.2 (EV.2 ⟨⟨oa,oa⟩,?_⟩);refine DN.2 (EV.2 ⟨⟨oa,by rw[B2];omega⟩,?_⟩);refine m _ ⟨h1,by simp only[B2];omega,om,by simp only[B2];omega,by simp only[B2];omega,λq b=>?_⟩ om;rcases EB b with b|rfl
 .rcases EB b with b|rfl
  .exact j q b
  .exact j _ (EA oa)
 .exact j _ (EA oa)
def AKd(slf:DW×Int×Int×Int×H9->Option DW)(x:DW×Int×Int)(h:0<=x.2.1/\x.2.2<x.1.length/\x.1.length<=1048576):
 Tot (vG slf x) (λr:List (DM×DM)=>r.length=x.1.length/\∀q∈r,q∈x.1):=by
 refine ES (R:=λr:List (DM×DM)=>r.length=x.1.length/\∀q∈r,q∈x.1) (λy:DW×Int×Int=>0<=y.2.1/\y.2.2<y.1.length/\y.1.length<=1048576/\y.1.length=x.1.length/\∀q∈y.1,q∈x.1)
  (λy=>(y.2.2-y.2.1).toNat) ?_ _ _ ⟨h.1,h.2.1,h.2.2,rfl,λq b=>b⟩ (by obtain⟨_,_,_⟩:=h;unfold fuel;omega)
 rintro next ⟨d,m,a⟩ h l
 dsimp only at h l;obtain⟨h1,w,z,p,e⟩:=h;unfold A3n;dsimp only;refine DP.2 ⟨λj=>?_,λj=>DO.2 ⟨p,e⟩⟩;have j:=AC j;have s:i64.wrap (a-1)=a-1:=EI oa oa;rw[s];refine DN.2 (EV.2 ⟨⟨oa,oa⟩,?_⟩);refine DN.2 (EV.2 ⟨⟨oa,oa⟩,?_⟩);refine DN.2 (EV.2 ⟨⟨oa,oa⟩,?_⟩);refine DN.2 (EV.2 ⟨⟨oa,by rw[B2];omega⟩,?_⟩);refine l _ ⟨h1,by simp only[B2];omega,by simp only[B2];omega,by simp only[B2];omega,λq b=>?_⟩ om;rcases EB b with b|rfl
 .rcases EB b with b|rfl
  .exact e q b
  .exact e _ (EA oa)
 .exact e _ (EA oa)
def AKe(slf:DW×Int×Int×Int×H9->Option DW)(x:DW×Int×H9×Int×Int)(h:(∀p,Tot (x.2.2.1 p) λ_=>True)/\0<=x.2.1/\x.2.1<x.1.length/\0<=x.2.2.2.1/\x.2.2.2.1<=x.2.2.2.2/\x.2.2.2.2<=x.1.length/\x.1.length<=1048576):
 Tot (vF slf x) (λr:DW×Int=>r.1=x.1/\x.2.2.2.1<=r.2/\r.2<=x.2.2.2.2):=by
 refine ES (R:=λr:DW×Int=>r.1=x.1/\x.2.2.2.1<=r.2/\r.2<=x.2.2.2.2) (λy:DW×Int×H9×Int×Int=>(∀p,Tot (y.2.2.1 p) λ_=>True)/\0<=y.2.1/\y.2.1<y.1.length/\0<=y.2.2.2.1/\y.2.2.2.1<=y.2.2.2.2/\y.2.2.2.2<=y.1.length/\y.1.length<=1048576/\y.1=x.1/\x.2.2.2.1<=y.2.2.2.1/\y.2.2.2.2<=x.2.2.2.2)
  (λy=>(y.2.2.2.2-y.2.2.2.1).toNat) ?_ _ _ ⟨h.1,h.2.1,h.2.2.1,h.2.2.2.1,h.2.2.2.2.1,h.2.2.2.2.2.1,h.2.2.2.2.2.2,rfl,AS _,AS _⟩ (by obtain⟨_,_,_,_,_,_,_⟩:=h;unfold fuel;omega)
 rintro next ⟨d,G,b,a,j⟩ h m
 dsimp only at h m;obtain⟨h0,h1,z,C,I,D,A,e,B,E⟩:=h;unfold A3m;dsimp only;refine DP.2 ⟨λl=>?_,λl=>DO.2 ⟨e,B,om⟩⟩;have l:=AC l;refine DN.2 (S5 oa oa oa oa ?_);have s:i64.wrap ((a+j) / 2)=(a+j) / 2:=EI oa oa;have w:i64.wrap ((a+j) / 2+1)=(a+j) / 2+1:=EI oa oa;rw[s,w];refine DN.2 (EV.2 ⟨⟨oa,oa⟩,?_⟩);refine DN.2 (EV.2 ⟨⟨oa,oa⟩,?_⟩);refine DN.2 ((h0 _).mono λH _=>?_);refine DP.2 ⟨λ_=>?_,λ_=>?_⟩
 .exact m _ ⟨h0,h1,z,om,om,D,A,e,om,E⟩ om
 .exact m _ ⟨h0,h1,z,C,om,om,A,e,B,om⟩ om
def AKf(slf:DW×Int×Int×Int×H9->Option DW)(x:DW×H9×Int×Int×Int)(h:(∀p,Tot (x.2.1 p) λ_=>True)/\0<=x.2.2.1/\x.2.2.1<=x.2.2.2.1/\x.2.2.2.1<=x.1.length/\x.2.2.2.1-1<=x.2.2.2.2/\x.2.2.2.2-x.2.2.1<x.1.length/\x.1.length<=1048576):
 Tot (vH slf x) (λr:DW×Int=>r.1=x.1/\x.2.2.1<=r.2/\r.2<=x.2.2.2.1):=by
 refine ES (R:=λr:DW×Int=>r.1=x.1/\x.2.2.1<=r.2/\r.2<=x.2.2.2.1) (λy:DW×H9×Int×Int×Int=>(∀p,Tot (y.2.1 p) λ_=>True)/\0<=y.2.2.1/\y.2.2.1<=y.2.2.2.1/\y.2.2.2.1<=y.1.length/\y.2.2.2.1-1<=y.2.2.2.2/\y.2.2.2.2-y.2.2.1<y.1.length/\y.1.length<=1048576/\y.1=x.1/\x.2.2.1<=y.2.2.1/\y.2.2.2.1<=x.2.2.2.1)
  (λy=>(y.2.2.2.1-y.2.2.1).toNat) ?_ _ _ ⟨h.1,h.2.1,h.2.2.1,h.2.2.2.1,h.2.2.2.2.1,h.2.2.2.2.2.1,h.2.2.2.2.2.2,rfl,AS _,AS _⟩ (by obtain⟨_,_,_,_,_,_,_⟩:=h;unfold fuel;omega)
 rintro next ⟨d,e,s,a,b⟩ h m
 dsimp only at h m;obtain⟨h0,h1,I,D,E,G,B,j,C,H⟩:=h;unfold A3o;dsimp only;refine DP.2 ⟨λl=>?_,λl=>DO.2 ⟨j,C,om⟩⟩;have l:=AC l;refine DN.2 (S5 oa oa oa oa ?_);have w:i64.wrap ((s+a) / 2)=(s+a) / 2:=EI oa oa;have z:i64.wrap ((s+a) / 2+1)=(s+a) / 2+1:=EI oa oa;have A:i64.wrap (b-(s+a) / 2)=b-(s+a) / 2:=EI oa oa;rw[w,z,A];refine DN.2 (EV.2 ⟨⟨oa,oa⟩,?_⟩);refine DN.2 (EV.2 ⟨⟨oa,oa⟩,?_⟩);refine DN.2 ((h0 _).mono λJ _=>?_);refine DP.2 ⟨λ_=>?_,λ_=>?_⟩
 .exact m _ ⟨h0,om,om,D,E,om,B,j,om,H⟩ om
 .exact m _ ⟨h0,h1,om,om,om,G,B,j,C,om⟩ om
def AKg(slf:DW×Int×Int×Int×H9->Option DW)(x:DW×Int×H9×Int×Int×Bool)(h:x.1.length<=1048576/\(x.2.2.2.2.2=true->0<=x.2.2.2.1/\x.2.2.2.1<x.2.1/\x.2.1<x.2.2.2.2.1/\x.2.2.2.2.1<=x.1.length)):
 Tot (gM slf x) (λr:List (DM×DM)=>r.length=x.1.length/\∀q∈r,q∈x.1):=by
 obtain⟨d,z,a,s,e,b⟩:=x;dsimp only at h;unfold gM;dsimp only;refine DP.2 ⟨λp=>?_,λ_=>DO.2 ⟨rfl,λq w=>w⟩⟩;have⟨h1,j,l,m⟩:=h.2 p;exact DN.2 ((AKa _ ⟨h1,j,l,m,h.1⟩).mono λr y=>DO.2 y)
def AKh(slf:DW×Int×Int×Int×H9->Option DW)(K:Int)(H:∀y:DW×Int×Int×Int×H9,((∀p,Tot (y.2.2.2.2 p) λ_=>True)/\0<=y.2.1/\y.2.1<y.2.2.1/\y.2.2.1<y.2.2.2.1/\y.2.2.2.1<=y.1.length/\y.1.length<=1048576)->y.2.2.2.1-y.2.1<=K->Tot (slf y) (λr:List (DM×DM)=>r.length=y.1.length/\∀q∈r,q∈y.1))(x:DW×Int×Int×Int×H9)(h:(∀p,Tot (x.2.2.2.2 p) λ_=>True)/\0<=x.2.1/\x.2.1<x.2.2.1/\x.2.2.1<x.2.2.2.1/\x.2.2.2.1<=x.1.length/\x.1.length<=1048576)(O:x.2.2.2.1-x.2.1<=2*K):
 Tot (vI slf x) (λr:List (DM×DM)=>r.length=x.1.length/\∀q∈r,q∈x.1):=by
 obtain⟨d,b,m,l,w⟩:=x;dsimp only at h O;obtain⟨h0,h1,h2,h3,N,z⟩:=h;unfold vI;dsimp only;rw[EI (n:=m-b) oa oa,EI (n:=l-m) oa oa];refine DP.2 ⟨λ_=>?_,λ_=>DP.2 ⟨λ_=>?_,λ_=>?_⟩⟩
 .refine DN.2 ((AKb slf _ ⟨h0,h1,om,om,om,N,z⟩).mono λW a=>?_);dsimp only at a;obtain⟨j,C,D⟩:=a;refine DN.2 ((AKc slf _ ⟨om,by dsimp only;rw[j];omega,h1,by dsimp only;rw[j];exact z⟩).mono λX a=>DO.2 ?_);dsimp only at a;rw[j]at a;exact a
 .refine DN.2 ((AKe slf _ ⟨h0,om,om,h1,om,om,z⟩).mono λW a=>?_);dsimp only at a;obtain⟨j,C,D⟩:=a;refine DN.2 ((AKd slf _ ⟨om,by dsimp only;rw[j];omega,by dsimp only;rw[j];exact z⟩).mono λX a=>DO.2 ?_);dsimp only at a;rw[j]at a;exact a
 .refine DN.2 (S5 oa oa oa oa ?_);generalize G:(b+l) / 2=mid;rw[EI (n:=mid) oa oa,EI (n:=mid+m) oa oa,EI (n:=mid+m-1) oa oa]
  have Q:Tot (gL slf (b,m,l,mid,mid+m,decide (mid<m))) λr:Int×Int=>0<=r.1/\b<=r.1/\mid+m-l<=r.1/\r.1<=r.2/\r.2<=m/\r.2<=mid+m/\mid+m-1-r.1<d.length:=by
   unfold gL;dsimp only;refine DP.2 ⟨λe=>DO.2 ?_,λe=>DO.2 ?_⟩
   .have e:=AC e;rw[EI oa oa];dsimp only;omega
   .have e:=AG e;dsimp only;omega
  refine DN.2 (Q.mono λR a=>?_);obtain⟨f1,Y,Z,J,f5,f6,L⟩:=a;refine DN.2 ((AKf slf _ ⟨h0,f1,J,om,om,L,z⟩).mono λs a=>?_);dsimp only at a;obtain⟨j,C,D⟩:=a;rw[EI (n:=mid+m-s.2) oa oa];refine DN.2 ((AKg slf _ ⟨by dsimp only;rw[j];exact z,λe=>?_⟩).mono λB a=>?_)
  .dsimp only at e ⊢;rw[A5,BI,BI]at e;rw[j];omega
  dsimp only at a;rw[j]at a;obtain⟨M,E⟩:=a
  have A:Tot (gN slf (B,b,w,mid,s.2,decide (b<s.2)&&decide (s.2<mid))) λr:List (DM×DM)=>r.length=d.length/\∀q∈r,q∈d:=by
   unfold gN;dsimp only;refine DP.2 ⟨λe=>?_,λ_=>DO.2 ⟨M,E⟩⟩;rw[A5,BI,BI]at e;refine DN.2 ((H _ ⟨h0,h1,om,om,om,om⟩ om).mono λT a=>DO.2 ?_);dsimp only at a;exact⟨oa,λq A=>E q (a.2 q A)⟩
  refine DN.2 (A.mono λU a=>?_);obtain⟨k1,I⟩:=a;refine DP.2 ⟨λe=>?_,λ_=>DO.2 ⟨k1,I⟩⟩;rw[A5,BI,BI]at e;refine DN.2 ((H _ ⟨h0,om,om,om,om,om⟩ om).mono λV a=>DO.2 ?_);dsimp only at a;exact⟨oa,λq A=>I q (a.2 q A)⟩
def AKi:∀(n:Nat) (x:DW×Int×Int×Int×H9) (h:(∀p,Tot (x.2.2.2.2 p) λ_=>True)/\0<=x.2.1/\x.2.1<x.2.2.1/\x.2.2.1<x.2.2.2.1/\x.2.2.2.1<=x.1.length/\x.1.length<=1048576) (a:x.2.2.2.1-x.2.1<=2 ^ n),Tot (M8 n x) (λr:List (DM×DM)=>r.length=x.1.length/\∀q∈r,q∈x.1):=by
 intro n;induction n with
 |zero=>
  intro x h a;obtain⟨_,h1,e,j,_,_⟩:=h;rw[Int.pow_zero]at a;omega
 |succ n d=>
  intro x h a;refine AKh (M8 n) (2 ^ n) (λy b hk=>d y b hk) x h ?_;rw[Int.pow_succ]at a;omega
instance A6n:t6 ZB (λx=>(∀p,Tot (x.2.2.2.2 p) λ_=>True)/\0<=x.2.1/\x.2.1<x.2.2.1/\x.2.2.1<x.2.2.2.1/\x.2.2.2.1<=x.1.length/\x.1.length<=1048576) (λx r=>r.length=x.1.length/\∀q∈r,q∈x.1):=⟨λx h=>by
 unfold ZB;refine AKi 100 x h ?_;obtain⟨_,h1,a,b,d,e⟩:=h;have:(1048576:Int)<=2 ^ 100:=oi
 omega⟩
def AKj{s p:DM}(h:Lib.hasPrefix s p=true):p.length<=s.length:=(List.isPrefixOf_iff_prefix.1 h).length_le
instance A6o:t6 strings_HasPrefix (λ_=>True) (λx r=>r=true->x.2.length<=x.1.length):=⟨λx h=>DO.2 AKj⟩
theorem trimPrefix_len(s p:DM):(Lib.trimPrefix s p).length<=s.length:=by
 unfold Lib.trimPrefix;split
 .rw[BY];omega
 .exact AD _
def AKk(x:DM×DM)(h:True):Tot (strings_TrimPrefix x) (λr:DM=>r.length<=x.1.length):=DO.2 (trimPrefix_len _ _)
def AKl(x:DM×DM)(h:True):Tot (strings_CutPrefix x) (λr:DM×Bool=>r.1.length<=x.1.length):=DO.2 (trimPrefix_len _ _)
instance A6p:t6 strings_Cut (λx=>x.1.length<=1048576) (λx r=>r.1.length<=x.1.length/\r.2.1.length<=x.1.length):=⟨λx h=>by
 unfold strings_Cut IN;rw[A6 oa];refine DO.2 ?_;unfold Lib.cut;split
 .simp only[BG,BY];omega
 .simp⟩
def AKm(x:DM×Int)(h:x.1.length<=1048576):Tot (strings_LastIndexByte x) (λr:Int=>-1<=r/\r<x.1.length):=by
 unfold strings_LastIndexByte IN;rw[A6 oa];refine DO.2 ?_;have a:(⟨x.1.toArray⟩:ByteArray).size=x.1.length:=by simp[ByteArray.size]
 rcases Lib.lastIndexByte_spec ⟨x.1.toArray⟩ x.2 with⟨e,_⟩|⟨i,hi,e,_⟩<;>rw[e]<;>omega
def AKn:∀(k u m:Nat),u<10 ^ m->1<=m->(MR k u).length<=m:=by
 intro k;induction k with
 |zero=>intro u m _ _;simp[MR]
 |succ k e=>
  intro u m a d;simp only[MR];split
  .simpa using d
  .rename_i h;obtain⟨j,rfl⟩:∃j,m=j+1:=⟨m-1,oa⟩
   have b:1<=j:=by
    rcases j with _|j
    .simp at a;omega
    .omega
   have:=e (u / 10) j (by rw[Nat.pow_succ]at a;omega) b;simp only[AI,BN,C0];omega
def AKo:∀(k u:Nat),1<=k->1<=(MR k u).length:=by
 intro k u h;obtain⟨j,rfl⟩:∃j,k=j+1:=⟨k-1,oa⟩;simp only[MR];split<;>simp
instance KD:t6 strconv_Itoa (λ_=>True) (λx r=>1<=r.length/\r.length<=21/\(0<=x->x<=999999999999999999->r.length<=18)):=⟨λx h=>by
 refine DO.2 ⟨?_,A3E x,?_⟩
 .unfold RN;split
  .simp
  .exact AKo 20 _ oi
 .intro h0 h1;unfold RN;rw[if_neg oa];exact AKn 20 _ 18 (by have a:(10:Nat) ^ 18=1000000000000000000:=(oi);omega) oi⟩
def TV(b:UInt8):Prop:=48<=b.toNat/\b.toNat<=57
def AKp:∀(l:DM) (a k:Nat),(∀b∈l,TV b)->a<10 ^ k->l.length+k<=18->∃u,Lib.parseUint10 a l=.ok u/\u<10 ^ 18:=by
 intro l;induction l with
 |nil=>intro a k _ h1 h;exact⟨a,rfl,AO h1 (Nat.pow_le_pow_right oi (by simpa using h))⟩
 |cons c r p=>
  intro a k d h1 h;have s:r.length+1+k<=18:=by simpa using h
  have w:10 ^ k<=10 ^ 17:=Nat.pow_le_pow_right oi oa;have e:(10:Nat) ^ 17=100000000000000000:=oi
  have m:48<=c.toNat/\c.toNat<=57:=d c AE;simp only[Lib.parseUint10];rw[if_pos m,if_neg oa,if_neg oa];exact p _ (k+1) (λb j=>d b (AN _ j)) (by rw[Nat.pow_succ];omega) oa
def zT(s:DM)(h0:s≠[])(h:∀b∈s,TV b)(l:s.length<=18):∃u:Nat,Lib.atoiAll s=.ok (u:Int)/\u<1000000000000000000:=by
 cases s with
 |nil=>exact absurd rfl h0
 |cons c r=>
  have j:=h c AE;unfold TV at j;have⟨u,e,d⟩:=AKp (c::r) 0 0 h oi l;have a:(10:Nat) ^ 18=1000000000000000000:=oi
  rw[a]at d;refine⟨u,?_,d⟩;unfold Lib.atoiAll;simp only;rw[if_neg oa];unfold Lib.parseMag;rw[if_neg oh,e];simp only;rw[if_neg oa,if_neg oa,if_neg oa]
def AKq(x:DM)(h:x.length<=1048576):Tot (fC x) (λr:Int×Unit=>x≠[]->(∀b∈x,TV b)->x.length<=18->0<=r.1/\r.1<=999999999999999999):=by
 unfold fC IN;rw[A6 oa];show Tot (match Lib.atoiAll x with| .ok v=>some (v,())| .range=>some (Lib.atoiSat x,())|_=>some (0,())) _;cases e:Lib.atoiAll x with
 |ok v=>
  refine DO.2 λh1 d j=>?_;have⟨u,a,l⟩:=zT x h1 d j;rw[e]at a;injection a with a;subst a;dsimp only;omega
 |range=>exact DO.2 λh1 d j=>by have⟨u,a,_⟩:=zT x h1 d j;rw[e]at a;cases a
 |_=>exact DO.2 λh1 d j=>by have⟨u,a,_⟩:=zT x h1 d j;rw[e]at a;cases a
instance AKr:t6 strings_Repeat (λx=>x.1.length=1/\0<=x.2/\x.2<=1048576) (λx r=>(r.length:Int)=x.2):=⟨λx h=>by
 unfold strings_Repeat IN;rw[A6 (by rw[h.1];omega)];refine DO.2 ?_;rw[Lib.repeatL_length,h.1];omega⟩
def AKs(r:Int):(Lib.encodeRune r).length<=4:=by
 unfold Lib.encodeRune Lib.encodeRuneZ;rw[AX]
 repeat' split
 all_goals simp
def AKt(f:Int->Int):∀(n:Nat) (l:DM),(Lib.mapGoD f n l).length<=4*n:=by
 intro n;induction n with
 |zero=>intro l;simp[Lib.mapGoD]
 |succ n a=>
  intro l;simp only[Lib.mapGoD];split
  .simp
  .rw[AI];have h1:=a (l.drop (Lib.decodeL l).2)
   have h:(if 0<=f (Lib.decodeL l).1 then Lib.encodeRune (f (Lib.decodeL l).1)else []).length<=4:=by
    split
    .exact AKs _
    .simp
   omega
instance A6q:t6 YQ (λx=>x.length<=1048576) (λx r=>r.length<=4*x.length):=⟨λx h=>by
 unfold YQ IN;rw[A6 oa];have h1:(Lib.toLowerD x).length<=4*x.length:=AKt _ _ _;show Tot (str? _) _;unfold str?;rw[A6 oa];exact DO.2 h1⟩
def AKu(p:Nat->Bool)(s:ByteArray):∀(f pos:Nat) (st:Option Nat) (b:List (Nat×Nat)),(Lib.spansFromP p s f pos st b).1.length<=b.length+f:=by
 intro f;induction f with
 |zero=>intro pos st b;simp[Lib.spansFromP]
 |succ f d=>
  intro pos st b;simp only[Lib.spansFromP];split
  .split
   .cases st with
    |some a=>have:=d (pos+(Utf8.decode s pos).2) none (b++[(a,pos)]);simp only[AI,BN,C0]at this ⊢;omega
    |none=>have:=d (pos+(Utf8.decode s pos).2) none b;dsimp only;omega
   .cases st with
    |some a=>have:=d (pos+(Utf8.decode s pos).2) (some a) b;dsimp only;omega
    |none=>have:=d (pos+(Utf8.decode s pos).2) (some pos) b;dsimp only;omega
  .simp
def AKv(p:Nat->Bool)(s:ByteArray):(Lib.goFieldsP p s).length<=s.size+1:=by
 unfold Lib.goFieldsP Lib.spansOfP Lib.closeSpans;rw[AX];have:=AKu p s s.size 0 none [];simp only[C0]at this;split
 .rw[AI];simp only[BN,C0];omega
 .omega
def AKw(p:Nat->Bool)(s:ByteArray):∀b∈Lib.goFieldsP p s,b.size<=s.size:=by
 intro b h;unfold Lib.goFieldsP at h;obtain⟨x,_,rfl⟩:=C1.1 h;rw[CE];omega
def AKx(x:DM×MY)(h:x.1.length<=1048576/\∀c,Tot (x.2 c) λ_=>True):Tot (VD x) (λr:List DM=>r.length<=x.1.length+1/\∀s∈r,s.length<=x.1.length):=by
 have d:(⟨x.1.toArray⟩:ByteArray).size=x.1.length:=by simp[ByteArray.size]
 have a:=λp=>AKv p ⟨x.1.toArray⟩;rw[d]at a;unfold VD IN;rw[@decide_eq_true _ (Classical.propDecidable _) ⟨oa,λr _=>let ⟨b,e,_⟩:=h.2 r;⟨b,e⟩,by have:=a λr=>(x.2 (r:Int)).getD false;omega⟩];refine DO.2 ⟨?_,?_⟩
 .rw[AX];exact a _
 .intro s h1;obtain⟨b,j,rfl⟩:=C1.1 h1;have:=AKw _ _ b j;rw[d]at this;have e:b.data.toList.length=b.size:=by rw[BE];rfl
  omega
abbrev Nm(n:Int):Prop:=0<=n/\n<=999999999999999999
abbrev Nm1(n:Int):Prop:=-1<=n/\n<=999999999999999999
abbrev LS(l:List DM):Prop:=l.length<=1002/\∀s∈l,s.length<=1000
abbrev NS(l:List Int):Prop:=l.length<=1002/\∀n∈l,0<=n/\n<=999999999999999999
abbrev TS(l:List LM):Prop:=l.length<=1002/\∀t∈l,t.2.1.length<=5000/\0<=t.2.2/\t.2.2<=999999999999999999
abbrev Dt:=(List Int)×(List DM)
abbrev Rv:=Int×DM×DM×Bool
abbrev Sg:=Int×(List Int)×Int×Int×Int×Int×(List DM)
abbrev Ql:=List LM
abbrev Vr:=Sum KO (Sum K7 (Sum FQ (Sum GZ (Sum Int Unit))))
abbrev oI(v:Dt):Prop:=v.1.length=3/\(∀n∈v.1,0<=n/\n<=999999999999999999)/\v.2.length<=1002/\∀s∈v.2,s.length<=1000
abbrev bC(v:Rv):Prop:=Nm v.1/\v.2.1.length<=1000/\v.2.2.1.length<=1000
abbrev OR(v:Sg):Prop:=Nm v.1/\NS v.2.1/\(0<=v.2.2.1/\v.2.2.1<=3)/\Nm v.2.2.2.1/\Nm1 v.2.2.2.2.1/\Nm1 v.2.2.2.2.2.1/\LS v.2.2.2.2.2.2
def MC(v:Vr):Prop:=match v with
 | .inl d=>oI d
 | .inr (.inl r)=>bC r
 | .inr (.inr (.inl s))=>OR s
 | .inr (.inr (.inr (.inl q)))=>TS q
 | .inr (.inr (.inr (.inr (.inl n))))=>Nm n
 | .inr (.inr (.inr (.inr (.inr _))))=>False
theorem AKy(d:Dt):MC (.inl d)=oI d:=rfl
theorem AKz(d:Rv):MC (.inr (.inl d))=bC d:=rfl
theorem AL0(d:Sg):MC (.inr (.inr (.inl d)))=OR d:=rfl
theorem AL1(d:Ql):MC (.inr (.inr (.inr (.inl d))))=TS d:=rfl
theorem AL2(d:Int):MC (.inr (.inr (.inr (.inr (.inl d)))))=Nm d:=rfl
theorem EL{α:Type}{l:List α}{i j:Nat}{a:α}:a∈(l.take i).drop j->a∈l:=λh=>List.mem_of_mem_take (List.mem_of_mem_drop h)
theorem EK{α:Type}(l:List α)(i j:Nat):((l.take i).drop j).length=min i l.length-j:=oh
def oJ{xs:List DM}{sep:DM}{m k c:Nat}:(∀s∈xs,s.length<=m)->xs.length<=k->sep.length<=c->(Lib.join xs sep).length<=k*(m+c):=λh hk a=>
 AM (zP sep m xs h) (Nat.mul_le_mul hk oa)
theorem EN(s:DM):DR s []=decide (s.length=0):=by rw[E1];cases s<;>simp
def AL3(x:DM×Int×MY×Int)(h:0<=x.2.2.2/\0<=x.2.1/\x.2.1+x.2.2.2<=x.1.length/\x.1.length<=1048576/\(∀c,Tot (x.2.2.1 c) λ_=>True)/\(∀j:Nat,x.2.1<=j->j<x.2.1+x.2.2.2->∀c,x.1[j]?=some c->x.2.2.1 (c.toNat:Int)=some true)):
 Tot (vQ x) (λr:Int=>x.2.2.2<=r/\x.2.1+r<=x.1.length/\(∀j:Nat,x.2.1<=j->j<x.2.1+r->∀c,x.1[j]?=some c->x.2.2.1 (c.toNat:Int)=some true)/\∀c,x.1[(x.2.1+r).toNat]?=some c->x.2.2.1 (c.toNat:Int)=some false):=by
 obtain⟨s,at_,f,n⟩:=x;dsimp only at h ⊢
 refine ES (R:=λr:Int=>n<=r/\at_+r<=s.length/\(∀j:Nat,at_<=j->j<at_+r->∀c,s[j]?=some c->f (c.toNat:Int)=some true)/\∀c,s[(at_+r).toNat]?=some c->f (c.toNat:Int)=some false)
  (λy:DM×Int×MY×Int=>y.1=s/\y.2.1=at_/\y.2.2.1=f/\n<=y.2.2.2/\at_+y.2.2.2<=s.length/\(∀j:Nat,at_<=j->j<at_+y.2.2.2->∀c,s[j]?=some c->f (c.toNat:Int)=some true)) (λy=>(s.length-at_-y.2.2.2).toNat) ?_ _ _ ⟨rfl,rfl,rfl,AS _,h.2.2.1,h.2.2.2.2.2⟩ (by unfold fuel;dsimp only;omega)
 rintro next ⟨J,d,K,m⟩ D H
 dsimp only at D H;obtain⟨rfl,rfl,rfl,h1,C,p⟩:=D;obtain⟨L,M,N,O,I,_⟩:=h;unfold A3w;dsimp only;rw[EI oa oa];by_cases G:d+m<J.length
 .rw[A6 G];simp only[A7,BZ];refine DN.2 (EJ.2 ⟨⟨oa,oa⟩,λb E=>?_⟩);have⟨r,B,_⟩:=I (b.toNat:Int);rw[B];refine DN.2 (DO.2 ?_);refine DP.2 ⟨λe=>?_,λe=>DO.2 ⟨h1,C,p,λc a=>?_⟩⟩
  .subst e;rw[EI oa oa];refine H _ ⟨rfl,rfl,rfl,om,om,?_⟩ om;intro j w z c l;dsimp only at z;by_cases A:(j:Int)<d+m
   .exact p j w A c l
   .have:j=(d+m).toNat:=oa
    subst this;rw[E]at l;cases l;exact B
  .subst e;rw[E]at a;cases a;exact B
 .rw[A9 G];simp only[A8,C_];refine DN.2 (DO.2 ?_);refine DN.2 (DO.2 ?_);refine DO.2 ⟨h1,C,p,λc a=>?_⟩;have:=(A4.1 a).1;omega
def oK(x:DM×Int×MY)(h:0<=x.2.1/\x.2.1<=x.1.length/\x.1.length<=1048576/\(∀c,Tot (x.2.2 c) λ_=>True)):
 Tot (I_ x) (λr:Int=>0<=r/\x.2.1+r<=x.1.length/\(∀j:Nat,x.2.1<=j->j<x.2.1+r->∀c,x.1[j]?=some c->x.2.2 (c.toNat:Int)=some true)/\∀c,x.1[(x.2.1+r).toNat]?=some c->x.2.2 (c.toNat:Int)=some false):=by
 obtain⟨s,a,f⟩:=x;dsimp only at h ⊢;unfold I_;refine DN.2 ((AL3 _ ⟨AS _,h.1,om,h.2.2.1,h.2.2.2,λj h1 b=>by dsimp only at h1 b;omega⟩).mono λr d=>DO.2 ?_);exact d
def AL4(x:DM×Int×MY)(h:0<=x.2.1/\x.2.1<=x.1.length/\x.1.length<=1048576/\(∀c,Tot (x.2.2 c) λ_=>True)):
 Tot (I_ x) (λr:Int=>0<=r/\x.2.1+r<=x.1.length):=(oK x h).mono λ_ a=>⟨a.1,a.2.1⟩
def N_(x:DM×Int×MY)(a:∀c,Tot (x.2.2 c) (λ_=>True))(h:0<=x.2.1/\x.2.1<=x.1.length/\x.1.length<=1048576):
 Tot (I_ x) (λr:Int=>0<=r/\x.2.1+r<=x.1.length):=AL4 x ⟨h.1,h.2.1,h.2.2,a⟩
instance:t6 I_ (λx=>(∀c,Tot (x.2.2 c) (λ_=>True))/\0<=x.2.1/\x.2.1<=x.1.length/\x.1.length<=1048576) (λx r=>0<=r/\x.2.1+r<=x.1.length):=⟨λx h=>N_ x h.1 h.2⟩
def clo{α a:Type}{f:α->Option a}{P:a->Prop}{c:α}(h:Tot (f c) P):Tot ((f c).bind λr=>some r) λ_=>True:=DN.2 (h.mono λ_ _=>DO.2 trivial)
def A6r(c:Int):Tot ((H0 c).bind λr=>some r) λ_=>True:=⟨_,rfl,trivial⟩
instance HG:t6 H0 (λ_=>True) (λ_ _=>True):=⟨λc h=>⟨_,rfl,trivial⟩⟩
instance JL:t6 N0 (λ_=>True) (λ_ _=>True):=⟨λc h=>⟨_,rfl,trivial⟩⟩
def AL5(c:Int)(h:True):Tot (vW c) λ_=>True:=⟨_,rfl,trivial⟩
def A6s(c:Int)(h:True):Tot (vZ c) λ_=>True:=⟨_,rfl,trivial⟩
def A6t(b:UInt8)(h:((H0 (b.toNat:Int)).bind λr=>some r)=some true):TV b:=by
 unfold H0 at h;simp at h;unfold TV;omega
instance LU:t6 KA (λs=>s.length<=1048576) (λ_ r=>0<=r.1/\r.1<=999999999999999999):=⟨λs h=>by
 unfold KA;dsimp only;cases x:(DR s []||decide ((18:Int)<(s.length:Int)))with
 |true=>simp only[B_,A8,Bool.true_or,A7];exact DN.2 (DO.2 (DO.2 oi))
 |false=>
  simp only[D8,A7,CD];refine DN.2 ((oK _ ⟨AS _,om,h,A6r⟩).mono λr l=>?_);refine DP.2 ⟨λ_=>DO.2 oi,λe=>?_⟩;refine DN.2 ((AKq s h).mono λz m=>DO.2 ?_);have a:=(BL.1 x);have y:r=s.length:=by simpa[DU]using e
  dsimp only at l;refine m (by simpa[E1]using a.1) (λb p=>?_) (by have:=AG a.2;omega);have⟨j,w,d⟩:=List.mem_iff_getElem.1 p;exact A6t b (l.2.2.1 j oa oa b (by rw[<-d];exact A1 w))⟩
def qE{p:Prop}(h:p:=by grind[fuel]):p:=h
def AL6(x:(List D_)×Int×HD×Int)(h:(∀p,Tot (x.2.2.1 p) λ_=>True)/\0<=x.2.1/\x.2.1<=x.2.2.2/\x.2.2.2<x.1.length/\x.1.length<=1048576):
 Tot (wN x) (λr:List D_=>r.length=x.1.length/\∀q∈r,q∈x.1):=by
 refine ES (R:=λr:List D_=>r.length=x.1.length/\∀q∈r,q∈x.1) (λy:(List D_)×Int×HD×Int=>(∀p,Tot (y.2.2.1 p) λ_=>True)/\0<=y.2.1/\y.2.1<=y.2.2.2/\y.2.2.2<y.1.length/\y.1.length<=1048576/\y.1.length=x.1.length/\∀q∈y.1,q∈x.1)
  (λy=>y.2.2.2.toNat) ?_ _ _ ⟨h.1,h.2.1,h.2.2.1,h.2.2.2.1,h.2.2.2.2,rfl,λq a=>a⟩ (by exact qE)
 rintro next ⟨d,b,e,j⟩ h m
 dsimp only at h m;obtain⟨h0,h1,A,B,C,s,l⟩:=h;unfold A4M;dsimp only;by_cases w:b<j
 .have z:i64.wrap (j-1)=j-1:=EI oa oa;simp only[z,A6 w,A7,BZ];refine DN.2 (EV.2 ⟨⟨oa,oa⟩,?_⟩);refine DN.2 (EV.2 ⟨⟨oa,oa⟩,?_⟩);refine DN.2 ((h0 _).mono λD _=>?_);refine DP.2 ⟨λ_=>?_,λ_=>DO.2 ⟨s,l⟩⟩;refine DN.2 (EV.2 ⟨⟨oa,oa⟩,?_⟩);refine DN.2 (EV.2 ⟨⟨oa,oa⟩,?_⟩);refine DN.2 (EV.2 ⟨⟨oa,oa⟩,?_⟩);refine DN.2 (EV.2 ⟨⟨oa,oc⟩,?_⟩);refine m _ ⟨h0,h1,oc,oc,oc,oc,λq a=>?_⟩ oc;rcases EB a with a|rfl
  .rcases EB a with a|rfl
   .exact l q a
   .exact l _ (EA oa)
  grind[EA]
 simp_all[A9,A8,C_,DN,DO]
theorem AL7(x:(List D_)×Int×Int×HD×Int)(h:(∀p,Tot (x.2.2.2.1 p) λ_=>True)/\0<=x.2.1/\x.2.1<=x.2.2.2.2/\x.2.2.1<=x.1.length/\x.2.2.2.2<=1048577/\x.1.length<=1048576):
 Tot (wO x) (λr:List D_=>r.length=x.1.length/\∀q∈r,q∈x.1):=by
 refine ES (R:=λr:List D_=>r.length=x.1.length/\∀q∈r,q∈x.1) (λy:(List D_)×Int×Int×HD×Int=>(∀p,Tot (y.2.2.2.1 p) λ_=>True)/\0<=y.2.1/\y.2.1<=y.2.2.2.2/\y.2.2.1<=y.1.length/\y.2.2.2.2<=1048577/\y.1.length<=1048576/\y.1.length=x.1.length/\∀q∈y.1,q∈x.1)
  (λy=>(y.2.2.1-y.2.2.2.2).toNat) ?_ _ _ ⟨h.1,h.2.1,h.2.2.1,h.2.2.2.1,h.2.2.2.2.1,h.2.2.2.2.2,rfl,λq B=>B⟩ (by exact qE)
 rintro next ⟨d,j,l,b,a⟩ h A
 dsimp only at h A;obtain⟨h0,h1,m,D,E,s,w,z⟩:=h;unfold A4N;dsimp only;refine DP.2 ⟨λe=>?_,λ_=>DO.2 ⟨w,z⟩⟩;have e:=AC e;have C:i64.wrap (a+1)=a+1:=EI oa oa;rw[C];refine DN.2 ((AL6 _ ⟨h0,h1,m,oc,s⟩).mono λr G=>?_);grind
instance A6u:t6 ZT (λx=>(∀p,Tot (x.2.2.2 p) λ_=>True)/\0<=x.2.1/\x.2.1<=1048576/\x.2.2.1<=x.1.length/\x.1.length<=1048576) (λx r=>r.length=x.1.length/\∀q∈r,q∈x.1):=⟨λx h=>by
 grind[ZT,EI,DN,AL7,DO]⟩
def AL8(x:(List D_)×Int×Int×Int×Int)(h:0<=x.2.1/\0<=x.2.2.1/\x.2.1+x.2.2.2.1<=x.1.length/\x.2.2.1+x.2.2.2.1<=x.1.length/\0<=x.2.2.2.2/\x.1.length<=1048576):
 Tot (wP x) (λr:List D_=>r.length=x.1.length/\∀q∈r,q∈x.1):=by
 refine ES (R:=λr:List D_=>r.length=x.1.length/\∀q∈r,q∈x.1) (λy:(List D_)×Int×Int×Int×Int=>0<=y.2.1/\0<=y.2.2.1/\y.2.1+y.2.2.2.1<=y.1.length/\y.2.2.1+y.2.2.2.1<=y.1.length/\0<=y.2.2.2.2/\y.1.length<=1048576/\y.1.length=x.1.length/\∀q∈y.1,q∈x.1)
  (λy=>(y.2.2.2.1-y.2.2.2.2).toNat) ?_ _ _ ⟨h.1,h.2.1,h.2.2.1,h.2.2.2.1,h.2.2.2.2.1,h.2.2.2.2.2,rfl,λq A=>A⟩ (by exact qE)
 rintro next ⟨e,b,d,B,a⟩ h z
 dsimp only at h z;obtain⟨h1,C,D,E,G,H,s,w⟩:=h;unfold A4O;dsimp only;refine DP.2 ⟨λp=>?_,λ_=>DO.2 ⟨s,w⟩⟩;have p:=AC p;have j:i64.wrap (b+a)=b+a:=EI oa oa;have l:i64.wrap (d+a)=d+a:=EI oa oa;have m:i64.wrap (a+1)=a+1:=EI oa oa;rw[j,l,m];refine DN.2 (EV.2 ⟨⟨oa,oa⟩,?_⟩);refine DN.2 (EV.2 ⟨⟨oa,oa⟩,?_⟩);refine DN.2 (EV.2 ⟨⟨oa,oa⟩,?_⟩);refine DN.2 (EV.2 ⟨⟨oa,oc⟩,?_⟩);grind
def zU(x:(List D_)×Int×Int×Int×HD)(h:0<=x.2.1/\0<=x.2.2.1/\x.2.1+x.2.2.2.1<=x.1.length/\x.2.2.1+x.2.2.2.1<=x.1.length/\x.1.length<=1048576):
 Tot (VR x) (λr:List D_=>r.length=x.1.length/\∀q∈r,q∈x.1):=by
 obtain⟨d,b,e,w,a⟩:=x;obtain⟨h1,j,l,m,p⟩:=h;unfold VR;dsimp only;exact DN.2 ((AL8 _ ⟨h1,j,l,m,AS _,p⟩).mono λr s=>DO.2 s)
def AL9(x:(List D_)×Int×HD×Int×Int)(h:0<x.2.2.2.1/\0<x.2.2.2.2/\x.2.2.2.1<=x.2.1/\x.2.1+x.2.2.2.2<=x.1.length/\x.1.length<=1048576):
 Tot (wQ x) (λr:(List D_)×Int=>r.1.length=x.1.length/\(∀q∈r.1,q∈x.1)/\0<r.2/\r.2<=x.2.1/\x.2.1+r.2<=x.1.length):=by
 refine ES (R:=λr:(List D_)×Int=>r.1.length=x.1.length/\(∀q∈r.1,q∈x.1)/\0<r.2/\r.2<=x.2.1/\x.2.1+r.2<=x.1.length) (λy:(List D_)×Int×HD×Int×Int=>0<y.2.2.2.1/\0<y.2.2.2.2/\y.2.2.2.1<=y.2.1/\y.2.1+y.2.2.2.2<=y.1.length/\y.1.length<=1048576/\y.1.length=x.1.length/\(∀q∈y.1,q∈x.1)/\y.2.1=x.2.1)
  (λy=>(y.2.2.2.1+y.2.2.2.2).toNat) ?_ _ _ ⟨h.1,h.2.1,h.2.2.1,h.2.2.2.1,h.2.2.2.2,rfl,(λq G=>G),rfl⟩ (by exact qE)
 rintro next ⟨d,m,l,a,j⟩ h E
 dsimp only at h E;obtain⟨h1,I,J,K,B,C,D,L⟩:=h;unfold A4P;dsimp only;refine DP.2 ⟨λe=>?_,λe=>DO.2 ⟨C,D,h1,oa,?_⟩⟩
 .have e:a≠j:=by rw[DU]at e;simpa using e
  have p:i64.wrap (m-a)=m-a:=EI oa oa;have s:i64.wrap (m+j)=m+j:=EI oa oa;have w:i64.wrap (m+j-a)=m+j-a:=EI oa oa;have z:i64.wrap (a-j)=a-j:=EI oa oa;have A:i64.wrap (j-a)=j-a:=EI oa oa;rw[p,s,w,z,A];refine DP.2 ⟨λb=>?_,λb=>?_⟩
  .have b:=AC b;refine DN.2 ((zU _ ⟨oc,oc,oc,oa,B⟩).mono λr H=>?_);grind
  .have b:=AG b;refine DN.2 ((zU _ ⟨oc,oc,oc,oc,B⟩).mono λr H=>?_);grind
 grind[DU]
theorem ALA(x:(List D_)×Int×Int×Int×HD)(h:0<=x.2.1/\x.2.1<x.2.2.1/\x.2.2.1<x.2.2.2.1/\x.2.2.2.1<=x.1.length/\x.1.length<=1048576):
 Tot (jG x) (λr:List D_=>r.length=x.1.length/\∀q∈r,q∈x.1):=by
 obtain⟨d,a,m,b,e⟩:=x;dsimp only at h;obtain⟨h1,A,B,C,l⟩:=h;unfold jG;dsimp only;rw[EI (n:=m-a) oa oa,EI (n:=b-m) oa oa];refine DN.2 ((AL9 _ ⟨oc,oc,oc,oc,l⟩).mono λr j=>?_);dsimp only at j;obtain⟨p,s,w,y,z⟩:=j;rw[EI (n:=m-r.2) oa oa];refine DN.2 ((zU _ ⟨oc,oc,oc,oc,oc⟩).mono λD j=>DO.2 ?_);grind
def ALB(slf:(List D_)×Int×Int×Int×HD->Option (List D_))(x:(List D_)×Int×HD×Int×Int)(h:(∀p,Tot (x.2.2.1 p) λ_=>True)/\0<=x.2.1/\x.2.1<x.1.length/\0<=x.2.2.2.1/\x.2.2.2.1<=x.2.2.2.2/\x.2.2.2.2<=x.1.length/\x.1.length<=1048576):
 Tot (wR slf x) (λr:(List D_)×Int=>r.1=x.1/\x.2.2.2.1<=r.2/\r.2<=x.2.2.2.2):=by
 refine ES (R:=λr:(List D_)×Int=>r.1=x.1/\x.2.2.2.1<=r.2/\r.2<=x.2.2.2.2) (λy:(List D_)×Int×HD×Int×Int=>(∀p,Tot (y.2.2.1 p) λ_=>True)/\0<=y.2.1/\y.2.1<y.1.length/\0<=y.2.2.2.1/\y.2.2.2.1<=y.2.2.2.2/\y.2.2.2.2<=y.1.length/\y.1.length<=1048576/\y.1=x.1/\x.2.2.2.1<=y.2.2.2.1/\y.2.2.2.2<=x.2.2.2.2)
  (λy=>(y.2.2.2.2-y.2.2.2.1).toNat) ?_ _ _ ⟨h.1,h.2.1,h.2.2.1,h.2.2.2.1,h.2.2.2.2.1,h.2.2.2.2.2.1,h.2.2.2.2.2.2,rfl,AS _,AS _⟩ (by exact qE)
 rintro next ⟨d,s,b,a,j⟩ h A
 dsimp only at h A;obtain⟨h0,h1,B,C,D,E,G,w,z,H⟩:=h;unfold A4Q;dsimp only;refine DP.2 ⟨λe=>?_,λe=>DO.2 ⟨w,z,oa⟩⟩;have e:=AC e;refine DN.2 (S5 oa oa oa oa ?_);have l:i64.wrap ((a+j) / 2)=(a+j) / 2:=EI oa oa;have m:i64.wrap ((a+j) / 2+1)=(a+j) / 2+1:=EI oa oa;rw[l,m];refine DN.2 (EV.2 ⟨⟨oa,oa⟩,?_⟩);refine DN.2 (EV.2 ⟨⟨oa,oa⟩,?_⟩);refine DN.2 ((h0 _).mono λI _=>?_);grind
theorem ALC(slf:(List D_)×Int×Int×Int×HD->Option (List D_))(x:(List D_)×Int×Int)(h:0<=x.2.1/\x.2.1<=x.1.length/\0<=x.2.2/\x.1.length<=1048576):
 Tot (wS slf x) (λr:List D_=>r.length=x.1.length/\∀q∈r,q∈x.1):=by
 refine ES (R:=λr:List D_=>r.length=x.1.length/\∀q∈r,q∈x.1) (λy:(List D_)×Int×Int=>0<=y.2.1/\y.2.1<=y.1.length/\0<=y.2.2/\y.1.length<=1048576/\y.1.length=x.1.length/\∀q∈y.1,q∈x.1)
  (λy=>(y.2.1-y.2.2).toNat) ?_ _ _ ⟨h.1,h.2.1,h.2.2.1,h.2.2.2,rfl,λq p=>p⟩ (by exact qE)
 rintro next ⟨d,b,a⟩ h m
 dsimp only at h m;obtain⟨h1,w,z,A,j,l⟩:=h;unfold A4R;dsimp only;rw[EI (n:=b-1) oa oa];refine DP.2 ⟨λe=>?_,λe=>DO.2 ⟨j,l⟩⟩;have e:=AC e;have s:i64.wrap (a+1)=a+1:=EI oa oa;rw[s];refine DN.2 (EV.2 ⟨⟨oa,oa⟩,?_⟩);refine DN.2 (EV.2 ⟨⟨oa,oa⟩,?_⟩);refine DN.2 (EV.2 ⟨⟨oa,oa⟩,?_⟩);refine DN.2 (EV.2 ⟨⟨oa,oc⟩,?_⟩);grind
theorem ALD(slf:(List D_)×Int×Int×Int×HD->Option (List D_))(x:(List D_)×Int×Int)(h:0<=x.2.1/\x.2.2<x.1.length/\x.1.length<=1048576):
 Tot (wU slf x) (λr:List D_=>r.length=x.1.length/\∀q∈r,q∈x.1):=by
 refine ES (R:=λr:List D_=>r.length=x.1.length/\∀q∈r,q∈x.1) (λy:(List D_)×Int×Int=>0<=y.2.1/\y.2.2<y.1.length/\y.1.length<=1048576/\y.1.length=x.1.length/\∀q∈y.1,q∈x.1)
  (λy=>(y.2.2-y.2.1).toNat) ?_ _ _ ⟨h.1,h.2.1,h.2.2,rfl,λq b=>b⟩ (by exact qE)
 rintro next ⟨d,m,a⟩ h l
 dsimp only at h l;obtain⟨h1,w,z,p,e⟩:=h;unfold A4T;dsimp only;refine DP.2 ⟨λj=>?_,λj=>DO.2 ⟨p,e⟩⟩;have j:=AC j;have s:i64.wrap (a-1)=a-1:=EI oa oa;rw[s];refine DN.2 (EV.2 ⟨⟨oa,oa⟩,?_⟩);refine DN.2 (EV.2 ⟨⟨oa,oa⟩,?_⟩);refine DN.2 (EV.2 ⟨⟨oa,oa⟩,?_⟩);refine DN.2 (EV.2 ⟨⟨oa,oc⟩,?_⟩);refine l _ ⟨h1,oc,oc,oc,λq b=>?_⟩ oc;rcases EB b with b|rfl
 .rcases EB b with b|rfl
  .exact e q b
  .exact e _ (EA oa)
 grind[EA]
def ALE(slf:(List D_)×Int×Int×Int×HD->Option (List D_))(x:(List D_)×Int×HD×Int×Int)(h:(∀p,Tot (x.2.2.1 p) λ_=>True)/\0<=x.2.1/\x.2.1<x.1.length/\0<=x.2.2.2.1/\x.2.2.2.1<=x.2.2.2.2/\x.2.2.2.2<=x.1.length/\x.1.length<=1048576):
 Tot (wT slf x) (λr:(List D_)×Int=>r.1=x.1/\x.2.2.2.1<=r.2/\r.2<=x.2.2.2.2):=by
 refine ES (R:=λr:(List D_)×Int=>r.1=x.1/\x.2.2.2.1<=r.2/\r.2<=x.2.2.2.2) (λy:(List D_)×Int×HD×Int×Int=>(∀p,Tot (y.2.2.1 p) λ_=>True)/\0<=y.2.1/\y.2.1<y.1.length/\0<=y.2.2.2.1/\y.2.2.2.1<=y.2.2.2.2/\y.2.2.2.2<=y.1.length/\y.1.length<=1048576/\y.1=x.1/\x.2.2.2.1<=y.2.2.2.1/\y.2.2.2.2<=x.2.2.2.2)
  (λy=>(y.2.2.2.2-y.2.2.2.1).toNat) ?_ _ _ ⟨h.1,h.2.1,h.2.2.1,h.2.2.2.1,h.2.2.2.2.1,h.2.2.2.2.2.1,h.2.2.2.2.2.2,rfl,AS _,AS _⟩ (by exact qE)
 rintro next ⟨d,A,b,a,j⟩ h z
 dsimp only at h z;obtain⟨h0,h1,C,D,E,G,H,s,w,I⟩:=h;unfold A4S;dsimp only;refine DP.2 ⟨λe=>?_,λe=>DO.2 ⟨s,w,oa⟩⟩;have e:=AC e;refine DN.2 (S5 oa oa oa oa ?_);have l:i64.wrap ((a+j) / 2)=(a+j) / 2:=EI oa oa;have m:i64.wrap ((a+j) / 2+1)=(a+j) / 2+1:=EI oa oa;rw[l,m];refine DN.2 (EV.2 ⟨⟨oa,oa⟩,?_⟩);refine DN.2 (EV.2 ⟨⟨oa,oa⟩,?_⟩);refine DN.2 ((h0 _).mono λB _=>?_);grind
def ALF(slf:(List D_)×Int×Int×Int×HD->Option (List D_))(x:(List D_)×HD×Int×Int×Int)(h:(∀p,Tot (x.2.1 p) λ_=>True)/\0<=x.2.2.1/\x.2.2.1<=x.2.2.2.1/\x.2.2.2.1<=x.1.length/\x.2.2.2.1-1<=x.2.2.2.2/\x.2.2.2.2-x.2.2.1<x.1.length/\x.1.length<=1048576):
 Tot (wV slf x) (λr:(List D_)×Int=>r.1=x.1/\x.2.2.1<=r.2/\r.2<=x.2.2.2.1):=by
 refine ES (R:=λr:(List D_)×Int=>r.1=x.1/\x.2.2.1<=r.2/\r.2<=x.2.2.2.1) (λy:(List D_)×HD×Int×Int×Int=>(∀p,Tot (y.2.1 p) λ_=>True)/\0<=y.2.2.1/\y.2.2.1<=y.2.2.2.1/\y.2.2.2.1<=y.1.length/\y.2.2.2.1-1<=y.2.2.2.2/\y.2.2.2.2-y.2.2.1<y.1.length/\y.1.length<=1048576/\y.1=x.1/\x.2.2.1<=y.2.2.1/\y.2.2.2.1<=x.2.2.2.1)
  (λy=>(y.2.2.2.1-y.2.2.1).toNat) ?_ _ _ ⟨h.1,h.2.1,h.2.2.1,h.2.2.2.1,h.2.2.2.2.1,h.2.2.2.2.2.1,h.2.2.2.2.2.2,rfl,AS _,AS _⟩ (by exact qE)
 rintro next ⟨d,e,s,a,b⟩ h B
 dsimp only at h B;obtain⟨h0,h1,C,D,E,G,H,z,A,I⟩:=h;unfold A4U;dsimp only;refine DP.2 ⟨λj=>?_,λj=>DO.2 ⟨z,A,oa⟩⟩;have j:=AC j;refine DN.2 (S5 oa oa oa oa ?_);have l:i64.wrap ((s+a) / 2)=(s+a) / 2:=EI oa oa;have m:i64.wrap ((s+a) / 2+1)=(s+a) / 2+1:=EI oa oa;have w:i64.wrap (b-(s+a) / 2)=b-(s+a) / 2:=EI oa oa;rw[l,m,w];refine DN.2 (EV.2 ⟨⟨oa,oa⟩,?_⟩);refine DN.2 (EV.2 ⟨⟨oa,oa⟩,?_⟩);refine DN.2 ((h0 _).mono λJ _=>?_);grind
def ALG(slf:(List D_)×Int×Int×Int×HD->Option (List D_))(x:(List D_)×Int×HD×Int×Int×Bool)(h:x.1.length<=1048576/\(x.2.2.2.2.2=true->0<=x.2.2.2.1/\x.2.2.2.1<x.2.1/\x.2.1<x.2.2.2.2.1/\x.2.2.2.2.1<=x.1.length)):
 Tot (jI slf x) (λr:List D_=>r.length=x.1.length/\∀q∈r,q∈x.1):=by
 obtain⟨d,m,a,s,e,b⟩:=x;dsimp only at h;unfold jI;dsimp only;refine DP.2 ⟨λl=>?_,λ_=>DO.2 ⟨rfl,λq j=>j⟩⟩;grind[DN,ALA,DO]
def ALH(slf:(List D_)×Int×Int×Int×HD->Option (List D_))(K:Int)(D:∀y:(List D_)×Int×Int×Int×HD,((∀p,Tot (y.2.2.2.2 p) λ_=>True)/\0<=y.2.1/\y.2.1<y.2.2.1/\y.2.2.1<y.2.2.2.1/\y.2.2.2.1<=y.1.length/\y.1.length<=1048576)->y.2.2.2.1-y.2.1<=K->Tot (slf y) (λr:List D_=>r.length=y.1.length/\∀q∈r,q∈y.1))(x:(List D_)×Int×Int×Int×HD)(h:(∀p,Tot (x.2.2.2.2 p) λ_=>True)/\0<=x.2.1/\x.2.1<x.2.2.1/\x.2.2.1<x.2.2.2.1/\x.2.2.2.1<=x.1.length/\x.1.length<=1048576)(L:x.2.2.2.1-x.2.1<=2*K):
 Tot (wW slf x) (λr:List D_=>r.length=x.1.length/\∀q∈r,q∈x.1):=by
 obtain⟨d,b,m,e,s⟩:=x;dsimp only at h L;obtain⟨h0,h1,h2,h3,J,w⟩:=h;unfold wW;dsimp only;rw[EI (n:=m-b) oa oa,EI (n:=e-m) oa oa];refine DP.2 ⟨λ_=>?_,λ_=>DP.2 ⟨λ_=>?_,λ_=>?_⟩⟩
 .refine DN.2 ((ALB slf _ ⟨h0,h1,oc,oc,oc,J,w⟩).mono λU a=>?_);grind[DN,ALC,DO]
 .refine DN.2 ((ALE slf _ ⟨h0,oc,oc,h1,oc,oc,w⟩).mono λU a=>?_);grind[DN,ALD,DO]
 .refine DN.2 (S5 oa oa oa oa ?_);generalize C:(b+e) / 2=mid;rw[EI (n:=mid) oa oa,EI (n:=mid+m) oa oa,EI (n:=mid+m-1) oa oa]
  have M:Tot (jH slf (b,m,e,mid,mid+m,decide (mid<m))) λr:Int×Int=>0<=r.1/\b<=r.1/\mid+m-e<=r.1/\r.1<=r.2/\r.2<=m/\r.2<=mid+m/\mid+m-1-r.1<d.length:=by
   unfold jH;dsimp only;refine DP.2 ⟨λl=>DO.2 ?_,λl=>DO.2 ?_⟩
   .have l:=AC l;grind[EI]
   .grind
  refine DN.2 (M.mono λO a=>?_);obtain⟨f1,X,Y,G,Z,f6,H⟩:=a;refine DN.2 ((ALF slf _ ⟨h0,f1,G,oc,oc,H,w⟩).mono λj a=>?_);dsimp only at a;obtain⟨E,V,W⟩:=a;rw[EI (n:=mid+m-j.2) oa oa];refine DN.2 ((ALG slf _ ⟨oc,λl=>?_⟩).mono λA a=>?_)
  .grind
  dsimp only at a;rw[E]at a;obtain⟨I,B⟩:=a
  have z:Tot (jJ slf (A,b,s,mid,j.2,decide (b<j.2)&&decide (j.2<mid))) λr:List D_=>r.length=d.length/\∀q∈r,q∈d:=by
   unfold jJ;dsimp only;refine DP.2 ⟨λl=>?_,λ_=>DO.2 ⟨I,B⟩⟩;rw[A5,BI,BI]at l;refine DN.2 ((D _ ⟨h0,h1,oc,oc,oc,oc⟩ oc).mono λQ a=>DO.2 ?_);dsimp only at a;exact⟨oa,λq z=>B q (a.2 q z)⟩
  refine DN.2 (z.mono λR a=>?_);obtain⟨k1,N⟩:=a;refine DP.2 ⟨λl=>?_,λ_=>DO.2 ⟨k1,N⟩⟩;rw[A5,BI,BI]at l;refine DN.2 ((D _ ⟨h0,oc,oc,oc,oc,oc⟩ oc).mono λT a=>DO.2 ?_);grind
theorem ALI:∀(n:Nat) (x:(List D_)×Int×Int×Int×HD) (h:(∀p,Tot (x.2.2.2.2 p) λ_=>True)/\0<=x.2.1/\x.2.1<x.2.2.1/\x.2.2.1<x.2.2.2.1/\x.2.2.2.1<=x.1.length/\x.1.length<=1048576) (a:x.2.2.2.1-x.2.1<=2 ^ n),Tot (MA n x) (λr:List D_=>r.length=x.1.length/\∀q∈r,q∈x.1):=by
 intro n;induction n with
 |zero=>
  omega
 |succ n d=>
  intro x h a;refine ALH (MA n) (2 ^ n) (λy b hk=>d y b hk) x h ?_;omega
instance A6v:t6 ZU (λx=>(∀p,Tot (x.2.2.2.2 p) λ_=>True)/\0<=x.2.1/\x.2.1<x.2.2.1/\x.2.2.1<x.2.2.2.1/\x.2.2.2.1<=x.1.length/\x.1.length<=1048576) (λx r=>r.length=x.1.length/\∀q∈r,q∈x.1):=⟨λx h=>by
 unfold ZU;grind[ALI]⟩
theorem A6w:∀(x y:DM),Op.bytesLess x y=decide (x<y):=by
 intro x;induction x with
 |nil=>intro y;cases y<;>simp[Op.bytesLess]
 |cons a x e=>
  intro y;cases y with
  |nil=>simp[Op.bytesLess]
  |cons b y=>
   rw[Op.bytesLess,e y];simp only[List.cons_lt_cons_iff];by_cases h1:a<b<;>by_cases h:a=b<;>by_cases d:x<y<;>simp[h1,h,d]
theorem N6(a:DM):¬a<a:=List.lt_irrefl a
def bD{a b c:DM}(h1:a<b)(h:b<c):a<c:=List.lt_trans h1 h
theorem oL(a b:DM):a<b\/a=b\/b<a:=by
 by_cases h1:a<b
 .exact Or.inl h1
 .by_cases h:b<a
  .exact Or.inr (Or.inr h)
  .exact Or.inr (Or.inl (List.le_antisymm (List.not_lt.1 h) (List.not_lt.1 h1)))
def A6x{a b c:DM}(h1:¬a<b)(e:¬b<c):¬a<c:=by
 intro h;rcases oL a b with d|d|d
 .exact h1 d
 .subst d;exact e h
 .exact e (bD d h)
theorem oM{a b:DM}(h1:a<b):¬b<a:=λh=>N6 a (bD h1 h)
def J9(a b:DM):Int:=if a<b then -1 else if a=b then 0 else 1
theorem bE(a b:DM):LP (a,b)=some (J9 a b):=by
 unfold LP VJ J9;have e:∀s:DM,DR s s=true:=λs=>by rw[E1];simp
 simp only[e,B_,A0,A8,A6w,E1];by_cases h:a=b
 .subst h;simp[N6]
 .by_cases h1:a<b<;>simp[h1,h]
theorem WJ(a b:DM):J9 a b<0<->a<b:=by
 unfold J9;by_cases h:a=b
 .subst h;simp[N6]
 .by_cases h1:a<b<;>simp[h1,h]
def O0(a b:Int):Int:=if a<b then -1 else if b<a then 1 else 0
theorem oN(a b:Int):PZ (a,b)=some (O0 a b):=by
 unfold PZ fX O0;have e:∀s:Int,DQ s s=true:=λs=>by rw[DU];simp
 simp only[e,B_,A0,A8];by_cases h1:a<b<;>by_cases h:b<a<;>simp[h1,h]
section
variable{T:Type}
theorem zV(xs:List T)(F:T×T->Option Int)(h:T6 xs F):Tot (NP xs F) (λr=>r.Perm xs/\r.Pairwise (λa b=>∀c,F (b,a)=some c->0<=c)):=by
 unfold NP;split
 .rename_i h0;unfold IN;rw[A6 h];refine DO.2 ?_
  letI:Inhabited (Fin xs.length):=⟨⟨0,h0⟩⟩
  have D:Sort.SWO (IG xs F):=⟨h.2.1,h.2.2.1,h.2.2.2⟩;have x:=Sort.pdq_sorts (IG xs F) D (Array.ofFn id) 0 xs.length (Lib.bitLen xs.length) true true (AR _) oh (Or.inl rfl);have e:K_ xs F h0=Sort.pdq (IG xs F) (Array.ofFn id) 0 xs.length (Lib.bitLen xs.length) true true:=A3F xs F h0;rw[e];generalize Sort.pdq (IG xs F) (Array.ofFn id) 0 xs.length (Lib.bitLen xs.length) true true=d at x;obtain⟨⟨h1,_,s⟩,B⟩:=x;have l:d.size=xs.length:=by rw[h1];simp
  have y:d.extract 0 xs.length=d:=by
   have:=Array.extract_size (xs:=d);rwa[l]at this
  have z:(Array.ofFn (id:Fin xs.length->Fin xs.length)).extract 0 xs.length=Array.ofFn id:=by
   have:=Array.extract_size (xs:=Array.ofFn (id:Fin xs.length->Fin xs.length));rwa[Array.size_ofFn]at this
  rw[y,z]at s;constructor
  .have C:=s.map xs.get
   have A:(Array.ofFn (id:Fin xs.length->Fin xs.length)).toList.map xs.get=xs:=by
    rw[Array.toList_ofFn,List.map_ofFn];apply List.ext_getElem
    .simp
    .intro i h1 E;simp
   rwa[A]at C
  .rw[List.pairwise_map,C7];intro i j hi G p c w;have H:d.toList.length=xs.length:=by rw[BE];exact l
   have m:=B i j (AR _) p oa;rw[getElem!_pos d i oa,getElem!_pos d j oa]at m;unfold IG NO at m;rw[Array.getElem_toList,Array.getElem_toList]at w;rw[w]at m;simpa using m
 .rename_i h0;have:xs=[]:=List.length_eq_zero_iff.1 oa;subst this;exact DO.2 ⟨List.Perm.refl _,List.Pairwise.nil⟩
def ALJ(xs:List T)(F:T×T->Option Int)(key:T->DM)(h:∀a b,F (a,b)=some (J9 (key a) (key b))):T6 xs F:=by
 have e:∀i j,IG xs F i j=decide (key (xs.get i)<key (xs.get j)):=by
  intro i j;unfold IG NO;rw[h];simp[WJ]
 refine⟨λi j=>by rw[h];rfl,λi=>?_,λi j k=>?_,λi j k=>?_⟩
 .rw[e];simp[N6]
 .rw[e,e,e];simp only[BI];exact bD
 .rw[e,e,e];simp only[CW];exact A6x
def A6y(xs:List T)(F:T×T->Option Int)(key:T->DM)(e:∀a b,F (a,b)=some (J9 (key a) (key b))):
 Tot (NP xs F) (λr=>r.Perm xs/\r.Pairwise (λa b=>¬key b<key a)):=
 (zV xs F (ALJ xs F key e)).mono λr j=>⟨j.1,j.2.imp λ{a b} h d=>by
  have:=h _ (e b a);have:=(WJ (key b) (key a)).2 d;omega⟩
end
abbrev Edge:=Int×DM×Bool×DM
abbrev J0:=Edge×Edge
def eo(a b:Edge):Int:=if a.1≠b.1\/a.1≠0 then O0 a.1 b.1 else if J9 a.2.1 b.2.1≠0\/a.2.2.1=b.2.2.1 then J9 a.2.1 b.2.1 else if a.2.2.1 then 1 else -1
theorem A6z(a b:Edge):N1 (a,b)=some (eo a b):=by
 unfold N1 eo;dsimp only;rw[oN,bE];simp only[A0,DU];by_cases h1:a.1=b.1
 .by_cases h:a.1=0
  .have j:H_ a.2.2.1 b.2.2.1=decide (a.2.2.1=b.2.2.1):=by cases a.2.2.1<;>cases b.2.2.1<;>rfl
   rw[j];by_cases d:J9 a.2.1 b.2.1=0<;>by_cases e:a.2.2.1=b.2.2.1<;>simp[<-h1,h,d,e]<;>(cases a.2.2.1<;>simp)
  .simp[<-h1,h]
 .simp[h1]
def L3(a b:Edge):Prop:=a.1<b.1\/(a.1=b.1/\a.1=0/\(a.2.1<b.2.1\/(a.2.1=b.2.1/\a.2.2.1=false/\b.2.2.1=true)))
def A70(a b:Edge):eo a b<0<->L3 a b:=by
 unfold eo L3 O0;by_cases h1:a.1=b.1
 .by_cases j:a.1=0
  .have d:b.1=0:=oa
   have l:¬(a.1≠b.1\/a.1≠0):=oa
   rw[if_neg l];rcases oL a.2.1 b.2.1 with h|h|h
   .have:J9 a.2.1 b.2.1= -1:=by unfold J9;rw[if_pos h]
    rw[this];simp[h1,d,h]
   .have:J9 a.2.1 b.2.1=0:=by unfold J9;rw[if_neg (by rw[h];exact N6 _),if_pos h]
    rw[this,h];cases p:a.2.2.1<;>cases m:b.2.2.1<;>simp[h1,d,N6]
   .have e:¬a.2.1=b.2.1:=λe=>by rw[e]at h;exact N6 _ h
    have:J9 a.2.1 b.2.1=1:=by unfold J9;rw[if_neg (oM h),if_neg e]
    rw[this];simp[h1,d,oM h,e]
  .have d:¬b.1=0:=oa
   simp[h1,d]
 .simp only[ne_eq,h1,not_false_eq_true,true_or,if_true,D9,or_false];by_cases j:a.1<b.1
  .simp[j]
  .by_cases h:b.1<a.1
   .simp[j,h]
   .omega
instance(a b:Edge):Decidable (L3 a b):=by unfold L3;infer_instance
def ALK(a:Edge):¬L3 a a:=by
 rintro(h|⟨_,_,h|⟨_,h1,b⟩⟩)
 .omega
 .exact N6 _ h
 .rw[h1]at b;cases b
def ALL{a b c:Edge}(h1:L3 a b)(h:L3 b c):L3 a c:=by
 unfold L3 at *;rcases h1 with h1|⟨p1,j,p⟩
 .rcases h with h|⟨m,s,d⟩<;>exact Or.inl oa
 .rcases h with h|⟨m,s,d⟩
  .exact Or.inl oa
  .refine Or.inr ⟨oa,j,?_⟩;rcases p with p|⟨p,x,l⟩
   .rcases d with d|⟨d,e,w⟩
    .exact Or.inl (bD p d)
    .exact Or.inl (d▸p)
   .rcases d with d|⟨d,e,w⟩
    .exact Or.inl (p▸d)
    .rw[l]at e;cases e
def ALM{a b c:Edge}(h1:¬L3 a b)(j:¬L3 b c):¬L3 a c:=by
 intro h;unfold L3 at *;simp only[not_or,not_and]at h1 j;obtain⟨D,l⟩:=h1;obtain⟨E,s⟩:=j;rcases h with h|⟨p1,A,p⟩
 .omega
 .have x:a.1=b.1:=oa
  have y:b.1=c.1:=oa
  have⟨d,m⟩:=l x A;have⟨e,w⟩:=s y oa;rcases p with p|⟨p,B,C⟩
  .exact A6x d e p
  .rcases oL a.2.1 b.2.1 with g|g|g
   .exact d g
   .have z:b.2.1=c.2.1:=g▸p;have:=m g B;have:=w z (by cases G:b.2.2.1<;>simp_all);exact this C
   .exact e (p▸g)
def ALN(xs:List J0):Tot (uA (xs,λx=>(Q0 x).bind λr=>some r)) (λr=>r.Perm xs/\r.Pairwise λa b=>¬L3 b.1 a.1):=by
 have d:∀a b:J0,(Q0 (a,b)).bind (λr=>some r)=some (eo a.1 b.1):=by
  intro a b;unfold Q0;dsimp only;rw[A6z];rfl
 have e:∀i j,IG xs (λx=>(Q0 x).bind λr=>some r) i j=decide (L3 (xs.get i).1 (xs.get j).1):=by
  intro i j;unfold IG NO;show decide ((((Q0 (xs.get i,xs.get j)).bind λr=>some r).getD 0)<0)=_;rw[d];simp only[D0];exact decide_eq_decide.2 (A70 _ _)
 have p:T6 xs (λx=>(Q0 x).bind λr=>some r):=by
  refine⟨λi j=>by show((Q0 (xs.get i,xs.get j)).bind λr=>some r).isSome=true;rw[d];rfl,λi=>?_,λi j k=>?_,λi j k=>?_⟩
  .rw[e];simp[ALK]
  .rw[e,e,e];simp only[BI];exact ALL
  .rw[e,e,e];simp only[CW];exact ALM
 refine(zV xs _ p).mono λr m=>⟨m.1,m.2.imp λ{a b} h l=>?_⟩;have:=h _ (d b a);have:=(A70 b.1 a.1).2 l;omega
abbrev Af:=DM×Int×JG×(List DM)×(List DM)
abbrev FZ:=DM×(List DM)×DM×Int×Bool×DM×(List Af)
abbrev Bnd:=Bool×Bool×DM
abbrev bF:=Bnd×Bnd
def OS(a:Af):Prop:=a.1.length<=1048576/\a.2.2.1.length<=1048576/\(∀v∈a.2.2.1,v.2.length<=1048576)/\a.2.2.2.1.length<=1048576/\(∀s∈a.2.2.2.1,s.length<=1048576)/\a.2.2.2.2.length<=1048576/\(∀s∈a.2.2.2.2,s.length<=1048576)
def zW(a:Af):Prop:=a.2.2.1.length<=100/\(∀v∈a.2.2.1,1<=v.1/\v.1<=3)/\a.2.2.2.1.length<=500
def LV(a:FZ):Prop:=a.1.length<=1048576/\a.2.1.length<=1048576/\(∀s∈a.2.1,s.length<=1048576)/\a.2.2.1.length<=1048576/\a.2.2.2.2.2.1.length<=1048576/\a.2.2.2.2.2.2.length<=1048576/\∀x∈a.2.2.2.2.2.2,OS x
abbrev GV(s:bF):Prop:=s.1.2.2.length<=100/\s.2.2.2.length<=100
abbrev HH(s:J0):Prop:=s.1.2.2.2.length<=100/\s.2.2.2.2.length<=100
def OT{α:Type}{l:List α}{i:Nat}{x:α}(h:l[i]?=some x):x∈l:=AL h
instance ALO:t6 PZ (λ_=>True) (λ_ _=>True):=⟨λx h=>⟨_,oN x.1 x.2,trivial⟩⟩
instance TW:t6 N1 (λ_=>True) (λ_ _=>True):=⟨λx h=>⟨_,A6z x.1 x.2,trivial⟩⟩
def qu{p:Prop}(h:p:=by grind[E6,E5,E9,E1,DU,E8,E7,E4,EA,EB,EL,EK,EN,EM,EO,EP,EQ]):p:=h
def ti{p:Prop}(h:p:=by
 intros;try dsimp only at *
 repeat' first
  |(with_reducible first|refine DP.2 ⟨λ_=>?_,λ_=>?_⟩|refine DN.2 ?_|refine DO.2 ?_|refine EJ.2 ⟨?_,λ_ _=>?_⟩|refine EV.2 ⟨?_,?_⟩|refine I5.2 ⟨?_,?_⟩|refine FT.2 ⟨?_,?_⟩|refine F9.2 ⟨?_,?_⟩|refine t7 ?_ λ_ _=>?_|refine⟨λ_=>?_,?_⟩)
  |split
  |dsimp only
 all_goals grind[E6,E5,E9,E1,DU,E8,E7,E4,EA,EB,EL,EK,EN,EM,EO,EP,EQ]):p:=h
instance oO:t6 TG (λx=>x.length<=1048576) (λ_ r=>0<=r.1/\r.1<=999999999999999999):=⟨by unfold TG;exact ti⟩
instance:t6 gW (λ_=>True) (λ_ _=>True):=⟨by unfold gW;exact ti⟩
instance:t6 vR (λx=>th x.2.2 x.2.1 x.1.length/\∀s∈x.1,s.length<=1000) (λ_ r=>∀y,r=.inr y->y.1=[]/\y.2=false):=td (λ_ _=>True) (λy=>(y.2.1-y.2.2).toNat) (by unfold A3x;exact ti)
instance:t6 ZD (λx=>x.length<=1000) (λ_ r=>LS r.1):=⟨by unfold ZD;exact ti⟩
instance:t6 vS (λx=>th x.2.2 x.2.1 x.1.length/\∀s∈x.1,s.length<=1000) (λ_ r=>∀y,r=.inr y->y.1=[]/\y.2=false):=td (λ_ _=>True) (λy=>(y.2.1-y.2.2).toNat) (by unfold A3y;exact ti)
instance:t6 gX (λx=>x.length<=1000) (λ_ r=>LS r.1):=⟨by unfold gX;exact ti⟩
instance ALS:t6 gY (λx=>x.length<=1000) (λ_ r=>LS r.1):=⟨by unfold gY;exact ti⟩
instance:t6 gZ (λx=>0<=x.2.1/\x.2.1<=x.1.length/\x.1.length<=1000) (λx r=>(∀y,r=.inl y->0<=y/\y<=x.1.length)/\∀y,r=.inr y->y.2=false):=⟨by unfold gZ;exact ti⟩
instance ALU:t6 vT (λx=>0<=x.2.2.2/\x.2.2.2<=3/\0<=x.2.2.1/\x.2.2.1<=x.1.length/\x.1.length<=1000/\x.2.1.1.length=3/\(∀n∈x.2.1.1,0<=n/\n<=999999999999999999)) (λx r=>(∀y,r=.inl y->y.1.1.length=3/\(∀n∈y.1.1,0<=n/\n<=999999999999999999)/\0<=y.2/\y.2<=x.1.length)/\∀y,r=.inr y->y.2=false):=td (λx y=>y.1=x.1) (λy=>(3-y.2.2.2).toNat) (by unfold A3z;exact ti)
instance ALV:t6 g_ (λx=>x.length<=1000) (λ_ r=>r.2=true->MC r.1):=⟨λx h=>by
 unfold g_
 repeat' first
  |(with_reducible first|refine DN.2 ?_|refine DO.2 ?_|refine I5.2 ⟨?_,?_⟩|refine(ALU.1 _ ?_).mono λ_ _=>?_|refine(ALS.1 _ ?_).mono λ_ _=>?_)
  |split
  |dsimp only
 all_goals grind[E6,E5,E9,E1,DU,E8,E7,E4,EA,EB,EL,EK,EN,EM,EO,EP,EQ,AKy]⟩
instance A73:t6 hY (λ_=>True) (λ_ _=>True):=⟨by unfold hY;exact ti⟩
instance ALW:t6 vU (λx=>0<=x.2/\x.2<=x.1.length/\x.1.length<=1000) (λ_ r=>True):=⟨λx h=>by
 refine ES (R:=λr:Sum (Unit) (Bool)=>True) (λy:DM×Int=>(0<=y.2/\y.2<=y.1.length/\y.1.length<=1000)/\y.1=x.1) (λy:DM×Int=>(y.1.length-y.2:Int).toNat) ?_ _ _ oc (by unfold fuel;grind);rintro next ⟨s,a⟩ h hn
 try dsimp only at h hn
 unfold A40
 repeat' first
  |(with_reducible first|refine DP.2 ⟨λ_=>?_,λ_=>?_⟩|refine DN.2 ?_|refine DO.2 ?_|refine(HG.1 _ ?_).mono λ_ _=>?_|refine(N_ _ ?_ ?_).mono λ_ _=>?_)
  |exact λc=>clo (HG.1 c trivial)
  |exact λc=>clo (JL.1 c trivial)
  |with_reducible refine hn _ ?_ ?_
  |dsimp only
 all_goals grind[E6,E5,E9,E1,DU,E8,E7,E4,EA,EB,EL,EK,EN,EM,EO,EP,EQ,XZ]⟩
instance ALX:t6 hZ (λx=>x.length<=1000) (λ_ _=>True):=⟨by unfold hZ;exact ti⟩
instance ALY:t6 iA (λx=>x.1.length<=1000/\x.2.2.2.1.length<=1000/\x.2.2.1.length<=1000/\x.2.1.1=0) (λx r=>(∀y,r=.inl y->y.1.length<=1000/\0<=y.2.1/\y.2.1<=999999999999999999/\y.2.2=x.2.1.2)/\∀y,r=.inr y->y.2=false):=⟨by unfold iA;exact ti⟩
instance ALZ:t6 iB (λx=>x.length<=1000) (λ_ r=>r.2=true->MC r.1):=⟨λx h=>by
 unfold iB
 repeat' first
  |(with_reducible first|refine DP.2 ⟨λ_=>?_,λ_=>?_⟩|refine DN.2 ?_|refine DO.2 ?_|refine EJ.2 ⟨?_,λ_ _=>?_⟩|refine I5.2 ⟨?_,?_⟩|refine(A6p.1 _ ?_).mono λ_ _=>?_|refine(ALY.1 _ ?_).mono λ_ _=>?_|refine(HG.1 _ ?_).mono λ_ _=>?_|refine(A73.1 _ ?_).mono λ_ _=>?_|refine(ALX.1 _ ?_).mono λ_ _=>?_|refine(AKm _ ?_).mono λ_ _=>?_|refine(aZ.1 _ ?_).mono λ_ _=>?_|refine(N_ _ ?_ ?_).mono λ_ _=>?_)
  |exact λc=>clo (HG.1 c trivial)
  |exact λc=>clo (JL.1 c trivial)
  |exact λc=>clo (A73.1 c trivial)
  |split
  |dsimp only
 all_goals grind[E6,E5,E9,E1,DU,E8,E7,E4,EA,EB,EL,EK,EN,EM,EO,EP,EQ,AKz]⟩
instance:t6 vV (λx=>x.1.length<=1000/\x.2.length+x.1.length<=1001/\(∀n∈x.2,0<=n/\n<=999999999999999999)) (λ_ r=>NS r.1/\r.2.1.length<=1000):=td (λ_ _=>True) (λy=>y.1.length) (by unfold A41;exact ti)
instance ALa:t6 iC (λx=>x.length<=1000) (λ_ r=>NS r.1/\r.2.1.length<=1000):=⟨by unfold iC;exact ti⟩
def ALb(x:DM×MY)(h:∀c,Tot (x.2 c) λ_=>True):Tot (ZE x) (λr:Int=>0<=r/\r<=1/\r<=x.1.length):=by
 obtain⟨s,a⟩:=x;try dsimp only at h ⊢
 unfold ZE
 repeat' first
  |(with_reducible first|refine DP.2 ⟨λ_=>?_,λ_=>?_⟩|refine DN.2 ?_|refine DO.2 ?_|refine EJ.2 ⟨?_,λ_ _=>?_⟩|refine(AL5 _ ?_).mono λ_ _=>?_|refine(h _).mono λ_ _=>?_)
  |dsimp only
 all_goals exact qu
instance:t6 vX (λx=>th x.2.2.2.2 x.2.2.2.1 x.2.2.1.length/\x.2.1=[]) (λx r=>r.length<=x.1.length):=td (λx y=>y.1=x.1/\y.2.1=x.2.1) (λy=>(y.2.2.2.1-y.2.2.2.2).toNat) (by unfold A42;exact ti)
instance:t6 iD (λ_=>True) (λ_ _=>True):=⟨by unfold iD;exact ti⟩
instance:t6 iE (λ_=>True) (λ_ _=>True):=⟨by unfold iE;exact ti⟩
instance:t6 iF (λ_=>True) (λ_ _=>True):=⟨by unfold iF;exact ti⟩
instance ALg:t6 iG (λ_=>True) (λx r=>x.length<=281474976710656->r.1.length<=x.length/\(r.1≠[]->1<=r.2.1)/\r.2.1<=3/\0<=r.2.2/\r.2.2<=3):=⟨by unfold iG;exact ti⟩
instance ALh:t6 iH (λx=>0<=x.2.2.1/\x.2.2.1<=x.1.length/\x.1.length<=1000/\0<=x.2.1/\x.2.1<=999999999999999999) (λx r=>(∀y,r=.inl y->y.1.length<=x.1.length/\0<=y.2/\y.2<=999999999999999999)/\∀y,r=.inr y->y.2=false/\y.1=[]):=⟨by unfold iH;exact ti⟩
instance ALi:t6 vY (λx=>x.2.1.length<=1000/\0<=x.2.2/\x.2.2<=3/\OR x.1) (λ_ r=>OR r.1/\r.2.1.length<=1000):=⟨λx h=>by
 refine ES (R:=λr:FQ×DM×Bool=>OR r.1/\r.2.1.length<=1000) (λy:FQ×DM×Int=>(y.2.1.length<=1000/\0<=y.2.2/\y.2.2<=3/\OR y.1)) (λy:FQ×DM×Int=>(4-y.2.2).toNat) ?_ _ _ oc (by unfold fuel;grind);rintro next ⟨a,s,l⟩ h hn
 try dsimp only at h hn
 unfold A43
 repeat' first
  |(with_reducible first|refine DP.2 ⟨λ_=>?_,λ_=>?_⟩|refine DN.2 ?_|refine DO.2 ?_|refine EJ.2 ⟨?_,λ_ _=>?_⟩|refine I5.2 ⟨?_,?_⟩|refine(ALb _ ?_).mono λ_ _=>?_|refine(JL.1 _ ?_).mono λ_ _=>?_|refine(ALg.1 _ ?_).mono λ_ _=>?_|refine(HG.1 _ ?_).mono λ_ _=>?_|refine(ALh.1 _ ?_).mono λ_ _=>?_)
  |exact λc=>clo (HG.1 c trivial)
  |exact λc=>clo (JL.1 c trivial)
  |with_reducible refine hn _ ?_ ?_
  |split
  |dsimp only
 all_goals exact qu⟩
instance ALj:t6 iI (λx=>x.2.length<=1000/\OR x.1) (λ_ r=>r.1.length<=1000/\OR r.2.2):=⟨by unfold iI;exact ti⟩
instance:t6 iJ (λ_=>True) (λ_ _=>True):=⟨by unfold iJ;exact ti⟩
instance ALk:t6 v_ (λx=>0<=x.2.2.2/\x.2.2.2<=x.2.2.1/\x.2.2.1=x.2.1.length/\x.2.2.1<=281474976710656/\0<=x.1/\x.1<=1048576+1000*x.2.2.2/\(∀s∈x.2.1,s.length<=1000)/\x.2.2.1<=1048576) (λ_ r=>∀y,r=.inr y->y.1=[]):=td (λ_ _=>True) (λy=>(y.2.2.1-y.2.2.2).toNat) (by unfold A44;exact ti)
def ALl(x:DM)(h:x.length<=1000):Tot (iK x) (λr:(List DM)×Bool=>LS r.1):=by
 unfold iK
 repeat' first
  |(with_reducible first|refine DN.2 ?_|refine DO.2 ?_|refine(A6s _ ?_).mono λ_ _=>?_|refine(ALk.1 _ ?_).mono λ_ _=>?_|refine(AKx _ ⟨?_,?_⟩).mono λ_ _=>?_)
  |exact λc=>clo (A6s c trivial)
  |split
  |dsimp only
 all_goals exact qu
instance ALm:t6 iL (λx=>x.1.length<=1000/\x.2.1.1=0/\0<=x.2.2.1/\x.2.2.1<=x.1.length/\(x.2.2.2=true->x.2.2.1<x.1.length)) (λx r=>(∀y,r=.inl y->y.1.length<=1000/\0<=y.2.1/\y.2.1<=999999999999999999/\y.2.2=x.2.1.2)/\∀y,r=.inr y->y.2=false):=⟨by unfold iL;exact ti⟩
instance ALn:t6 iM (λx=>x.length<=1000) (λ_ r=>r.2=true->MC r.1):=⟨λx h=>by
 unfold iM
 repeat' first
  |(with_reducible first|refine DP.2 ⟨λ_=>?_,λ_=>?_⟩|refine DN.2 ?_|refine DO.2 ?_|refine EJ.2 ⟨?_,λ_ _=>?_⟩|refine(AKk _ ?_).mono λ_ _=>?_|refine(HG.1 _ ?_).mono λ_ _=>?_|refine(ALm.1 _ ?_).mono λ_ _=>?_|refine(ALa.1 _ ?_).mono λ_ _=>?_|refine(ALj.1 _ ?_).mono λ_ _=>?_|refine(AKl _ ?_).mono λ_ _=>?_|refine(ALl _ ?_).mono λ_ _=>?_|refine(N_ _ ?_ ?_).mono λ_ _=>?_)
  |exact λc=>clo (HG.1 c trivial)
  |exact λc=>clo (JL.1 c trivial)
  |split
  |dsimp only
 all_goals grind[E6,E5,E9,E1,DU,E8,E7,E4,EA,EB,EL,EK,EN,EM,EO,EP,EQ,AL0]⟩
instance ALo:t6 iN (λx=>x.1.length<=1000) (λ_ r=>r.length<=5000):=⟨by unfold iN;exact ti⟩
instance zX:t6 TH (λ_=>True) (λ_ _=>True):=⟨by unfold TH;exact ti⟩
instance ALp:t6 iO (λx=>0<=x.2.1/\x.2.1<x.1.length/\x.1.length<=1000) (λx r=>(∀y,r=.inl y->x.2.1<=y/\y<=x.1.length)/\∀y,r=.inr y->y.2=false):=⟨by unfold iO;exact ti⟩
def ALq(x:DM×GZ×Int)(h:0<=x.2.2/\(x.1.length:Int)<=281474976710656/\x.2.2<=(x.1.length:Int)/\x.1.length<=1000/\x.2.1.length<=x.2.2/\(∀t∈x.2.1,t.2.1.length<=5000/\0<=t.2.2/\t.2.2<=999999999999999999)):Tot (w6 x) (λr:Sum GZ (H8×Bool)=>(∀y,r=.inl y->TS y)/\∀y,r=.inr y->y.2=false):=by
 refine ES (R:=λr:Sum GZ (H8×Bool)=>(∀y,r=.inl y->TS y)/\∀y,r=.inr y->y.2=false) (λy:DM×GZ×Int=>(0<=y.2.2/\(y.1.length:Int)<=281474976710656/\y.2.2<=(y.1.length:Int)/\y.1.length<=1000/\y.2.1.length<=y.2.2/\(∀t∈y.2.1,t.2.1.length<=5000/\0<=t.2.2/\t.2.2<=999999999999999999))) (λy:DM×GZ×Int=>((y.1.length:Int)-y.2.2).toNat) ?_ _ _ oc (by unfold fuel;grind);rintro next ⟨s,b,a⟩ h hn
 try dsimp only at h hn
 unfold A45
 repeat' first
  |(with_reducible first|refine DP.2 ⟨λ_=>?_,λ_=>?_⟩|refine DN.2 ?_|refine DO.2 ?_|refine EJ.2 ⟨?_,λ_ _=>?_⟩|refine I5.2 ⟨?_,?_⟩|refine F9.2 ⟨?_,?_⟩|refine(ALp.1 _ ?_).mono λ_ _=>?_|refine(HG.1 _ ?_).mono λ_ _=>?_|refine(LU.1 _ ?_).mono λ_ _=>?_|refine(JL.1 _ ?_).mono λ_ _=>?_|refine(ALo.1 _ ?_).mono λ_ _=>?_|refine(N_ _ ?_ ?_).mono λ_ _=>?_)
  |exact λc=>clo (HG.1 c trivial)
  |exact λc=>clo (JL.1 c trivial)
  |with_reducible refine hn _ ?_ ?_
  |split
  |dsimp only
 all_goals exact qu
def ALr(x:List LM)(h:TS x):Tot (w7 x) (λr:List LM=>TS r):=by
 refine ES (R:=λr=>TS r) (λy=>TS y) (λy=>y.length) ?_ _ _ h (by exact qE);intro next v h d
 unfold A46;by_cases a:(0:Int)<v.length
 .rw[EI oa oa,A6 a];simp only[A7,BZ];refine DN.2 (EJ.2 ⟨⟨oa,oa⟩,λb j=>?_⟩);refine DN.2 ((zX.1 _ trivial).mono λr _=>?_);refine DP.2 ⟨λ_=>DN.2 (I5.2 ⟨⟨oa,oa,oa⟩,?_⟩),λ_=>DO.2 h⟩;refine d _ ⟨?_,λt e=>h.2 t (EL e)⟩ ?_
  .rw[EK];omega
  .rw[EK];omega
 .rw[A9 a];simp only[A8,C_];grind[DN,DO]
instance ALs:t6 iP (λx=>x.length<=1000) (λ_ r=>r.2=true->MC r.1):=⟨λx h=>by
 unfold iP
 repeat' first
  |(with_reducible first|refine DN.2 ?_|refine DO.2 ?_|refine(ALq _ ?_).mono λ_ _=>?_|refine(ALr _ ?_).mono λ_ _=>?_)
  |split
  |dsimp only
 all_goals grind[E6,E5,E9,E1,DU,E8,E7,E4,EA,EB,EL,EK,EN,EM,EO,EP,EQ,AL1]⟩
instance ALt:t6 iQ (λx=>x.length<=1000) (λ_ r=>r.2=true->MC r.1):=⟨λx h=>by
 unfold iQ
 repeat' first
  |(with_reducible first|refine DN.2 ?_|refine DO.2 ?_|refine(oO.1 _ ?_).mono λ_ _=>?_)
  |dsimp only
 all_goals grind[E6,E5,E9,E1,DU,E8,E7,E4,EA,EB,EL,EK,EN,EM,EO,EP,EQ,AL2]⟩
instance TX:t6 KB (λx=>x.2.length<=1048576) (λ_ r=>r.2=0->MC r.1):=⟨by unfold KB;exact ti⟩
instance ALu:t6 w8 (λx=>0<=x.2.2.2/\x.2.2.2<=x.2.2.1/\x.2.2.1=x.2.1.length/\x.2.2.1<=281474976710656/\x.1.length<=x.2.2.2/\(∀s∈x.1,s.length<=21)/\x.2.2.1<=1002) (λ_ r=>r.length<=1002/\∀s∈r,s.length<=21):=td (λ_ _=>True) (λy=>(y.2.2.1-y.2.2.2).toNat) (by unfold A47;exact ti)
instance A75:t6 ZF (λx=>x.length<=1002) (λ_ r=>r.length<=30000):=⟨λx h=>by
 unfold ZF;refine DN.2 ((ALu.1 _ ⟨oh,oh,rfl,ot,oh,oh,ot⟩).mono λr a=>?_);have b:(Lib.join r [46]).length<=1002*(21+1):=oJ a.2 a.1 oh;exact DN.2 ((WI _ ⟨ot,oc⟩).mono λs d=>DO.2 oc)⟩
def zY(x:(List Int)×(List DM))(h:oI x):Tot (ZG x) (λr:DM=>r.length<=1048576):=by
 unfold ZG;obtain⟨h1,d,a,b⟩:=h;have e:(Lib.join x.2 [46]).length<=1002*(1000+1):=oJ b a oh;refine DN.2 (I5.2 ⟨⟨oa,oa,oa⟩,?_⟩);refine DN.2 ((A75.1 _ oc).mono λr j=>?_);refine DP.2 ⟨λ_=>?_,λ_=>DO.2 oa⟩;refine DN.2 ((WI _ ⟨oc,oc⟩).mono λs l=>?_);grind[DN,FT,DO]
instance:t6 w9 (λx=>0<=x.2.2/\x.2.2<=x.1.length/\x.1.length<=1000/\x.2.1.length<=21*x.2.2) (λ_ r=>r.length<=21000):=td (λx y=>y.1=x.1) (λy=>(y.1.length-y.2.2:Int).toNat) (by unfold A48;exact ti)
instance:t6 ZH (λx=>x.length<=1000) (λ_ r=>r.length<=21000):=⟨by unfold ZH;exact ti⟩
instance:t6 ZI (λx=>bC x) (λ_ r=>r.length<=1000):=⟨by unfold ZI;exact ti⟩
instance:t6 wA (λx=>th x.2.2.2 x.2.2.1 x.1.length/\x.2.2.1<=1000/\x.2.1.length<=x.2.2.2) (λx r=>r.length<=x.1.length):=td (λx y=>y.1=x.1) (λy=>(y.2.2.1-y.2.2.2).toNat) (by unfold A49;exact ti)
instance ALy:t6 iS (λx=>x.length<=1000) (λx r=>r.length<=x.length+1):=⟨by unfold iS;exact ti⟩
instance L4:t6 KC (λx=>0<=x/\x<=999999999999999999) (λ_ r=>r.length=18):=⟨by unfold KC;exact ti⟩
instance ALz:t6 wB (λx=>x.1.length<=1000/\x.2.length+40*x.1.length<=50000) (λ_ r=>r.length<=50000):=⟨λx h=>by
 refine ES (R:=λr:List Int=>r.length<=50000) (λy:DM×(List Int)=>y.1.length<=1000/\y.2.length+40*y.1.length<=50000) (λy:DM×(List Int)=>y.1.length) ?_ _ _ h (by exact qE);rintro next ⟨s,b⟩ h hn
 dsimp only at h hn;unfold A4A;dsimp only;refine DP.2 ⟨λhc=>?_,λ_=>DO.2 oa⟩
 have hne:0<s.length:=by
  rw[EN]at hc;simp only[BD,CW]at hc;omega
 have f1:∀c,Tot ((iR c).bind λr=>some r) λ_=>True:=λc=>⟨_,rfl,trivial⟩;refine DN.2 ((oK _ ⟨AS _,oh,oc,f1⟩).mono λr1 hr1=>?_);dsimp only at hr1;obtain⟨a0,a1,_,a3⟩:=hr1;rw[Int.zero_add]at a1 a3;refine DN.2 ((oK _ ⟨a0,oa,oc,A6r⟩).mono λr2 hr2=>?_);dsimp only at hr2;obtain⟨b0,b1,_,b3⟩:=hr2
 have hpos:0<r1+r2:=by
  rcases Int.lt_or_le 0 (r1+r2)with h'|h'
  .exact h'
  .exfalso;have e1:r1=0:=oa
   have e2:r2=0:=oa
   subst e1 e2;have g:s[(0:Int).toNat]?=some (s[0]'hne):=A1 hne;grind[iR,H0]
 rw[EI oa oa];refine DN.2 (I5.2 ⟨⟨oa,oa,oa⟩,?_⟩);refine DN.2 ((LU.1 _ oc).mono λr4 h4=>?_);refine DN.2 (I5.2 ⟨⟨oa,oa,oa⟩,?_⟩);refine DN.2 ((ALy.1 _ oc).mono λr6 h6=>?_);rw[EK]at h6;refine DN.2 ((L4.1 _ h4).mono λr7 h7=>?_);refine DN.2 (FT.2 ⟨oa,?_⟩);refine DN.2 ((bA.1 _ ⟨oc,oc⟩).mono λr9 h9=>?_);grind[List.length_append,DN,I5,EK]⟩
instance:t6 P_ (λx=>x.length<=1000) (λ_ r=>r.length<=50010):=⟨by unfold P_;exact ti⟩
instance:t6 iT (λx=>x.2.1.length<=1000000) (λx r=>r.1=x.1/\r.2.length<=x.2.1.length+30):=⟨by unfold iT;exact ti⟩
instance zZ:t6 ZJ (λx=>bC x) (λ_ r=>r.length<=1048576):=⟨by unfold ZJ;exact ti⟩
instance AM1:t6 wC (λx=>NS x) (λ_ r=>NS r):=⟨λx h=>by
 refine ES (R:=λr=>NS r) (λy=>NS y) (λy=>y.length) ?_ _ _ h (by exact qE);intro next v h d
 unfold A4B;by_cases a:(0:Int)<v.length
 .rw[EI oa oa,A6 a];simp only[A7,BZ];refine DN.2 (EJ.2 ⟨⟨oa,oa⟩,λb j=>?_⟩);refine DP.2 ⟨λ_=>DN.2 (I5.2 ⟨⟨oa,oa,oa⟩,?_⟩),λ_=>DO.2 h⟩;refine d _ ⟨?_,λt e=>h.2 t (EL e)⟩ ?_
  .rw[EK];omega
  .rw[EK];omega
 .rw[A9 a];simp only[A8,C_];grind[DN,DO]⟩
instance A78:t6 ZK (λx=>NS x) (λ_ r=>NS r):=⟨by unfold ZK;exact ti⟩
instance:t6 iU (λx=>x.2.1.length<=10) (λx r=>r.1=x.1/\r.2.length<=30):=⟨by unfold iU;exact ti⟩
instance:t6 iV (λx=>x.1.length<=30/\x.2.1.length<=1002) (λ_ r=>r.length<=31000):=⟨by unfold iV;exact ti⟩
instance:t6 iW (λx=>x.2.1.length<=31000/\0<=x.1.2.2.1/\x.1.2.2.1<=3) (λx r=>r.1=x.1/\r.2.length<=31100):=⟨by unfold iW;exact ti⟩
instance:t6 iX (λx=>x.2.1.length<=31100) (λx r=>r.1=x.1/\r.2.length<=31200):=⟨by unfold iX;exact ti⟩
instance:t6 iY (λx=>x.2.1.length<=31200) (λx r=>r.1=x.1/\r.2.length<=31300):=⟨by unfold iY;exact ti⟩
instance:t6 iZ (λ_=>True) (λx r=>r.length<=x.1.length+21):=⟨by unfold iZ;exact ti⟩
instance:t6 wD (λx=>th x.2.2.2 x.2.2.1 x.2.1.length/\x.1.length<=40000+1030*x.2.2.2/\x.2.2.1<=1002/\∀s∈x.2.1,s.length<=1000) (λ_ r=>r.length<=10000000):=td (λ_ _=>True) (λy=>(y.2.2.1-y.2.2.2).toNat) (by unfold A4C;exact ti)
instance z_:t6 ZL (λx=>OR x) (λ_ r=>r.length<=10000000):=⟨by unfold ZL;exact ti⟩
instance AM9:t6 wE (λx=>0<=x.2.2.2/\x.2.2.2<=x.2.2.1/\x.2.2.1=x.2.1.length/\x.2.2.1<=281474976710656/\x.1.length<=x.2.2.2/\(∀s∈x.1,s.length<=5000)/\x.2.2.1<=1002/\∀t∈x.2.1,t.2.1.length<=5000) (λ_ r=>r.length<=1002/\∀s∈r,s.length<=5000):=td (λ_ _=>True) (λy=>(y.2.2.1-y.2.2.2).toNat) (by unfold A4D;exact ti)
def A00(x:List LM)(h:TS x):Tot (ZM x) (λr:DM=>r.length<=10000000):=by
 unfold ZM;refine DN.2 ((AM9.1 _ ⟨oh,oh,rfl,oc,oh,oh,oc,λt b=>(h.2 t b).1⟩).mono λr a=>?_);have d:(Lib.join r [45]).length<=1002*(5000+1):=oJ a.2 a.1 oh;refine DP.2 ⟨λ_=>DO.2 oh,λ_=>?_⟩;exact DN.2 ((WI _ ⟨oc,oc⟩).mono λs e=>DO.2 oc)
def A01(x:Int)(h:True):Tot (ZN x) (λr:DM=>r.length<=10000000):=by
 unfold ZN
 repeat' first
  |(with_reducible first|refine DN.2 ?_|refine DO.2 ?_|refine(KD.1 _ ?_).mono λ_ _=>?_)
  |dsimp only
 omega
instance AMA:t6 i_ (λx=>MC x) (λ_ r=>r.1.length<=100):=⟨λx h=>by
 unfold i_;refine DN.2 (Tot.mono (P:=λr:DM=>r.length<=10000000) ?_ λd b=>?_)
 .rcases x with x|x|x|x|x|x
  .exact DN.2 ((zY _ h).mono λ_ h=>DO.2 oa)
  .exact DN.2 ((zZ.1 _ h).mono λ_ h=>DO.2 oa)
  .exact DN.2 ((z_.1 _ h).mono λ_ h=>DO.2 h)
  .exact DN.2 ((A00 _ h).mono λ_ h=>DO.2 h)
  .simp_all[DN,A01,trivial,DO]
  .exact h.elim
 .refine DP.2 ⟨λ_=>DO.2 oh,λa=>DO.2 ?_⟩;grind⟩
instance oP:t6 TI (λx=>x.2.length<=1048576) (λ_ r=>r.1.length<=100):=⟨by unfold TI;exact ti⟩
instance:t6 vJ (λx=>(∀p,Tot (x.2.2.1 p) λ_=>True)/\x.2.2.2.1=20/\0<=x.2.2.2.2.1/\x.2.2.2.2.2=x.2.2.2.2.1+20/\x.2.1=x.1.length/\x.2.1<=1048576/\x.2.2.2.2.1<=x.2.1) (λx r=>r.1.length=x.1.length/\(∀q∈r.1,q∈x.1)/\0<=r.2/\r.2<=x.2.1):=td (λx y=>y.2.1=x.2.1/\y.2.2.1=x.2.2.1/\y.2.2.2.1=x.2.2.2.1/\y.1.length=x.1.length/\∀q∈y.1,q∈x.1) (λy=>(y.2.1-y.2.2.2.2.1).toNat) (by unfold A3p;exact ti)
instance:t6 vK (λx=>(∀p,Tot (x.2.2.1 p) λ_=>True)/\0<x.2.2.2.1/\x.2.2.2.1<x.2.1/\0<=x.2.2.2.2.1/\x.2.2.2.2.2=x.2.2.2.2.1+2*x.2.2.2.1/\x.2.1=x.1.length/\x.2.1<=1048576/\x.2.2.2.2.1<=x.2.1) (λx r=>r.1.length=x.1.length/\(∀q∈r.1,q∈x.1)/\0<=r.2/\r.2<=x.2.1):=td (λx y=>y.2.1=x.2.1/\y.2.2.1=x.2.2.1/\y.2.2.2.1=x.2.2.2.1/\y.1.length=x.1.length/\∀q∈y.1,q∈x.1) (λy=>(y.2.1-y.2.2.2.2.1).toNat) (by unfold A3q;exact ti)
instance:t6 vL (λx=>(∀p,Tot (x.2.2.1 p) λ_=>True)/\0<x.2.2.2/\x.2.2.2<=2097152/\x.2.1=x.1.length/\x.2.1<=1048576) (λx r=>r.length=x.1.length/\(∀q∈r,q∈x.1)):=td (λx y=>y.2.1=x.2.1/\y.2.2.1=x.2.2.1/\y.1.length=x.1.length/\∀q∈y.1,q∈x.1) (λy=>(2097153-y.2.2.2).toNat) (by unfold A3r;exact ti)
instance:t6 gO (λx=>(∀p,Tot (x.2.2 p) λ_=>True)/\x.2.1=x.1.length/\x.2.1<=1048576) (λx r=>r.length=x.1.length/\(∀q∈r,q∈x.1)):=⟨by unfold gO;exact ti⟩
instance AMF:t6 gP (λx=>(∀p,Tot (x.2 p) λ_=>True)/\x.1.length<=1048576) (λx r=>r.length=x.1.length/\(∀q∈r,q∈x.1)):=⟨by unfold gP;exact ti⟩
instance:t6 wX (λx=>(∀p,Tot (x.2.2.1 p) λ_=>True)/\x.2.2.2.1=20/\0<=x.2.2.2.2.1/\x.2.2.2.2.2=x.2.2.2.2.1+20/\x.2.1=x.1.length/\x.2.1<=1048576/\x.2.2.2.2.1<=x.2.1) (λx r=>r.1.length=x.1.length/\(∀q∈r.1,q∈x.1)/\0<=r.2/\r.2<=x.2.1):=td (λx y=>y.2.1=x.2.1/\y.2.2.1=x.2.2.1/\y.2.2.2.1=x.2.2.2.1/\y.1.length=x.1.length/\∀q∈y.1,q∈x.1) (λy=>(y.2.1-y.2.2.2.2.1).toNat) (by unfold A4V;exact ti)
instance:t6 wY (λx=>(∀p,Tot (x.2.2.1 p) λ_=>True)/\0<x.2.2.2.1/\x.2.2.2.1<x.2.1/\0<=x.2.2.2.2.1/\x.2.2.2.2.2=x.2.2.2.2.1+2*x.2.2.2.1/\x.2.1=x.1.length/\x.2.1<=1048576/\x.2.2.2.2.1<=x.2.1) (λx r=>r.1.length=x.1.length/\(∀q∈r.1,q∈x.1)/\0<=r.2/\r.2<=x.2.1):=td (λx y=>y.2.1=x.2.1/\y.2.2.1=x.2.2.1/\y.2.2.2.1=x.2.2.2.1/\y.1.length=x.1.length/\∀q∈y.1,q∈x.1) (λy=>(y.2.1-y.2.2.2.2.1).toNat) (by unfold A4W;exact ti)
instance:t6 wZ (λx=>(∀p,Tot (x.2.2.1 p) λ_=>True)/\0<x.2.2.2/\x.2.2.2<=2097152/\x.2.1=x.1.length/\x.2.1<=1048576) (λx r=>r.length=x.1.length/\(∀q∈r,q∈x.1)):=td (λx y=>y.2.1=x.2.1/\y.2.2.1=x.2.2.1/\y.1.length=x.1.length/\∀q∈y.1,q∈x.1) (λy=>(2097153-y.2.2.2).toNat) (by unfold A4X;exact ti)
instance:t6 jK (λx=>(∀p,Tot (x.2.2 p) λ_=>True)/\x.2.1=x.1.length/\x.2.1<=1048576) (λx r=>r.length=x.1.length/\(∀q∈r,q∈x.1)):=⟨by unfold jK;exact ti⟩
instance AMK:t6 jL (λx=>(∀p,Tot (x.2 p) λ_=>True)/\x.1.length<=1048576) (λx r=>r.length=x.1.length/\(∀q∈r,q∈x.1)):=⟨by unfold jL;exact ti⟩
instance:t6 VJ (λ_=>True) (λ_ _=>True):=⟨by unfold VJ;exact ti⟩
instance:t6 LP (λ_=>True) (λ_ r=>-1<=r/\r<=1):=⟨by unfold LP;exact ti⟩
instance AMM:t6 gQ (λ_=>True) (λ_ _=>True):=⟨by unfold gQ;exact ti⟩
def AMN(x:DM×Int×Int)(h:x.1.length<=3000/\x.2.1=0/\x.2.2= -1):Tot (gJ x) (λr:IA×ER=>r.1.2.2.2.2.1.length<=1048576):=by
 unfold gJ;obtain⟨g1,g2,g3⟩:=h;refine DN.2 ((A6V.1 _ ⟨oc,oc,oc⟩).mono λr1 h1=>?_);dsimp only at h1;refine DP.2 ⟨λ_=>DO.2 oh,λ_=>?_⟩;refine DN.2 ((A6Y.1 _ ⟨by rw[h1.1];omega,h1.2.1,oc⟩).mono λj J=>?_);obtain⟨l,R,y,T,U,z⟩:=J;rw[h1.1]at l y;rw[EI oa oa];refine DN.2 (I5.2 ⟨⟨oa,oa,oa⟩,?_⟩);have hj:(Lib.join ((j.1.take ((j.1.length:Int)-1).toNat).drop (0:Int).toNat) [47]).length<=1048577*(1048576+1):=oJ (λs M=>z s (EL M)) oc oh;refine DN.2 ((WI _ ⟨oc,oc⟩).mono λr4 h4=>?_);refine DN.2 (EJ.2 ⟨⟨oa,oa⟩,λy5 N=>?_⟩);refine DN.2 (Tot.mono (P:=λw:Int=>w=0\/j.2.2.1<j.2.1.length) ?_ λw h6=>?_)
 .refine DP.2 ⟨λ_=>(TT.1 _ ⟨_,rfl,oa⟩).mono λr L=>?_,λ_=>DO.2 (Or.inl rfl)⟩;simp_all
 refine DN.2 ((AK7.1 _ ⟨oc,oc,oc,λK=>?_,oh⟩).mono λr8 p=>?_)
 .simp_all[DU]
 dsimp only at p;obtain⟨m,V,A,W,X,Y,Z,B⟩:=p;rw[l]at m A;refine DN.2 ((AK8.1 _ ⟨oc,oc,oc,?_,oh,?_⟩).mono λd a=>?_)
 .dsimp only;rw[B];simp;omega
 .simp_all
 dsimp only at a;obtain⟨C,c2,E,c4,c5,c6,c7,c8,G,D⟩:=a;rw[m]at C E;refine DN.2 (Tot.mono (P:=λe:Int=>e=0\/d.1.2.1<d.1.1.length) ?_ λe I=>?_)
 .refine DP.2 ⟨λ_=>(TT.1 _ ⟨_,rfl,oa⟩).mono λr L=>?_,λ_=>DO.2 (Or.inl rfl)⟩;simp_all
 refine DN.2 ((AKD _ ⟨oc,oc,oc,λK=>?_,?_⟩).mono λO b=>?_)
 .simp_all[DU]
 .grind
 dsimp only at b;obtain⟨d1,d2,d3,d4,d5,d6,d7,H,d9⟩:=b;refine DP.2 ⟨λ_=>DN.2 ((QD.1 _ trivial).mono λQ _=>DO.2 ?_),λ_=>DO.2 ?_⟩<;>
 .dsimp only;rw[H];exact G
def AMO(x:I4×IA×Int)(h:1<=x.2.2/\x.2.1.2.2.2.2.1.length<=1048576):Tot (vN x) (λr:Sum (I4×IA) (I4×Int×Int)=>(∀y,r=.inl y->y.2.2.2.2.2.1.length<=1048576)/\∀y,r=.inr y->y.2.2≠0):=by
 refine ES (R:=λr:Sum (I4×IA) (I4×Int×Int)=>(∀y,r=.inl y->y.2.2.2.2.2.1.length<=1048576)/\∀y,r=.inr y->y.2.2≠0)
  (λy:I4×IA×Int=>1<=y.2.2/\y.2.1.2.2.2.2.1.length<=1048576) (λy:I4×IA×Int=>(y.2.1.2.2.2.2.1.length-y.2.2:Int).toNat) ?_ _ _ h (by unfold fuel;omega)
 rintro next ⟨e,p,i⟩ h d
 dsimp only at h d;unfold A3t;dsimp only;refine DP.2 ⟨λb=>?_,λ_=>DO.2 ⟨λy a=>oc,λy a=>by cases a⟩⟩;have b:=AC b;rw[EI oa oa,EI oa oa];refine DN.2 (EV.2 ⟨⟨oa,oa⟩,?_⟩);refine DN.2 (EV.2 ⟨⟨oa,oa⟩,?_⟩);refine DP.2 ⟨λ_=>DO.2 ⟨λy a=>(by cases a),λy a=>(by cases a;simp)⟩,λ_=>?_⟩;exact d _ ⟨oc,oc⟩ om
instance AMP:t6 VN (λx=>x.length<=1048576) (λ_ r=>r.2.2=0->r.1.2.2.2.2.1.length<=1048576):=⟨λx h=>by
 unfold VN;refine DP.2 ⟨λ_=>DO.2 oh,λj=>?_⟩;have j:=AG j;refine DN.2 ((AMN _ ⟨oc,rfl,rfl⟩).mono λB m=>?_);refine DP.2 ⟨λ_=>DO.2 oh,λ_=>?_⟩;refine DN.2 ((AMF.1 _ ⟨λc=>clo (AMM.1 c trivial),m⟩).mono λC A=>?_);refine DN.2 ((AMO _ ⟨oh,oc⟩).mono λz e=>?_);rcases z with y|y
 .have s:=e.1 y rfl;refine DN.2 ((bB _ s).mono λd a=>?_);refine DP.2 ⟨λb=>DO.2 λh0=>?_,λb=>?_⟩
  .simp
  .rw[DU]at b;have h0:d=0:=by simpa using b
   have p:=a h0;refine DN.2 ((oH _ p).mono λw l=>DO.2 λ_=>?_);grind
 .exact DO.2 λh0=>absurd h0 (e.2 y rfl)⟩
instance AMQ:t6 gV (λx=>x.length<=1048576) (λ_ _=>True):=⟨by unfold gV;exact ti⟩
def AMR(x:GP×JG×Int×Int)(h:0<=x.2.2.2/\x.2.2.2<=x.2.2.1/\x.2.2.1=x.2.1.length/\x.2.2.1<=281474976710656/\(∀v∈x.2.1,v.2.length<=1048576)/\(∀j:Nat,(j:Int)<x.2.2.2->∀v,x.2.1[j]?=some v->1<=v.1/\v.1<=3)):Tot (wF x) (λr:Sum (Unit) (Int)=>(∀y,r=.inl y->∀v∈x.2.1,1<=v.1/\v.1<=3)/\∀y,r=.inr y->y≠0):=by
 refine ES (R:=λr:Sum Unit Int=>(∀y,r=.inl y->∀v∈x.2.1,1<=v.1/\v.1<=3)/\∀y,r=.inr y->y≠0)
  (λy:Af×JG×Int×Int=>0<=y.2.2.2/\y.2.2.2<=y.2.2.1/\y.2.2.1=y.2.1.length/\y.2.2.1<=281474976710656/\y.2.1=x.2.1/\(∀v∈y.2.1,v.2.length<=1048576)/\∀j:Nat,(j:Int)<y.2.2.2->∀v,y.2.1[j]?=some v->1<=v.1/\v.1<=3)
  (λy=>(y.2.2.1-y.2.2.2).toNat) ?_ _ _ ⟨h.1,h.2.1,h.2.2.1,h.2.2.2.1,rfl,h.2.2.2.2⟩ (by exact qE)
 rintro next ⟨a,l,n,i⟩ s z
 dsimp only at s z;obtain⟨i0,i1,G,H,A,B,I⟩:=s;unfold A4E;dsimp only;refine DP.2 ⟨λe=>?_,λe=>DO.2 ⟨λy _ v p=>?_,λy b=>(by cases b)⟩⟩
 .have e:=AC e;rw[EI oa oa];refine DN.2 (EJ.2 ⟨⟨i0,oa⟩,λv p=>?_⟩);refine DP.2 ⟨λ_=>DO.2 ⟨λy b=>(by cases b),λy b=>(by cases b;decide)⟩,λhk=>?_⟩
  have hk:1<=v.1/\v.1<=3:=by
   have:=BL.1 hk;have h1:=AG this.1;have J:=AG this.2;omega
  have d:∀j:Nat,(j:Int)<i+1->∀v,l[j]?=some v->1<=v.1/\v.1<=3:=by
   intro j C w L;by_cases D:(j:Int)<i
   .grind
   .grind
  have m:Tot (next (a,l,n,i+1)) (λr:Sum Unit Int=>(∀y,r=.inl y->∀v∈x.2.1,1<=v.1/\v.1<=3)/\∀y,r=.inr y->y≠0):=
   z _ ⟨oc,oc,G,H,A,B,d⟩ oc
  refine DP.2 ⟨λ_=>DP.2 ⟨λ_=>DO.2 ⟨λy b=>(by cases b),λy b=>(by cases b;decide)⟩,λ_=>m⟩,λ_=>?_⟩;refine DN.2 ((oP.1 (a.2.1,v.2) (B v (OT p))).mono λr _=>?_);refine DP.2 ⟨λK=>DO.2 ⟨λy b=>(by cases b),λy b=>?_⟩,λ_=>m⟩;grind[DU]
 .have e:=AG e;rw[<-A]at p;have⟨j,C,E⟩:=List.mem_iff_getElem.1 p;exact I j oa v oc
def AMS(x:DM×Int×JG×(List DM)×(List DM))(h:OS x):Tot (j6 x) (λr:Int=>r=0->x.2.2.1.length<=100/\∀v∈x.2.2.1,1<=v.1/\v.1<=3):=by
 unfold j6;refine DP.2 ⟨λ_=>DO.2 λh0=>absurd h0 oi,λa=>?_⟩;have a:=AG a;refine DN.2 ((AMR _ ⟨AS _,B9 _,rfl,oc,h.2.2.1,λj d=>oc⟩).mono λr b=>?_);rcases r with r|r
 .exact DO.2 λ_=>⟨oa,b.1 r rfl⟩
 .exact DO.2 λh0=>absurd h0 (b.2 r rfl)
instance AMT:t6 wG (λx=>0<=x.2.2.2/\x.2.2.2<=x.2.2.1/\x.2.2.1<=281474976710656/\x.2.2.1=x.1.length/\x.2.2.1<=1048576) (λ_ _=>True):=td (λ_ y=>(0≤y.2.2.2∧y.2.2.2≤y.2.2.1∧y.2.2.1≤281474976710656∧y.2.2.1=y.1.length∧y.2.2.1≤1048576)) (λy=>(y.2.2.1-y.2.2.2).toNat) (by unfold A4F;exact ti)
instance AMU:t6 wH (λx=>0<=x.2.2.2/\x.2.2.2<=x.2.2.1/\x.2.2.1=x.2.1.length/\x.2.2.1<=281474976710656/\x.1=x.2.1/\∀s∈x.2.1,s.length<=1048576) (λ_ r=>∀y,r=.inr y->y≠0):=⟨λx h=>by
 refine ES (R:=λr:Sum Unit Int=>∀y,r=.inr y->y≠0)
  (λy:(List DM)×(List DM)×Int×Int=>0<=y.2.2.2/\y.2.2.2<=y.2.2.1/\y.2.2.1=y.2.1.length/\y.2.2.1<=281474976710656/\y.1=y.2.1/\∀v∈y.2.1,v.length<=1048576)
  (λy=>(y.2.2.1-y.2.2.2).toNat) ?_ _ _ h (by exact qE)
 rintro next ⟨a,l,n,i⟩ e m
 dsimp only at e m;obtain⟨i0,i1,B,C,z,A⟩:=e;subst z;unfold A4G;dsimp only;refine DP.2 ⟨λd=>?_,λd=>DO.2 λy b=>(by cases b)⟩;have d:=AC d;rw[EI (n:=i+1) oa oa,EI oa oa];refine DN.2 (EJ.2 ⟨⟨i0,oa⟩,λv p=>?_⟩);have w:=A v (OT p);refine DN.2 ((AMT.1 _ ⟨AS _,B9 _,oc,rfl,oc⟩).mono λr _=>?_);refine DP.2 ⟨λ_=>DO.2 λy b=>(by cases b;decide),λ_=>?_⟩;refine DN.2 (Tot.mono (P:=λ_=>True) (DP.2 ⟨λj=>?_,λ_=>DO.2 trivial⟩) λD _=>?_)
 .have j:=AC j;exact EJ.2 ⟨⟨oa,oa⟩,λ_ _=>trivial⟩
 .refine DP.2 ⟨λ_=>DO.2 λy b=>(by cases b;decide),λ_=>?_⟩;grind⟩
instance AMV:t6 j7 (λx=>∀s∈x,s.length<=1048576) (λ_ _=>True):=⟨by unfold j7;exact ti⟩
instance AMW:t6 wI (λx=>0<=x.2.2.2/\x.2.2.2<=x.2.2.1/\x.2.2.1=x.2.1.length/\x.2.2.1<=281474976710656/\∀s∈x.2.1,s.length<=1048576) (λx r=>(∀y,r=.inl y->y=x.1)/\∀y,r=.inr y->y≠0):=td (λx y=>y.1=x.1) (λy=>(y.2.2.1-y.2.2.2).toNat) (by unfold A4H;exact ti)
def AMX(x:DM×Int×JG×(List DM)×(List DM))(h:OS x):Tot (j8 x) (λr:Int=>r=0->zW x):=by
 unfold j8;refine DN.2 ((AMQ.1 _ h.1).mono λp _=>?_);refine DP.2 ⟨λ_=>DO.2 λh0=>absurd h0 oi,λ_=>?_⟩;refine DP.2 ⟨λ_=>DO.2 λh0=>absurd h0 oi,λ_=>?_⟩;refine DN.2 ((AMS _ h).mono λl d=>?_);refine DP.2 ⟨λb=>DO.2 λh0=>?_,λb=>?_⟩
 .grind[DU]
 have a:l=0:=by rw[DU]at b;simpa using b
 refine DP.2 ⟨λ_=>DO.2 λh0=>absurd h0 oi,λj=>?_⟩;have j:=AG j;refine DN.2 ((AMW.1 _ ⟨AS _,B9 _,rfl,oc,h.2.2.2.2.1⟩).mono λm e=>?_);rcases m with y|y
 .have:=e.1 y rfl;subst this;exact DN.2 ((AMV.1 _ h.2.2.2.2.2.2).mono λs _=>DO.2 λ_=>⟨(d a).1,(d a).2,oa⟩)
 .exact DO.2 λh0=>absurd h0 (e.2 y rfl)
instance:t6 j9 (λ_=>True) (λ_ r=>r.length=4):=⟨by unfold j9;exact ti⟩
def AMZ(x:(Int->Option DM)×(List Int)×(List Int)×Int×Int)(h:0<=x.2.2.2.2/\x.2.2.2.2<=x.2.2.2.1/\x.2.2.2.1=x.2.2.1.length/\x.2.2.2.1<=281474976710656/\(∀n∈x.2.2.1,Tot (x.1 n) λs=>s.length<=100)/\x.2.2.2.1<=1002/\x.2.1.length<=100*x.2.2.2.2):Tot (wJ x) (λr:List Int=>r.length<=100200):=by
 refine ES (R:=λr:List Int=>r.length<=100200) (λy:(Int->Option DM)×(List Int)×(List Int)×Int×Int=>0<=y.2.2.2.2/\y.2.2.2.2<=y.2.2.2.1/\y.2.2.2.1=y.2.2.1.length/\y.2.2.2.1<=281474976710656/\(∀n∈y.2.2.1,Tot (y.1 n) λs=>s.length<=100)/\y.2.2.2.1<=1002/\y.2.1.length<=100*y.2.2.2.2)
  (λy=>(y.2.2.2.1-y.2.2.2.2).toNat) ?_ _ _ h (by exact qE)
 rintro next ⟨f,b,l,n,i⟩ d e
 dsimp only at d e;obtain⟨i0,i1,z,A,m,B,C⟩:=d;unfold A4I;dsimp only;refine DP.2 ⟨λa=>?_,λa=>DO.2 oa⟩;have a:=AC a;rw[EI oa oa];refine DN.2 (EJ.2 ⟨⟨i0,oa⟩,λv j=>?_⟩);refine DN.2 ((m v (OT j)).mono λs w=>?_);refine DN.2 ((bA.1 _ ⟨oc,oc⟩).mono λD p=>?_);grind
def A7A(x:(List Int)×DM×(Int->Option DM))(h:(∀n∈x.1,Tot (x.2.2 n) λs=>s.length<=100)/\x.1.length<=1002/\x.2.1.length<=10):Tot (ZO x) (λr:DM=>r.length<=100210):=by
 obtain⟨l,e,f⟩:=x;dsimp only at h ⊢;unfold ZO;obtain⟨h1,a,b⟩:=h;dsimp only;refine DN.2 ((AMZ _ ⟨AS _,B9 _,rfl,oc,h1,oc,oh⟩).mono λr d=>?_);refine DN.2 ((TU.1 _ trivial).mono λs j=>?_);grind[DN,FT,DO,List.length_append]
def AM_(x:(DM->Option DM)×(List Int)×(List DM)×Int×Int)(h:0<=x.2.2.2.2/\x.2.2.2.2<=x.2.2.2.1/\x.2.2.2.1=x.2.2.1.length/\x.2.2.2.1<=281474976710656/\(∀n∈x.2.2.1,Tot (x.1 n) λs=>s.length<=3000)/\x.2.2.2.1<=1002/\x.2.1.length<=3000*x.2.2.2.2):Tot (wK x) (λr:List Int=>r.length<=3006000):=by
 refine ES (R:=λr:List Int=>r.length<=3006000) (λy:(DM->Option DM)×(List Int)×(List DM)×Int×Int=>0<=y.2.2.2.2/\y.2.2.2.2<=y.2.2.2.1/\y.2.2.2.1=y.2.2.1.length/\y.2.2.2.1<=281474976710656/\(∀n∈y.2.2.1,Tot (y.1 n) λs=>s.length<=3000)/\y.2.2.2.1<=1002/\y.2.1.length<=3000*y.2.2.2.2)
  (λy=>(y.2.2.2.1-y.2.2.2.2).toNat) ?_ _ _ h (by exact qE)
 rintro next ⟨f,b,l,n,i⟩ d e
 dsimp only at d e;obtain⟨i0,i1,z,A,m,B,C⟩:=d;unfold A4J;dsimp only;refine DP.2 ⟨λa=>?_,λa=>DO.2 oa⟩;have a:=AC a;rw[EI oa oa];refine DN.2 (EJ.2 ⟨⟨i0,oa⟩,λv j=>?_⟩);refine DN.2 ((m v (OT j)).mono λs w=>?_);refine DN.2 ((bA.1 _ ⟨oc,oc⟩).mono λD p=>?_);grind
def A7B(x:(List DM)×DM×(DM->Option DM))(h:(∀n∈x.1,Tot (x.2.2 n) λs=>s.length<=3000)/\x.1.length<=1002/\x.2.1.length<=10):Tot (ZP x) (λr:DM=>r.length<=3006010):=by
 obtain⟨l,e,f⟩:=x;dsimp only at h ⊢;unfold ZP;obtain⟨h1,a,b⟩:=h;dsimp only;refine DN.2 ((AM_ _ ⟨AS _,B9 _,rfl,oc,h1,oc,oh⟩).mono λr d=>?_);refine DN.2 ((TU.1 _ trivial).mono λs j=>?_);grind[DN,FT,DO,List.length_append]
instance AMa:t6 jA (λx=>x.length<=1000) (λ_ r=>r.length<=3000):=⟨by unfold jA;exact ti⟩
def oQ(x:(List Int)×(List DM))(h:oI x):Tot (NR x) (λr:DM=>r.length<=10000000):=by
 unfold NR;obtain⟨h1,b,d,e⟩:=h;refine DN.2 (I5.2 ⟨⟨oa,oa,oa⟩,?_⟩);refine DN.2 ((A7A _ ⟨λn j=>DN.2 ((L4.1 n (b n (EL j))).mono λr a=>DO.2 oa),oc,oh⟩).mono λw l=>?_);refine DP.2 ⟨λ_=>DN.2 (FT.2 ⟨ot,DO.2 ot⟩),λ_=>?_⟩;refine DN.2 (FT.2 ⟨ot,?_⟩);refine DN.2 ((A7B _ ⟨λs p=>DN.2 ((AMa.1 s (e s p)).mono λr a=>DO.2 a),d,oh⟩).mono λy m=>?_);grind[DN,FT,DO]
instance oR:t6 NT (λx=>bC x) (λ_ r=>r.length<=10000000):=⟨by unfold NT;exact ti⟩
instance AMb:t6 jB (λx=>0<=x/\x<=999999999999999999) (λ_ r=>r.length<=100):=⟨by unfold jB;exact ti⟩
instance AMc:t6 jC (λx=>0<=x.2.2.1/\x.2.2.1<=3) (λ_ r=>0<=r/\r<=4):=⟨by unfold jC;exact ti⟩
instance AMd:t6 jD (λx=>x<=999999999999999999) (λ_ r=>r.length<=30):=⟨by unfold jD;exact ti⟩
instance AMe:t6 jE (λx=>x.length<=1000) (λ_ r=>r.length<=3000):=⟨by unfold jE;exact ti⟩
instance AMf:t6 jF (λx=>(x.2.2=true->0<=x.1.2.2.2.2.2.1/\x.1.2.2.2.2.2.1<=999999999999999999)/\x.2.1.length<=10000000) (λx r=>r.1=x.1/\r.2.length<=x.2.1.length+30):=⟨by unfold jF;exact ti⟩
def oS(x:Int×(List Int)×Int×Int×Int×Int×(List DM))(h:OR x):Tot (NU x) (λr:DM=>r.length<=10000000):=by
 unfold NU;obtain⟨h1,j,l,m,p,w,y⟩:=h;refine DN.2 ((L4.1 _ h1).mono λL D=>?_);refine DN.2 ((A78.1 _ j).mono λM d=>?_);refine DN.2 ((A7A _ ⟨λn A=>DN.2 ((AMb.1 n (d.2 n A)).mono λr b=>DO.2 b),d.1,oh⟩).mono λN E=>?_);refine DN.2 (FT.2 ⟨oa,?_⟩);refine DN.2 ((AMc.1 _ l).mono λO G=>?_);refine DN.2 ((KD.1 _ trivial).mono λQ H=>?_);refine DN.2 ((L4.1 _ m).mono λR I=>?_);refine DN.2 (FT.2 ⟨oa,?_⟩);refine DN.2 ((AMd.1 _ p.2).mono λT J=>?_);refine DN.2 (FT.2 ⟨oc,?_⟩);refine DN.2 (FT.2 ⟨oc,?_⟩);refine DN.2 ((AMf.1 _ ⟨λz=>⟨AC z,w.2⟩,oc⟩).mono λB a=>?_);simp only[AI]at a;refine DP.2 ⟨λ_=>DN.2 (FT.2 ⟨ot,DO.2 ot⟩),λ_=>?_⟩;refine DN.2 (FT.2 ⟨ot,?_⟩);refine DN.2 ((A7B _ ⟨λs K=>DN.2 ((AMe.1 s (y.2 s oc)).mono λr b=>DO.2 b),oc,oh⟩).mono λC e=>?_);grind[DN,FT,DO]
instance:t6 ZQ (λ_=>True) (λ_ r=>r.length=5):=⟨by unfold ZQ;exact ti⟩
instance:t6 wL (λx=>th x.2.2.2 x.2.2.1 x.1.length) (λx r=>∀y,r=.inr y->0<=y/\y<x.1.length):=td (λx y=>y.1=x.1) (λy=>(y.2.2.1-y.2.2.2).toNat) (by unfold A4K;exact ti)
instance A7D:t6 ZR (λx=>x.1.length<=1048576) (λx r=>-1<=r/\r<x.1.length):=⟨by unfold ZR;exact ti⟩
def oT(x:(List DM)×DM)(h:x.1.length<=1048576):Tot (OM x) (λr:Bool=>True):=by
 obtain⟨s,a⟩:=x;try dsimp only at h ⊢
 unfold OM
 repeat' first
  |(with_reducible first|refine DN.2 ?_|refine DO.2 ?_|refine(A7D.1 _ ?_).mono λ_ _=>?_)
  |dsimp only
 assumption
instance:t6 OM (λx=>x.1.length<=1048576) (λ_ r=>True):=⟨oT⟩
instance:t6 VP (λ_=>True) (λ_ _=>True):=⟨by unfold VP;exact ti⟩
instance:t6 ZS (λx=>x.2.1.length<=5000/\0<=x.2.2/\x.2.2<=999999999999999999) (λ_ r=>r.length<=6000):=⟨by unfold ZS;exact ti⟩
instance:t6 wM (λx=>th x.2.2.2.2 x.2.2.2.1 x.2.2.1.length/\x.1.length<=7000*x.2.2.2.2/\0<=x.2.1/\x.2.1<=x.2.2.2.2/\x.2.2.2.1<=1002/\(∀t∈x.2.2.1,t.2.1.length<=5000/\0<=t.2.2/\t.2.2<=999999999999999999)) (λ_ r=>r.length<=7014000):=td (λ_ _=>True) (λy=>(y.2.2.2.1-y.2.2.2.2).toNat) (by unfold A4L;exact ti)
instance oU:t6 NV (λx=>TS x) (λ_ r=>r.length<=10000000):=⟨by unfold NV;exact ti⟩
instance oV:t6 NW (λx=>0<=x/\x<=999999999999999999) (λ_ r=>r.length<=10000000):=⟨by unfold NW;exact ti⟩
instance AMj:t6 VQ (λx=>x.2.length<=1048576) (λ_ r=>r.1.length<=10000000):=⟨λx h=>by
 unfold VQ;refine DN.2 ((TX.1 _ h).mono λd h1=>?_);refine DP.2 ⟨λ_=>DO.2 oh,λb=>?_⟩;have h0:d.2=0:=by rw[DU]at b;simpa using b
 have a:=h1 h0;revert a;generalize d.1=v;intro a;refine DN.2 (Tot.mono (P:=λr:DM=>r.length<=10000000) ?_ λj e=>DO.2 e)
 .rcases v with x|x|x|x|x|x
  .exact DN.2 ((oQ _ a).mono λ_ h=>DO.2 oa)
  .exact DN.2 ((oR.1 _ a).mono λ_ h=>DO.2 oa)
  .exact DN.2 ((oS _ a).mono λ_ h=>DO.2 oa)
  .exact DN.2 ((oU.1 _ a).mono λ_ h=>DO.2 oa)
  .exact DN.2 ((oV.1 _ a).mono λ_ h=>DO.2 oa)
  .exact a.elim⟩
instance:t6 fZ (λx=>th x.2.2.2 x.2.2.1 x.2.1.length) (λ_ _=>True):=td (λ_ _=>True) (λy=>(y.2.2.1-y.2.2.2).toNat) (by unfold fY;exact ti)
instance:t6 RU (λx=>x.length<=1048576) (λ_ _=>True):=⟨by unfold RU;exact ti⟩
instance AMm:t6 jM (λ_=>True) (λ_ _=>True):=⟨by unfold jM;exact ti⟩
instance AMn:t6 w_ (λx=>0<=x.2.2.2.2/\x.2.2.2.2<=x.2.2.2.1/\x.2.2.2.1=x.2.2.1.length/\x.2.2.2.1<=281474976710656/\x.2.1.length<=x.2.2.2.2/\(∀m∈x.2.1,m.2.2.1.length<=100)/\(∀v∈x.2.2.1,v.2.length<=1048576/\1<=v.1/\v.1<=3)/\x.2.2.2.1<=100) (λ_ r=>r.length<=100/\∀m∈r,m.2.2.1.length<=100):=td (λ_ _=>True) (λy=>(y.2.2.2.1-y.2.2.2.2).toNat) (by unfold A4Y;exact ti)
def AMo(x:DM×Int×JG×(List DM)×(List DM))(h:OS x/\zW x):Tot (jN x) (λr:List D_=>r.length<=100/\∀m∈r,m.2.2.1.length<=100):=by
 unfold jN;obtain⟨h1,e,b,j⟩:=h;refine DN.2 ((AMn.1 _ ⟨AS _,B9 _,rfl,oc,oh,oh,λv a=>⟨h1.2.2.1 v a,b v a⟩,oc⟩).mono λr l=>?_);refine DN.2 ((AMK.1 _ ⟨λc=>clo (AMm.1 c trivial),oc⟩).mono λp d=>DO.2 ?_);grind
instance AMp:t6 x6 (λx=>0<=x.2.2.2.2.2/\x.2.2.2.2.2<=x.2.2.2.2.1/\x.2.2.2.2.1=x.2.2.2.1.length/\x.2.2.2.2.1<=281474976710656/\x.1.length<=x.2.2.2.2.2/\(∀s∈x.1,GV s)/\x.2.2.1.2.2.length<=100/\x.2.2.2.2.1<=100/\∀m∈x.2.2.2.1,m.2.2.1.length<=100) (λ_ r=>r.1.length<=100/\(∀s∈r.1,GV s)/\r.2.2.2.2.length<=100):=td (λ_ _=>True) (λy=>(y.2.2.2.2.1-y.2.2.2.2.2).toNat) (by unfold A4Z;exact ti)
instance AMq:t6 jO (λx=>x.1.length<=100/\(∀s∈x.1,GV s)/\x.2.1.2.2.length<=100) (λ_ r=>r.length<=101/\(∀s∈r,GV s)):=⟨by unfold jO;exact ti⟩
instance AMr:t6 x7 (λx=>0<=x.2.2.2.2/\x.2.2.2.2<=x.2.2.2.1/\x.2.2.2.1=x.2.2.1.length/\x.2.2.2.1<=281474976710656/\x.2.1.length<=101+x.2.2.2.2/\(∀s∈x.2.1,GV s)/\x.2.2.2.1<=500/\∀m∈x.2.2.1,m.length<=1048576) (λ_ r=>r.length<=601/\(∀s∈r,GV s)):=td (λ_ _=>True) (λy=>(y.2.2.2.1-y.2.2.2.2).toNat) (by unfold A4_;exact ti)
def AMs(x:DM×Int×JG×(List DM)×(List DM))(h:OS x/\zW x):Tot (jP x) (λr:List (GH×GH)=>r.length<=601/\(∀s∈r,GV s)):=by
 unfold jP;refine DN.2 ((AMo _ h).mono λr e=>?_);obtain⟨h1,l,m,p⟩:=h;refine DN.2 ((AMp.1 _ ⟨AS _,B9 _,rfl,oc,oh,oh,oh,oc,e.2⟩).mono λw b=>?_);refine DN.2 ((AMq.1 _ b).mono λy d=>?_);exact DN.2 ((AMr.1 _ ⟨AS _,B9 _,rfl,oc,oc,d.2,oc,h1.2.2.2.2.1⟩).mono λj a=>DO.2 a)
instance AMt:t6 RW (λx=>x.2.2.2.length<=1048576) (λ_ r=>True):=⟨λx h=>by
 unfold RW;refine DP.2 ⟨λ_=>DP.2 ⟨λ_=>DO.2 trivial,λ_=>DO.2 trivial⟩,λ_=>?_⟩;refine DN.2 ((TX.1 _ h).mono λd h1=>?_);refine DP.2 ⟨λ_=>DO.2 trivial,λb=>?_⟩;have h0:d.2=0:=by rw[DU]at b;simpa using b
 have a:=h1 h0;revert a;generalize d.1=v;intro a;refine DN.2 (Tot.mono (P:=λr:DM=>r.length<=10000000) ?_ λj e=>?_)
 .rcases v with x|x|x|x|x|x
  .exact DN.2 ((zY _ a).mono λ_ h=>DO.2 oa)
  .exact DN.2 ((zZ.1 _ a).mono λ_ h=>DO.2 oa)
  .exact DN.2 ((z_.1 _ a).mono λ_ h=>DO.2 oa)
  .exact DN.2 ((A00 _ a).mono λ_ h=>DO.2 oa)
  .simp_all[DN,A01,trivial,DO]
  .exact a.elim
 refine DP.2 ⟨λ_=>DO.2 trivial,λ_=>?_⟩;refine DN.2 (Tot.mono (P:=λr:DM=>r.length<=10000000) ?_ λj e=>DO.2 trivial)
 .rcases v with x|x|x|x|x|x
  .exact DN.2 ((oQ _ a).mono λ_ h=>DO.2 oa)
  .exact DN.2 ((oR.1 _ a).mono λ_ h=>DO.2 oa)
  .exact DN.2 ((oS _ a).mono λ_ h=>DO.2 oa)
  .exact DN.2 ((oU.1 _ a).mono λ_ h=>DO.2 oa)
  .exact DN.2 ((oV.1 _ a).mono λ_ h=>DO.2 oa)
  .exact a.elim⟩
instance A7F:t6 ZV (λx=>x.1.2.2.length<=100) (λ_ r=>r.2.2.2.length<=100):=⟨by unfold ZV;exact ti⟩
instance A7G:t6 ZW (λx=>x.1.2.2.length<=100) (λ_ r=>r.2.2.2.length<=100):=⟨by unfold ZW;exact ti⟩
instance:t6 jQ (λx=>x.1.1.2.2.2.length<=100/\x.2.1=0) (λx r=>r.1=x.1/\0<=r.2/\r.2<=1000000000000000000):=⟨by unfold jQ;exact ti⟩
instance AMv:t6 jR (λx=>x.1.2.2.2.length<=100/\x.2.2.2.2.length<=100) (λ_ r=>0<=r.1/\r.2.1<=999999999999999999/\(r.2.2=true->r.1<=r.2.1)):=⟨by unfold jR;exact ti⟩
instance AMw:t6 jS (λx=>0<=x.1/\x.1<=999999999999999999/\x.2.1.2.2.2.length<=100) (λ_ r=>r.2.2.2.length<=100):=⟨by unfold jS;exact ti⟩
instance AMx:t6 x8 (λx=>0<=x.2.2.2.2/\x.2.2.2.2<=x.2.2.2.1/\x.2.2.2.1=x.2.2.1.length/\x.2.2.2.1<=281474976710656/\x.1.length<=x.2.2.2.2/\(∀s∈x.1,HH s)/\(∀s∈x.2.2.1,HH s)/\x.2.2.2.1<=1048576/\ -2<=x.2.1/\x.2.1<=999999999999999999) (λ_ r=>r.length<=1048576/\∀s∈r,HH s):=⟨λx h=>by
 refine ES (R:=λr:List J0=>r.length<=1048576/\∀s∈r,HH s) (λy:(List J0)×Int×(List J0)×Int×Int=>0<=y.2.2.2.2/\y.2.2.2.2<=y.2.2.2.1/\y.2.2.2.1=y.2.2.1.length/\y.2.2.2.1<=281474976710656/\y.1.length<=y.2.2.2.2/\(∀s∈y.1,HH s)/\(∀s∈y.2.2.1,HH s)/\y.2.2.2.1<=1048576/\ -2<=y.2.1/\y.2.1<=999999999999999999)
  (λy=>(y.2.2.2.1-y.2.2.2.2).toNat) ?_ _ _ h (by exact qE)
 rintro next ⟨out,e,l,n,i⟩ B b
 dsimp only at B b;obtain⟨i0,i1,j,m,T,p,d,w,M,N⟩:=B;unfold A4a;dsimp only;refine DP.2 ⟨λz=>?_,λz=>DO.2 ⟨oa,p⟩⟩;have z:=AC z;rw[EI (n:=i+1) oa oa,EI (n:=e+1) oa oa];refine DN.2 (EJ.2 ⟨⟨i0,oa⟩,λv L=>?_⟩);have A:=d v (OT L);refine DN.2 ((AMv.1 _ A).mono λV D=>?_);obtain⟨C,U,O⟩:=D;refine DP.2 ⟨λ_=>b _ ⟨oc,oc,j,m,oc,p,d,w,M,N⟩ oc,λI=>?_⟩;have K:=O (by simpa using I);refine DN.2 (Tot.mono (P:=λr:Edge=>r.2.2.2.length<=100) ((AMw.1 _ ⟨oa,oa,oh⟩)) λW E=>?_);by_cases J:(0:Int)<out.length
 .rw[EI (n:=(out.length:Int)-1) oa oa];refine DP.2 ⟨λ_=>?_,λ_=>?_⟩
  .refine DN.2 (EV.2 ⟨⟨oa,oa⟩,?_⟩);refine b _ ⟨oc,oc,j,m,oc,λs a=>?_,d,w,oc,oa⟩ oc;dsimp only at a;rcases EB a with a|a
   .exact p s a
   .subst a;exact⟨(p _ (EA oa)).1,E⟩
  .refine DN.2 ((L4.1 _ ⟨C,oa⟩).mono λQ G=>?_);refine DN.2 ((KD.1 _ trivial).mono λR H=>?_);refine DN.2 (F9.2 ⟨oc,?_⟩);refine b _ ⟨oc,oc,j,m,oc,λs a=>?_,d,w,oc,oa⟩ oc;grind
 .rw[A9 J,C_];simp only[A8];refine DN.2 ((L4.1 _ ⟨C,oa⟩).mono λQ G=>?_);refine DN.2 ((KD.1 _ trivial).mono λR H=>?_);refine DN.2 (F9.2 ⟨oc,?_⟩);refine b _ ⟨oc,oc,j,m,oc,λs a=>?_,d,w,oc,oa⟩ oc;grind⟩
instance:t6 jT (λx=>(∀s∈x,HH s)/\x.length<=1048576) (λ_ r=>r.length<=1048576/\∀s∈r,HH s):=⟨by unfold jT;exact ti⟩
instance AMz:t6 jU (λx=>(∀s∈x.1,HH s)/\x.1.length<=1048576) (λ_ r=>r.length<=1048576/\∀s∈r,HH s):=⟨by unfold jU;exact ti⟩
instance:t6 jV (λx=>HH x.1/\GV x.2.1) (λx r=>r.1=x.1/\GV r.2):=⟨by unfold jV;exact ti⟩
instance AN1:t6 x9 (λx=>0<=x.2.2.2/\x.2.2.2<=x.2.2.1/\x.2.2.1=x.2.1.length/\x.2.2.1<=281474976710656/\x.1.2.length<=x.2.2.2/\x.2.2.1<=200/\(∀s∈x.2.1,HH s)/\(∀s∈x.1.2,GV s)) (λx r=>r.1=x.1.1/\r.2.length<=200/\∀s∈r.2,GV s):=td (λx y=>y.1.1=x.1.1) (λy=>(y.2.2.1-y.2.2.2).toNat) (by unfold A4b;exact ti)
theorem AN2(x:Int×(List FH))(h:(∀s∈x.2,HH s)/\x.2.length<=1048576):Tot (jW x) (λr:(Int×F6)×Int=>r.1.2.length<=200/\∀s∈r.1.2,GV s):=by
 obtain⟨a,l⟩:=x;try dsimp only at h ⊢
 unfold jW
 repeat' first
  |(with_reducible first|refine DP.2 ⟨λ_=>?_,λ_=>?_⟩|refine DN.2 ?_|refine DO.2 ?_|refine(AMz.1 _ ?_).mono λ_ _=>?_|refine(AN1.1 _ ?_).mono λ_ _=>?_)
  |dsimp only
 all_goals exact qu
instance AN3:t6 xA (λx=>0<=x.2.2.2.2.2/\x.2.2.2.2.2<=x.2.2.2.2.1/\x.2.2.2.2.1=x.2.2.2.1.length/\x.2.2.2.2.1<=281474976710656/\x.2.2.1.length<=x.2.2.2.2.2/\(∀s∈x.2.2.1,HH s)/\x.2.2.2.2.1<=1048576/\(∀s∈x.2.2.2.1,GV s)) (λ_ r=>(∀y,r=.inl y->y.2.length<=1048576/\∀s∈y.2,HH s)/\∀y,r=.inr y->y.1.2=[]):=td (λ_ _=>True) (λy=>(y.2.2.2.2.1-y.2.2.2.2.2).toNat) (by unfold A4c;exact ti)
def AN4(x:(List FH)×(List FH)×Int×Int)(h:0<=x.2.2.2/\x.2.2.2<=x.2.2.1/\x.2.2.1=x.2.1.length/\x.2.2.1<=281474976710656/\x.1.length<=x.2.2.2/\(∀s∈x.1,HH s)/\x.2.2.1<=1048576/\(∀s∈x.2.1,HH s)):Tot (xB x) (λr:List FH=>r.length<=1048576/\∀s∈r,HH s):=by
 refine ES (R:=λr:List J0=>r.length<=1048576/\∀s∈r,HH s) (λy:(List J0)×(List J0)×Int×Int=>0<=y.2.2.2/\y.2.2.2<=y.2.2.1/\y.2.2.1=y.2.1.length/\y.2.2.1<=281474976710656/\y.1.length<=y.2.2.2/\(∀s∈y.1,HH s)/\y.2.2.1<=1048576/\(∀s∈y.2.1,HH s))
  (λy=>(y.2.2.1-y.2.2.2).toNat) ?_ _ _ h (by exact qE)
 rintro next ⟨out,l,n,i⟩ C j
 dsimp only at C j;obtain⟨i0,i1,z,A,J,d,B,m⟩:=C;unfold A4d;dsimp only;refine DP.2 ⟨λp=>?_,λp=>DO.2 ⟨oa,d⟩⟩;have p:=AC p;rw[EI (n:=i+1) oa oa];refine DN.2 (EV.2 ⟨⟨i0,oa⟩,?_⟩);have E:=m _ (EA (l:=l) (i:=i.toNat) (d:=((0,(([]:DM),(false,([]:DM)))),(0,(([]:DM),(false,([]:DM)))))) oa);generalize l.getD i.toNat ((0,(([]:DM),(false,([]:DM)))),(0,(([]:DM),(false,([]:DM)))))=v at E;have b:∀(Q:List J0->Prop),Q (out++[v])->Tot (app? 192 out [v]) Q:=λQ G=>F9.2 ⟨oc,G⟩
 have w:Tot (next (out++[v],l,n,i+1)) (λr:List J0=>r.length<=1048576/\∀s∈r,HH s):=by
  refine j _ ⟨oc,oc,z,A,oc,λs a=>?_,B,m⟩ oc;dsimp only at a;rcases AZ.1 a with a|a
  .exact d s a
  .grind
 by_cases D:(out.length:Int)=0
 .have e:DQ (out.length:Int) 0=true:=by rw[DU];exact A6 D
  rw[e];simp only[B_,A8,Bool.true_or,A7];grind[DN,DO]
 .have e:DQ (out.length:Int) 0=false:=by rw[DU];exact A9 D
  rw[e,EI (n:=(out.length:Int)-1) oa oa];simp only[D8,A7,CD];refine DN.2 (EV.2 ⟨⟨oa,oa⟩,?_⟩);refine DN.2 ((TW.1 _ trivial).mono λH _=>?_);refine DP.2 ⟨λ_=>DN.2 (b _ w),λ_=>?_⟩;refine DN.2 (EV.2 ⟨⟨oa,oa⟩,?_⟩);refine DN.2 ((TW.1 _ trivial).mono λI _=>?_);refine DP.2 ⟨λ_=>?_,λ_=>j _ ⟨oc,oc,z,A,oc,d,B,m⟩ oc⟩;refine DN.2 (EV.2 ⟨⟨oa,oa⟩,?_⟩);refine j _ ⟨oc,oc,z,A,oc,λs a=>?_,B,m⟩ oc;dsimp only at a;rcases EB a with a|a
  .exact d s a
  .subst a;exact⟨(d _ (EA oa)).1,E.2⟩
theorem AN5(x:Int×F6)(h:(∀s∈x.2,GV s)/\x.2.length<=1048576):Tot (jX x) (λr:(Int×F6)×Int=>r.1.2.length<=200/\∀s∈r.1.2,GV s):=by
 unfold jX;obtain⟨h1,z⟩:=h;refine DN.2 ((AN3.1 _ ⟨AS _,B9 _,rfl,oc,oh,oh,oc,h1⟩).mono λr b=>?_);rcases r with y|y
 .obtain⟨w,d⟩:=b.1 y rfl;refine DN.2 ((ALN y.2).mono λm a=>?_);have l:=a.1.length_eq;refine DN.2 ((AN4 _ ⟨AS _,B9 _,rfl,oc,oh,oh,oc,λs j=>d s (a.1.mem_iff.1 j)⟩).mono λp e=>?_);grind[DN,AN2,DO]
 .have:=b.2 y rfl;grind[DO]
instance A7H:t6 jY (λx=>OS x) (λ_ r=>r.1.2.length<=200/\(∀s∈r.1.2,GV s)):=⟨λx h=>by
 unfold jY;refine DN.2 ((AMX _ h).mono λb h1=>?_);refine DP.2 ⟨λ_=>DO.2 oh,λa=>?_⟩;have h0:b=0:=by rw[DU]at a;simpa using a
 refine DN.2 ((AMs _ ⟨h,h1 h0⟩).mono λe d=>?_);grind[DN,AN5,DO]⟩
instance AN6:t6 uQ (λx=>0<=x.2.2.2/\x.2.2.2<=x.2.2.1/\x.2.2.1=x.2.1.length/\x.2.2.1<=281474976710656/\(∀s∈x.2.1,s.length<=1048576)/\x.2.1=x.1.2.1) (λ_ r=>True):=⟨λx h=>by
 refine ES (R:=λr:Sum Unit Int=>True)
  (λy:FZ×(List DM)×Int×Int=>0<=y.2.2.2/\y.2.2.2<=y.2.2.1/\y.2.2.1=y.2.1.length/\y.2.2.1<=281474976710656/\(∀v∈y.2.1,v.length<=1048576)/\y.2.1=y.1.2.1)
  (λy=>(y.2.2.1-y.2.2.2).toNat) ?_ _ _ h (by exact qE)
 rintro next ⟨a,l,n,i⟩ d j
 dsimp only at d j;obtain⟨i0,i1,z,A,w,B⟩:=d;unfold A3Y;dsimp only;refine DP.2 ⟨λb=>?_,λb=>DO.2 trivial⟩;have b:=AC b;rw[EI (n:=i+1) oa oa,EI oa oa];refine DN.2 (EJ.2 ⟨⟨i0,oa⟩,λv m=>?_⟩);have p:=w v (OT m);refine DN.2 ((oC.1 _ oa).mono λr _=>?_);refine DP.2 ⟨λ_=>DO.2 trivial,λ_=>?_⟩;refine DP.2 ⟨λ_=>DO.2 trivial,λ_=>?_⟩;refine DN.2 (Tot.mono (P:=λ_=>True) (DP.2 ⟨λe=>?_,λ_=>DO.2 trivial⟩) λC _=>?_)
 .have e:=AC e;exact EJ.2 ⟨⟨oa,oc⟩,λ_ _=>trivial⟩
 .refine DP.2 ⟨λ_=>DO.2 trivial,λ_=>?_⟩;grind⟩
instance A7I:t6 gB (λx=>∀s∈x.2.1,s.length<=1048576) (λ_ _=>True):=⟨by unfold gB;exact ti⟩
instance A7J:t6 gC (λ_=>True) (λ_ r=>r.length=6):=⟨by unfold gC;exact ti⟩
instance AN7:t6 gD (λx=>0<=x.2.2.2/\x.2.2.2<=6/\x.2.2.1.length=6/\x.1.length=6) (λ_ _=>True):=td (λ_ _=>True) (λy=>(6-y.2.2.2).toNat) (by unfold uR;exact ti)
instance A7K:t6 TC (λ_=>True) (λ_ r=>True):=⟨λx h=>by
 unfold TC
 repeat' first
  |(with_reducible first|refine DP.2 ⟨λ_=>?_,λ_=>?_⟩|refine DN.2 ?_|refine DO.2 ?_|refine(A7J.1 _ ?_).mono λ_ _=>?_|refine(AN7.1 _ ?_).mono λ_ _=>?_|refine oE.2 ⟨?_,?_⟩)
  |split
  |dsimp only
 all_goals exact qu⟩
instance AN8:t6 VS (λ_=>True) (λx r=>∀y,r=.inl y->y=x.1):=⟨by unfold VS;exact ti⟩
instance AN9:t6 VT (λx=>0<=x.2.2.2/\x.2.2.2<=x.2.2.1/\x.2.2.1=x.2.1.length/\x.2.2.1<=281474976710656/\x.2.2.1<=50/\x.1.length<=x.2.2.2/\∀z∈x.2.1,OS z) (λ_ _=>True):=td (λ_ _=>True) (λy=>(y.2.2.1-y.2.2.2).toNat) (by unfold xC;exact ti)
instance ANA:t6 N2 (λx=>LV x) (λ_ r=>True):=⟨λx h=>by
 unfold N2
 repeat' first
  |(with_reducible first|refine DP.2 ⟨λ_=>?_,λ_=>?_⟩|refine DN.2 ?_|refine DO.2 ?_|refine(oC.1 _ ?_).mono λ_ _=>?_|refine(A7I.1 _ ?_).mono λ_ _=>?_|refine(AN8.1 _ ?_).mono λ_ _=>?_|refine(AN9.1 _ ?_).mono λ_ _=>?_)
  |split
  |dsimp only
 all_goals grind[E6,E5,E9,E1,DU,E8,E7,E4,EA,EB,EL,EK,EN,EM,EO,EP,EQ,LV]⟩
instance ANB:t6 TJ (λx=>LV x) (λ_ _=>True):=⟨by unfold TJ;exact ti⟩
def GW{α:Type}{l:List α}{i:Nat}{a:α}(h:l[i]?=some a):l.take (i+1)=l.take i++[a]:=by
 rw[List.take_add_one,h];rfl
abbrev Rg:=Int×(List bF)
noncomputable def bG(v:Vr):Option DM:=(λz=>Sum.casesOn (motive:=λ_=>Option DM) z (λx=>(NR x).bind λr=>some r) (λz=>Sum.casesOn (motive:=λ_=>Option DM) z (λx=>(NT x).bind λr=>some r) (λz=>Sum.casesOn (motive:=λ_=>Option DM) z (λx=>(NU x).bind λr=>some r) (λz=>Sum.casesOn (motive:=λ_=>Option DM) z (λx=>(NV x).bind λr=>some r) (λz=>Sum.casesOn (motive:=λ_=>Option DM) z (λx=>(NW x).bind λr=>some r) (λ_=>none)))))) v
def A7L{v:Vr}(a:MC v):Tot (bG v) (λ_=>True):=by
 unfold bG;rcases v with x|x|x|x|x|x
 .exact DN.2 ((oQ _ a).mono λ_ h=>DO.2 trivial)
 .exact DN.2 ((oR.1 _ a).mono λ_ h=>DO.2 trivial)
 .exact DN.2 ((oS _ a).mono λ_ h=>DO.2 trivial)
 .exact DN.2 ((oU.1 _ a).mono λ_ h=>DO.2 trivial)
 .exact DN.2 ((oV.1 _ a).mono λ_ h=>DO.2 trivial)
 .exact a.elim
def Vs(k:Int)(w:DM)(v:Vr)(s:DM):Prop:=KB (k,w)=some (v,0)/\bG v=some s
def ANC{k:Int}{w:DM}{v:Vr}(d:w.length<=1048576)(h:KB (k,w)=some (v,0)):∃s,Vs k w v s:=by
 have⟨r,h1,a⟩:=TX.1 (k,w) d;rw[h]at h1;cases h1;have⟨s,b,_⟩:=A7L (a rfl);exact⟨s,h,b⟩
def AND{k:Int}{w:DM}{v:Vr}{s:DM}(h:Vs k w v s):VQ (k,w)=some (s,0):=by
 show((KB (k,w)).bind λa=>bif (!(DQ a.2 (0:Int)))then some (([]:DM),a.2)else(bG a.1).bind λb=>some (b,(0:Int)))=_;rw[h.1];simp only[A0,DU,decide_true,B_,A8];rw[h.2];rfl
noncomputable def ky(k:Int)(w:DM):DM:=((VQ (k,w)).getD ([],0)).1
def ANE{k:Int}{w:DM}{v:Vr}{s:DM}(h:Vs k w v s):ky k w=s:=by unfold ky;rw[AND h];rfl
def Ok(k:Int)(w:DM):Prop:=∃v,Vs k w v (ky k w)
def ANF{k:Int}{w:DM}{v:Vr}{s:DM}(h:Vs k w v s):Ok k w:=⟨v,by rw[ANE h];exact h⟩
def ANG(k:Int)(w:DM)(a:w.length<=1048576):Tot (aD (k,w)) (λr=>r=0->Ok k w):=by
 unfold aD;dsimp only;have⟨⟨v,e⟩,h1,d⟩:=TX.1 (k,w) a;rw[h1];refine DN.2 (DO.2 (DO.2 λh=>?_));dsimp only at h;subst h;have⟨s,b⟩:=ANC a h1;exact ANF b
def ANH(s:bF)(b:List J0)(m:GV s)(a:∀x∈b,HH x)(j:b.length<=1048576):Tot (lG (s,b)) (λ_=>True):=by
 unfold lG;dsimp only;refine DP.2 ⟨λ_=>DO.2 trivial,λ_=>DP.2 ⟨λh=>?_,λ_=>DO.2 trivial⟩⟩;have h:=AC h;rw[EI (n:=(b.length:Int)-1) oa oa];refine DN.2 ((LU.1 _ oa).mono λr l=>DN.2 (EJ.2 ⟨⟨oa,oa⟩,λy e=>?_⟩));refine DN.2 ((LU.1 _ (by have:=(a y (OT e)).2;omega)).mono λp d=>?_);simp_all[DP,DO,trivial]
def ANI(l:List J0)(k:DM)(m:l.length<=1048576):Tot (aG (l,k)) (λ_=>True):=by
 unfold aG xU;dsimp only;refine DN.2 (DN.2 (Tot.mono (P:=λ_=>True) ?_ λq _=>by rcases q with y|y<;>exact DO.2 (DO.2 trivial)));generalize b:(λx:J0=>(lH (x,(some ((0:Int),(k,(false,([]:DM))))))).bind λr=>some r)=f
 have d:∀x,Tot (f x) λ_=>True:=by
  intro x;subst b;unfold lH;dsimp only;refine DN.2 (DN.2 (DO.2 (DN.2 ((TW.1 _ trivial).mono λA _=>?_))));refine DN.2 (Tot.mono (P:=λ_=>True) (DP.2 ⟨λ_=>DO.2 trivial,λ_=>DO.2 trivial⟩) λz _=>?_);exact DN.2 (Tot.mono (P:=λ_=>True) (DP.2 ⟨λ_=>TW.1 _ trivial,λ_=>DO.2 trivial⟩) λB _=>DO.2 (DO.2 trivial))
 clear b
 refine ES (R:=λ_:Sum Unit Int=>True) (λy:(List J0)×(J0->Option Bool)×Int×Int=>y.1=l/\y.2.1=f/\y.2.2.1=l.length/\0<=y.2.2.2/\y.2.2.2<=l.length)
  (λy=>((l.length:Int)-y.2.2.2).toNat) ?_ _ _ ⟨rfl,rfl,rfl,AS _,B9 _⟩ (by exact qE)
 rintro next ⟨w,j,n,i⟩ a e
 dsimp only at a e;obtain⟨rfl,rfl,rfl,i0,i1⟩:=a;unfold A5E;dsimp only;refine DP.2 ⟨λh=>?_,λh=>DO.2 trivial⟩;have h:=AC h;rw[EI (n:=i+1) oa oa];refine DN.2 (EJ.2 ⟨⟨i0,h⟩,λs p=>?_⟩);refine DN.2 ((d s).mono λr _=>DP.2 ⟨λ_=>DO.2 trivial,λ_=>?_⟩);grind
noncomputable def inn(L:List J0)(k:Int)(w:DM):Bool:=decide (0<=(aG (L,ky k w)).getD 0)
abbrev Bs:=Int×(List FZ)×(List Int)
abbrev Dl:=Int×Int×(List FZ)×(List DM)
noncomputable def QE(a:FZ):Int:=(TJ a).getD 1
def A7M{a:FZ}(h:LV a):TJ a=some (QE a):=by
 have⟨r,b,_⟩:=ANB.1 a h;grind[QE]
def okR(l:List FZ)(i:Nat):Prop:=∀a,l[i]?=some a->QE a=0/\(0<i->∀a',l[i-1]?=some a'->a'.1<a.1)
def WK(b:Bs)(i:Nat):Prop:=okR b.2.1 i/\∀s,b.2.2[i]?=some s->0<=s/\s<=b.1
theorem A7N(a b:DM):(Op.bytesLess a b||DR a b)= !decide (b<a):=by
 grind[A6w,E1,oL,oM,N6]
def ANJ(b:Bs)(Z:∀a∈b.2.1,LV a)(hl:b.2.2.length=b.2.1.length)(hm:b.2.1.length<=2000):
 Tot (xD (b,b.2.1,(b.2.1.length:Int),0)) (λr=>(∀u,r=.inl u->∀j,j<b.2.1.length->WK b j)/\∀e,r=.inr e->e≠0/\¬∀j,j<b.2.1.length->WK b j):=by
 refine ES (R:=λr:Sum Unit Int=>(∀u,r=.inl u->∀j,j<b.2.1.length->WK b j)/\∀e,r=.inr e->e≠0/\¬∀j,j<b.2.1.length->WK b j)
  (λy:Bs×(List FZ)×Int×Int=>y.1=b/\y.2.1=b.2.1/\y.2.2.1=b.2.1.length/\0<=y.2.2.2/\y.2.2.2<=b.2.1.length/\∀j:Nat,(j:Int)<y.2.2.2->WK b j)
  (λy=>((b.2.1.length:Int)-y.2.2.2).toNat) ?_ _ _ ⟨rfl,rfl,rfl,AS _,B9 _,λj L=>oc⟩ (by exact qE)
 rintro next ⟨I,l,n,i⟩ R U
 dsimp only at R U;obtain⟨rfl,rfl,rfl,i0,i1,i2⟩:=R;unfold A4e;dsimp only;refine DP.2 ⟨λG=>?_,λG=>DO.2 ⟨λu _ j L=>?_,λe m=>(by cases m)⟩⟩
 .have G:=AC G;rw[EI (n:=i+1) oa oa,EI oa oa];refine DN.2 (EJ.2 ⟨⟨i0,G⟩,λa K=>?_⟩);rw[A7M (Z a (OT K))];refine DN.2 (DO.2 ?_);have A:i.toNat<I.2.1.length:=oa
  refine DP.2 ⟨λm=>DO.2 ⟨λu C=>(by cases C),λe d=>?_⟩,λm=>?_⟩
  .cases d;rw[DU]at m;have m:¬QE a=0:=by simpa using m
   exact⟨m,λh=>m ((h i.toNat A).1 a K).1⟩
  have hk:QE a=0:=by rw[DU]at m;simpa using m
  refine DN.2 (Tot.mono (P:=λH:FZ=>0<i->I.2.1[i.toNat-1]?=some H) (DP.2 ⟨λx=>?_,λx=>DO.2 λh0=>absurd h0 (AG x)⟩) λH Q=>?_)
  .have x:=AC x;refine EJ.2 ⟨⟨oa,oa⟩,λw hw _=>?_⟩;simp_all
  rw[A7N];refine DP.2 ⟨λp=>DO.2 ⟨λu C=>(by cases C),λe d=>?_⟩,λp=>?_⟩
  .cases d;have O:=CV.1 p;have x:=AC O.1;have N:¬H.1<a.1:=by simpa using O.2
   exact⟨oi,λh=>N (((h i.toNat A).1 a K).2 oa H (Q x))⟩
  have T:0<i.toNat->∀E,I.2.1[i.toNat-1]?=some E->E.1<a.1:=by
   intro x E z;have D:0<i:=oa
   rw[Q D]at z;cases z;rw[A6 D,BZ]at p;simpa using p
  refine DN.2 (EJ.2 ⟨⟨i0,oa⟩,λs hs=>?_⟩);refine DN.2 (Tot.mono (P:=λV:Int=>0<=s->V=s) (DP.2 ⟨λx=>EJ.2 ⟨⟨i0,oa⟩,λw hw _=>?_⟩,λx=>DO.2 λh0=>?_⟩) λV Y=>?_)
  .grind
  .grind
  refine DP.2 ⟨λB=>DO.2 ⟨λu C=>(by cases C),λe d=>?_⟩,λB=>?_⟩
  .cases d;refine⟨oi,λh=>?_⟩;have J:=(h i.toNat A).2 s hs;grind
  .have J:=BL.1 B;have h9:=AG J.1;have W:=AG J.2;have X:=Y oa;refine U _ ⟨rfl,rfl,rfl,oc,oc,λj L=>?_⟩ oc;dsimp only at L;by_cases M:(j:Int)<i
   .exact i2 j M
   .have:j=i.toNat:=oa
    subst this;refine⟨λE z=>?_,λs' h3=>?_⟩<;>grind
 grind
def BB(b:Bs):Prop:=∀a∈b.2.1,LV a
def WL(b:Bs):Prop:=(0<=b.1/\b.1<=1000000000)/\b.2.1.length<=2000/\b.2.2.length=b.2.1.length/\∀j,j<b.2.1.length->WK b j
def A7O(b:Bs)(m:BB b):Tot (VU b) (λr=>r=0<->WL b):=by
 unfold VU WL;refine DP.2 ⟨λh=>DO.2 ⟨λh0=>absurd h0 oi,λhk=>?_⟩,λh1=>?_⟩
 .simp at h;omega
 have a:=BL.1 h1;have p:=AG a.1;have s:=AG a.2;refine DP.2 ⟨λh=>DO.2 ⟨λh0=>absurd h0 oi,λhk=>?_⟩,λl=>?_⟩
 .grind
 have w:=AG l;refine DP.2 ⟨λh=>DO.2 ⟨λh0=>absurd h0 oi,λhk=>?_⟩,λj=>?_⟩
 .grind[DU]
 have e:b.2.2.length=b.2.1.length:=by
  rw[DU]at j;have:((b.2.2.length:Nat):Int)=b.2.1.length:=by simpa using j
  omega
 refine DN.2 ((ANJ b m e oa).mono λr d=>?_);rcases r with r|r
 .exact DO.2 ⟨λ_=>⟨oa,oa,e,d.1 r rfl⟩,λ_=>rfl⟩
 .exact DO.2 ⟨λh0=>absurd h0 (d.2 r rfl).1,λhk=>absurd hk.2.2.2 (d.2 r rfl).2⟩
def DB(d:Dl):Prop:=d.2.2.1.length<=1048576/\∀a∈d.2.2.1,LV a
theorem ANK(l:List DM)(h:l.length<=1048576):nJ (l,l)=some true:=by
 have:Tot (yZ (l,l,(l.length:Int),0)) (λr=>r=.inl ()):=by
  refine ES (R:=λr:Sum Unit Bool=>r=.inl ()) (λy:(List DM)×(List DM)×Int×Int=>y.1=l/\y.2.1=l/\y.2.2.1=l.length/\0<=y.2.2.2/\y.2.2.2<=l.length) (λy=>((l.length:Int)-y.2.2.2).toNat) ?_ _ _ ⟨rfl,rfl,rfl,AS _,B9 _⟩ (by exact qE);rintro next ⟨a,b,n,i⟩ e j
  dsimp only at e j;obtain⟨rfl,rfl,rfl,i0,i1⟩:=e;unfold A5j;dsimp only;refine DP.2 ⟨λd=>?_,λ_=>DO.2 rfl⟩;have d:=AC d;rw[EI oa oa];refine DN.2 (EJ.2 ⟨⟨i0,d⟩,λy p=>DN.2 (EJ.2 ⟨⟨i0,d⟩,λz m=>?_⟩)⟩);rw[p]at m;cases m;rw[E1];simp only[decide_true,B_,A8];exact j _ ⟨rfl,rfl,rfl,oc,oc⟩ oc
 obtain⟨r,s,rfl⟩:=this;grind[nJ,DU]
end Go.Ev.Pv
