/-
  The law as plain Lean, first part: that there are answers: names, versions, ranges, advisories.
-/
import Derived.Test.YtkmeffadhdmdhaaGreatDoorD
import Derived.Sort.AssemblyPlain
set_option linter.all false
set_option maxRecDepth 1000000
set_option maxHeartbeats 16000000
open Go.IntKind hiding min max bits signed
namespace Go.Ev
theorem EO{α:Type}{a:α}{l:KX α}:(a::l).length=l.length+1:=BO
theorem EQ{α:Type}:([]:KX α).length=0:=C8
theorem ER{α:Type}{a:α}{i:Nat}{l:KX α}(h:a∈l.take i):a∈l:=List.mem_of_mem_take h
theorem ES{α:Type}{a:α}{i:Nat}{l:KX α}(h:a∈l.drop i):a∈l:=List.mem_of_mem_drop h
def Z1{α:Type}(m:X1 α)(Q:α->Prop):Prop:=∃x,m=some x/\Q x
section
variable{α β:Type}{m n:X1 α}{P Q:α->Prop}
def Z1.mono(h:Z1 m P)(k:∀x,P x->Q x):Z1 m Q:=let ⟨x,h1,h2⟩:=h;⟨x,h1,k x h2⟩
theorem DQ{x:α}:Z1 (some x) Q<->Q x:=⟨λ⟨_,a,b⟩=>A2 a▸b,λh=>⟨x,rfl,h⟩⟩
theorem DP{f:α->X1 β}{R:β->Prop}:Z1 (m.bind f) R<->Z1 m λx=>Z1 (f x) R:=by
 constructor
 .rintro⟨y,h,a⟩;have⟨x,b,d⟩:=B8.1 h;exact⟨x,b,y,d,a⟩
 .rintro⟨x,rfl,y,h,a⟩;exact⟨y,h,a⟩
def DR{b:X5}:Z1 (bif b then m else n) Q<->(b=true->Z1 m Q)/\(b=false->Z1 n Q):=by
 cases b
 .exact⟨λh=>⟨λe=>(by cases e),λ_=>h⟩,λh=>h.2 rfl⟩
 .exact⟨λh=>⟨λ_=>h,λe=>(by cases e)⟩,λh=>h.1 rfl⟩
theorem EY{n:Nat}{i:Int}{Q:Unit->Prop}:Z1 (in? n i) Q<->(0<=i/\i<n)/\Q ():=by
 unfold in? Z1;by_cases a:0<=i<;>by_cases b:i<n<;>simp[a,b]
 exact⟨λ⟨_,h⟩=>h,λh=>⟨(),h⟩⟩
theorem FX{a b:DO}{Q:DO->Prop}:Z1 (cat? a b) Q<->a.length+b.length<=281474976710656/\Q (a++b):=by unfold cat? Z1;by_cases h:a.length+b.length<=281474976710656<;>simp[h]
theorem FF{B:Nat}{a b:KX α}{Q:KX α->Prop}:Z1 (app? B a b) Q<->(a.length+b.length)*B<=70368744177664/\Q (a++b):=by unfold app? Z1;by_cases h:(a.length+b.length)*B<=70368744177664<;>simp[h]
theorem HY{l:KX α}{lo hi:Int}{Q:KX α->Prop}:Z1 (cut? l lo hi) Q<->(0<=lo/\lo<=hi/\hi<=l.length)/\Q ((l.take hi.toNat).drop lo.toNat):=by unfold cut? Z1;by_cases h:0<=lo<;>by_cases a:lo<=hi<;>by_cases b:hi<=l.length<;>simp[h,a,b]
def AKy{l:KX α}{i:Int}{Q:α->Prop}(a:0<=i)(d:i<l.length)(b:∀x,x∈l->l[i.toNat]?=some x->Q x):Z1 (at? l i) Q:=by have h:i.toNat<l.length:=oa;refine⟨l[i.toNat],?_,b _ (AG h) (A1 h)⟩;unfold at?;rw[A6 a];exact A1 h
def EL{l:KX α}{i:Int}{Q:α->Prop}:Z1 (at? l i) Q<->(0<=i/\i<l.length)/\∀x,l[i.toNat]?=some x->Q x:=by
 constructor
 .rintro⟨x,h,a⟩;unfold at? at h;by_cases h0:0<=i
  .rw[A6 h0]at h;have h:l[i.toNat]?=some x:=h;have e:=(A3.1 h).1;exact⟨⟨h0,oa⟩,λy b=>by rw[h]at b;cases b;exact a⟩
  .rw[A9 h0]at h;cases h
 .rintro⟨⟨h,a⟩,d⟩;exact AKy h a λx _ j=>d x j
def JC:Z1 m (λ_=>True)<->∃x,m=some x:=⟨λ⟨x,h,_⟩=>⟨x,h⟩,λ⟨x,h⟩=>⟨x,h,trivial⟩⟩
def EV{r:(α->X1 β)->α->X1 β}{R:β->Prop}(I:α->Prop)(a:α->Nat)(h:∀next x,I x->(∀y,I y->a y<a x->Z1 (next y) R)->Z1 (r next x) R):
 ∀(k:Nat) (x:α),I x->a x<k->Z1 (E0 r k x) R:=by
 intro k;induction k with
 |zero=>intro x _ h;omega
 |succ k e=>intro x b hk;exact h _ x b λy d j=>e y d oa
theorem EJ{n:Int}(h:-9223372036854775808<=n)(a:n<=9223372036854775807):i64.wrap n=n:=by simp only[IntKind.wrap,IntKind.bits,IntKind.signed];simp;omega
def A0e{n:Int}(h:0<=n)(a:n<=255):u8.wrap n=n:=by simp only[IntKind.wrap,IntKind.bits,IntKind.signed];simp;omega
def AKz(n:Int):0<=u8.wrap n/\u8.wrap n<=255:=by simp only[IntKind.wrap,IntKind.bits,IntKind.signed];simp;omega
end
end Go.Ev
namespace Go.Ev.Pv
theorem E8{n:Int}:-9223372036854775808<=n->n<=9223372036854775807->i64.wrap n=n:=λh a=>EJ h a
theorem E6(b:UInt8):b.toNat<=255:=by have:=b.toNat_lt;omega
theorem E9{n:Int}:0<=n->n<=255->u8.wrap n=n:=λh a=>A0e h a
theorem EA(n:Int):0<=u8.wrap n/\u8.wrap n<=255:=AKz n
theorem EB(s:DO):(FZ s).length=s.length:=by simp[FZ]
theorem E7(s:KX Int):(IY s).length=s.length:=by simp[IY]
theorem E3(s t:DO):DU s t=decide (s=t):=by grind[DU]
theorem DX(s t:Int):DT s t=decide (s=t):=by rfl
abbrev tl(a b:Int)(n:Nat):Prop:=0<=a/\a<=b/\b=n/\b<=281474976710656
class t6{α β:Type}(f:α->Option β)(P:outParam (α->Prop))(Q:outParam (α->β->Prop)):Prop where h:∀x,P x->Z1 (f x) (Q x)
theorem t7{α β:Type}{f:α->X1 β}{P Q}[i:t6 f P Q]{x:α}{R:β->Prop}(h:P x)(k:∀r,Q x r->R r):Z1 (f x) R:=(i.h x h).mono k
theorem ti{α β:Type}{s:(α->X1 β)->α->X1 β}{n:Nat}{P Q}(K:α->α->Prop)(m:α->Nat)(h:∀next x y,P x->P y->K x y->[t6 next (λz=>(P z/\K x z)/\m z<m y) (λ_=>Q x)]->Z1 (s next y) (Q x))(d:∀x,P x->K x x/\m x<n:=by
 intros;try dsimp only at *
 exact⟨by grind,by unfold fuel;grind⟩):t6 (E0 s n) P Q:=
 ⟨λx a=>EV (λy=>P y/\K x y) m (λn y b g=>@h n x y a b.1 b.2 ⟨λz e=>g z e.1 e.2⟩) _ _ ⟨a,(d x a).1⟩ (d x a).2⟩
instance bT:t6 strings_IndexByte (λx=>x.1.length<=1048576) (λ_ r=>-1<=r):=⟨λx h=>by grind[strings_IndexByte,I_,decide_eq_true,DQ,Lib.indexByte_ge]⟩
def A0f(sep:DO)(m:Nat):∀x:KX DO,(∀s∈x,s.length<=m)->(Lib.join x sep).length<=x.length*(m+sep.length):=by
 intro x;induction x with
 |nil=>intro _;simp[Lib.join,List.intercalate]
 |cons a r d=>intro h;have e:=h a AF;have j:=d λs b=>h s (AP _ b);cases r<;>grind[Lib.join,List.intercalate,List.intersperse,List.length_append,EO,Nat.add_mul]
theorem AL0{xs:KX DO}(b:xs.length<=1048577)(a:∀s∈xs,s.length<=1048576):(Lib.join xs [47]).length<=1099513724929:=by have h:=A0f [47] 1048576 xs a;grind
def XG(x:(KX DO)×DO)(h:x.1.length<=140737488355328/\(Lib.join x.1 x.2).length<=140737488355328):Z1 (strings_Join x) (λr=>r=Lib.join x.1 x.2):=by unfold strings_Join I_;rw[A6 h];exact DQ.2 rfl
def za{p:Prop}(h:p:=by grind[E8,E7,EB,E3,DX,EA,E9,E6]):p:=h
theorem t8{p:Prop}(h:p:=by
 intros;try dsimp only at *
 repeat' first
  |(with_reducible first|refine DR.2 ⟨λ_=>?_,λ_=>?_⟩|refine DP.2 ?_|refine DQ.2 ?_|refine EL.2 ⟨?_,λ_ _=>?_⟩|refine EY.2 ⟨?_,?_⟩|refine HY.2 ⟨?_,?_⟩|refine FX.2 ⟨?_,?_⟩|refine FF.2 ⟨?_,?_⟩|refine t7 ?_ λ_ _=>?_|refine⟨λ_=>?_,?_⟩)
  |split
  |dsimp only
 all_goals grind[E8,E7,EB,E3,DX,EA,E9,E6,EO,EQ,ER,ES]):p:=h
instance:t6 vW (λx=>tl x.2.2 x.2.1 x.1.length) (λ_ _=>True):=ti (λ_ _=>True) (λy=>(y.2.1-y.2.2).toNat) (by unfold A4_;exact t8)
instance oY:t6 WI (λx=>x.length<=1048576) (λ_ _=>True):=⟨by unfold WI;exact t8⟩
instance:t6 vZ (λx=>tl x.2.2 x.2.1 x.1.length) (λx r=>r.length=x.1.length):=ti (λx y=>y.1.length=x.1.length) (λy=>(y.2.1-y.2.2).toNat) (by unfold A4b;exact t8)
instance:t6 U5 (λx=>x.length<=1048576) (λx r=>r.length=x.length):=⟨by unfold U5;exact t8⟩
instance QY:t6 NH (λ_=>True) (λx r=>r.1=x.1.1/\r.2.1=x.1.2.1/\(0<=x.2->0<=r.2.2)):=⟨by unfold NH;exact t8⟩
instance UN:t6 LG (λx=>∃y,x=some y/\0<=y.2.1) (λx r=>0<=r/\(r=0\/∃y,x=some y/\y.2.1<y.1.length)):=⟨λx h=>by
 unfold LG;obtain⟨y,rfl,h⟩:=h
 repeat' first
  |(with_reducible first|refine DR.2 ⟨λ_=>?_,λ_=>?_⟩|refine DP.2 ?_|refine DQ.2 ?_|refine EL.2 ⟨?_,λ_ _=>?_⟩)
  |dsimp only
 all_goals exact za⟩
instance A7Q:t6 ZV (λ_=>True) (λ_ _=>True):=⟨by unfold ZV;exact t8⟩
instance:t6 v_ (λx=>0<=x.2/\x.2<=(4:Int)/\(4:Int)<=281474976710656/\x.1.1.length<=1048576/\0<=x.1.2.1/\x.1.2.1<=x.1.1.length/\x.2<=x.1.1.length) (λx r=>match r with| .inl q=>q=x.1/\4<=x.1.1.length| .inr q=>q.1.1=x.1.1/\q.1.2.1=x.1.2.1/\q.2=[]):=ti (λx y=>y.1=x.1) (λy=>((4:Int)-y.2).toNat) (by unfold A4c;exact t8)
instance:t6 w9 (λx=>x.1.length<=1048576/\0<=x.2.1/\x.2.1<=x.1.length) (λx r=>r.1=x.1/\r.2.2=x.2.2/\x.2.1<=r.2.1/\r.2.1<=r.1.length):=ti (λx y=>y.1=x.1/\y.2.2=x.2.2/\x.2.1<=y.2.1) (λy=>(y.1.length-y.2.1).toNat) (by unfold A4d;exact t8)
instance:t6 hZ (λx=>x.1.1.length<=1048576/\0<=x.1.2.1/\x.1.2.1<=x.1.1.length/\(x.2=true->x.1.2.1<x.1.1.length)) (λx r=>r.1=x.1.1/\x.1.2.1<=r.2.1/\r.2.1<=r.1.length):=⟨by unfold hZ;exact t8⟩
instance A7R:t6 ZW (λx=>x.1.1.length<=1048576/\0<=x.1.2.1/\x.1.2.1<=x.1.1.length) (λx r=>r.2.1=x.1.1/\0<=r.2.2.1/\r.2.2.1<=x.1.1.length/\r.1.length<=x.1.1.length):=⟨by unfold ZW;exact t8⟩
instance A7S:t6 ZT (λx=>0<=x/\x<=255) (λ_ r=>-1<=r/\r<=15):=⟨by unfold ZT;exact t8⟩
instance:t6 iA (λx=>x.1.1.length<=1048576/\0<=x.1.2.1/\x.1.2.1<=x.1.1.length/\1<=x.2.1/\x.2.1<=2/\x.2.2.1= -1/\(x.2.2.2=true->x.1.2.1+x.2.1<x.1.1.length)) (λx r=>r.1=x.1/\(x.2.2.2=true\/r.2= -1)):=⟨by unfold iA;exact t8⟩
instance:t6 wA (λx=>x.1.1.length<=1048576/\0<=x.1.2.1/\x.1.2.1<=x.1.1.length/\1<=x.2.2/\x.2.2<=3/\x.1.2.1+x.2.2<=x.1.1.length) (λx r=>match r with| .inl q=>q.1=x.1/\x.1.2.1+3<=x.1.1.length| .inr q=>q.1.1=x.1.1/\q.1.2.1=x.1.2.1/\q.2.2=false):=ti (λx y=>y.1=x.1) (λy=>(3-y.2.2).toNat) (by unfold A4e;exact t8)
instance A7T:t6 ZX (λx=>x.1.length<=1048576/\0<=x.2.1/\x.2.1<=x.1.length) (λx r=>r.2.2.1=x.1/\x.2.1<=r.2.2.2.1/\r.2.2.2.1<=x.1.length/\(r.2.1=true->x.2.1<r.2.2.2.1)):=⟨by unfold ZX;exact t8⟩
instance:t6 wB (λx=>x.1.1.length<=1048576/\0<=x.1.2.1/\x.1.2.1<=x.1.1.length/\x.2.length<=x.1.2.1) (λx r=>r.1.1=x.1.1/\x.1.2.1<=r.1.2.1/\r.1.2.1<=x.1.1.length/\r.2.length<=r.1.2.1):=ti (λx y=>y.1.1=x.1.1/\x.1.2.1<=y.1.2.1) (λy=>(y.1.1.length-y.1.2.1).toNat) (by unfold A4f;exact t8)
instance:t6 U6 (λx=>x.1.length<=1048576/\0<=x.2.1/\x.2.1<=x.1.length) (λx r=>r.2.1=x.1/\x.2.1<=r.2.2.1/\r.2.2.1<=x.1.length/\r.1.length<=x.1.length):=⟨by unfold U6;exact t8⟩
instance:t6 wC (λx=>x.1.1.length<=1048576/\0<=x.1.2.1/\x.1.2.1<=x.1.1.length/\x.2.length<=x.1.2.1+1/\∀s∈x.2,s.length<=1048576) (λx r=>r.1.1=x.1.1/\x.1.2.1<=r.1.2.1/\r.1.2.1<=x.1.1.length/\x.2.length<=r.2.length/\r.2.length<=1048577/\∀s∈r.2,s.length<=1048576):=ti (λx y=>y.1.1=x.1.1/\x.1.2.1<=y.1.2.1/\x.2.length<=y.2.length) (λy=>(y.1.1.length-y.1.2.1).toNat) (by unfold A4g;exact t8)
instance A7U:t6 ZY (λx=>x.1.length<=1048576/\0<=x.2.1/\x.2.1<=x.1.length) (λx r=>r.2.1=x.1/\x.2.1<=r.2.2.1/\r.2.2.1<=x.1.length/\1<=r.1.length/\r.1.length<=1048577/\∀s∈r.1,s.length<=1048576):=⟨by unfold ZY;exact t8⟩
instance:t6 ZR (λ_=>True) (λ_ _=>True):=⟨by unfold ZR;exact t8⟩
instance:t6 wD (λx=>x.1.1.length<=1048576/\0<=x.1.2.1/\x.1.2.1<=x.1.1.length) (λx r=>r.1=x.1.1/\x.1.2.1<=r.2.1/\r.2.1<=x.1.1.length):=ti (λx y=>y.1.1=x.1.1/\y.1.2.2=x.1.2.2/\x.1.2.1<=y.1.2.1) (λy=>(y.1.1.length-y.1.2.1).toNat) (by unfold A4h;exact t8)
instance:t6 iB (λx=>x.1.length<=1048576/\0<=x.2.1/\x.2.1<=x.1.length) (λx r=>r.2.1=x.1/\x.2.1<=r.2.2.1/\r.2.2.1<=x.1.length/\r.1.1.length<=1048576/\r.1.2.length<=1048576):=⟨by unfold iB;exact t8⟩
instance ALC:t6 iC (λx=>x.1.1.length<=1048576/\0<=x.1.2.1/\x.1.2.1<=x.1.1.length/\(x.2.2=true->x.1.2.1<x.1.1.length)/\x.2.1.2.2.2.1.length<=1048576) (λx r=>r.1.1=x.1.1/\x.1.2.1<=r.1.2.1/\r.1.2.1<=x.1.1.length/\r.2.1=x.2.1.1/\r.2.2.1=x.2.1.2.1/\r.2.2.2.1=x.2.1.2.2.1/\r.2.2.2.2.1.length<=1048576/\r.2.2.2.2.2=x.2.1.2.2.2.2):=⟨by unfold iC;exact t8⟩
instance ALD:t6 wE (λx=>x.1.1.length<=1048576/\0<=x.1.2.1/\x.1.2.1<=x.1.1.length/\x.2.1.2.2.2.2.1.length<=x.1.2.1/\x.2.2≠0/\∀q∈x.2.1.2.2.2.2.1,q.1.length<=1048576/\q.2.length<=1048576) (λx r=>r.1.1=x.1.1/\x.1.2.1<=r.1.2.1/\r.1.2.1<=x.1.1.length/\r.2.1=x.2.1.1/\r.2.2.1=x.2.1.2.1/\r.2.2.2.1=x.2.1.2.2.1/\r.2.2.2.2.1=x.2.1.2.2.2.1/\r.2.2.2.2.2.2=x.2.1.2.2.2.2.2/\r.2.2.2.2.2.1.length<=1048576/\∀q∈r.2.2.2.2.2.1,q.1.length<=1048576/\q.2.length<=1048576):=ti (λx y=>y.1.1=x.1.1/\y.2.1.1=x.2.1.1/\y.2.1.2.1=x.2.1.2.1/\y.2.1.2.2.1=x.2.1.2.2.1/\y.2.1.2.2.2.1=x.2.1.2.2.2.1/\y.2.1.2.2.2.2.2=x.2.1.2.2.2.2.2/\x.1.2.1<=y.1.2.1) (λy=>(y.1.1.length-y.1.2.1).toNat) (by unfold A4i;exact t8)
def o_{k:IntKind}{a b:Int}{Q:Int->Prop}:Z1 (div? k a b) Q<->b≠0/\Q (k.wrap (a.tdiv b)):=by grind[div?,Z1]
def A7W{a b:Int}{Q:Int->Prop}:Z1 (mod? a b) Q<->b≠0/\Q (a.tmod b):=by grind[mod?,Z1]
def ALE{a:Int}(h0:0<=a)(h:a<=255):0<=a.tdiv 16/\a.tdiv 16<=15:=oc
def ALF{a:Int}(h0:0<=a)(h:a<=255):0<=a.tmod 16/\a.tmod 16<=15:=oc
def ALG(b:UInt8):0<=((b.toNat:Int)).tdiv 16/\((b.toNat:Int)).tdiv 16<=15:=ALE oa (by have:=E6 b;omega)
def ALH(b:UInt8):0<=((b.toNat:Int)).tmod 16/\((b.toNat:Int)).tmod 16<=15:=ALF oa (by have:=E6 b;omega)
theorem EC{α:Type}{l:KX α}{i:Nat}{d:α}:i<l.length->l.getD i d∈l:=λh=>by grind
theorem ED{α:Type}{l:KX α}{i:Nat}{a b:α}:a∈l.set i b->a∈l\/a=b:=List.mem_or_eq_of_mem_set
instance A7X:t6 strings_Split (λx=>x.1.length<4294967281/\1<=x.2.length) (λx r=>r.length<=x.1.length+2/\∀s∈r,s.length<=x.1.length):=⟨λx h=>by
 unfold strings_Split I_;rw[A6 h];refine DQ.2 ⟨?_,?_⟩
 .rw[AZ];have j:=Lib.splitB_length_le ⟨x.2.toArray⟩ 0 (Lib.countB ⟨x.1.toArray⟩ ⟨x.2.toArray⟩) ⟨x.1.toArray⟩;have l:Lib.countB ⟨x.1.toArray⟩ ⟨x.2.toArray⟩<=x.1.length+1:=Lib.count_le x.1 x.2;omega
 .intro s e;obtain⟨b,d,rfl⟩:=BP.1 e;have:∀(k:Nat) (s:ByteArray),∀y∈Lib.splitB ⟨x.2.toArray⟩ 0 k s,y.size<=s.size:=by
   intro k;induction k with
   |zero=>simp_all[Lib.splitB_zero,AO,AD]
   |succ k m=>
    intro s y a;unfold Lib.splitB at a;split at a
    .grind
    .rcases B1.1 a with rfl|a
     .rw[CL];omega
     grind[ByteArray.size_extract]
  have:=this _ _ b d;assumption⟩
instance A7Y:t6 gC (λ_=>True) (λx r=>r=x):=⟨λx h=>DQ.2 rfl⟩
instance UO:t6 QC (λ_=>True) (λx r=>r.length=x.length):=⟨λx h=>DQ.2 (E7 x)⟩
def ALI(x:EU×IN×X5)(h:x.1.1.length<=1048576/\0<=x.1.2.1/\x.1.2.1<=x.1.1.length/\(x.2.2=true->x.1.2.1<x.1.1.length)/\x.2.1.2.2.2.2.2.length<=1048576):Z1 (iD x) (λr:EU×IN=>r.1.1=x.1.1/\x.1.2.1<=r.1.2.1/\r.1.2.1<=x.1.1.length/\r.2.1=x.2.1.1/\r.2.2.1=x.2.1.2.1/\r.2.2.2.1=x.2.1.2.2.1/\r.2.2.2.2.1=x.2.1.2.2.2.1/\r.2.2.2.2.2.1=x.2.1.2.2.2.2.1/\r.2.2.2.2.2.2.length<=1099513724929):=by
 obtain⟨a,p,b⟩:=x;try dsimp only at h ⊢
 unfold iD
 repeat' first
  |(with_reducible first|refine DR.2 ⟨λ_=>?_,λ_=>?_⟩|refine DP.2 ?_|refine DQ.2 ?_|refine(A7U.1 _ ?_).mono λ_ _=>?_|refine(XG _ ?_).mono λ_ _=>?_)
  |dsimp only
 all_goals grind[E8,E7,EB,E3,DX,EA,E9,E6,EC,ED,AL0]
instance A7Z:t6 gI (λ_=>True) (λ_ r=>r.length=5/\∀z∈r,z.1.length<=20):=⟨λx h=>⟨_,rfl,rfl,oi⟩⟩
def zd{p:Prop}(h:p:=by grind[E8,E7,EB,E3,DX,EA,E9,E6,EC,ED]):p:=h
theorem th{p:Prop}(h:p:=by
 intros;try dsimp only at *
 repeat' first
  |(with_reducible first|refine DR.2 ⟨λ_=>?_,λ_=>?_⟩|refine DP.2 ?_|refine DQ.2 ?_|refine EL.2 ⟨?_,λ_ _=>?_⟩|refine EY.2 ⟨?_,?_⟩|refine HY.2 ⟨?_,?_⟩|refine FX.2 ⟨?_,?_⟩|refine FF.2 ⟨?_,?_⟩|refine t7 ?_ λ_ _=>?_|refine⟨λ_=>?_,?_⟩)
  |split
  |dsimp only
 all_goals grind[E8,E7,EB,E3,DX,EA,E9,E6,EC,ED,EO,EQ,ER,ES]):p:=h
instance:t6 vK (λx=>0<=x.2.2/\x.2.2<=(5:Int)/\x.2.1.length=(5:Int)/\(5:Int)<=281474976710656/\∀z∈x.2.1,z.1.length<=20) (λx r=>match r with| .inl _=>True| .inr r=>0<=r/\r<5/\x.1.length<=20):=ti (λx y=>y.1=x.1) (λy=>((5:Int)-y.2.2).toNat) (by unfold A4L;exact th)
instance A7_:t6 ZP (λ_=>True) (λx r=>r<5/\(0<=r->x.length<=20)):=⟨by unfold ZP;exact th⟩
instance A7a:t6 WG (λ_=>True) (λx r=>r.2=0->x.length<=20):=⟨by unfold WG;exact th⟩
instance ALK:t6 vL (λx=>0<=x.2.2/\x.2.2<=x.2.1/\x.2.1=x.1.length/\x.2.1<=281474976710656) (λx r=>match r with| .inl _=>(∀j:Nat,x.2.2<=j->∀s,x.1[j]?=some s->s.length<=200)| .inr r=>r=true):=ti (λx y=>y.1=x.1/\(∀j:Nat,x.2.2<=j->(j:Int)<y.2.2->∀s,y.1[j]?=some s->s.length<=200)/\x.2.2<=y.2.2) (λy=>(y.2.1-y.2.2).toNat) (by unfold A4M;exact th)
def A7b{α:Type}{l:KX α}{P:α->Prop}(h:∀j:Nat,(0:Int)<=j->∀s,l[j]?=some s->P s):∀s∈l,P s:=λs a=>let ⟨j,hj⟩:=BR a;h j (BE j) s hj
instance ALL:t6 vM (λx=>0<=x.2.2/\x.2.2<=x.2.1/\x.2.1=x.1.length/\x.2.1<=281474976710656) (λx r=>match r with| .inl _=>(∀j:Nat,x.2.2<=j->∀s,x.1[j]?=some s->s.1.length<=200/\s.2.length<=200)| .inr r=>r=true):=ti (λx y=>y.1=x.1/\(∀j:Nat,x.2.2<=j->(j:Int)<y.2.2->∀s,y.1[j]?=some s->s.1.length<=200/\s.2.length<=200)/\x.2.2<=y.2.2) (λy=>(y.2.1-y.2.2).toNat) (by unfold A4N;exact th)
def ALM(x:DO×DO×DO×DO×DZ×DO)(h:x.2.2.2.2.1.length<=1048576):Z1 (gJ x) (λr:X5=>r=false->(x.2.1.length<=200/\x.2.2.1.length<=200/\x.2.2.2.1.length<=200/\x.2.2.2.2.2.length<=200/\x.2.2.2.2.1.length<=10/\∀q∈x.2.2.2.2.1,q.1.length<=200/\q.2.length<=200)):=by
 unfold gJ;dsimp only;refine DP.2 ((ALK.1 _ oh).mono λr d=>?_);rcases r with r|r
 .have d:=A7b d;refine DP.2 ((ALL.1 _ oc).mono λb a=>?_);rcases b with b|b
  .have a:=A7b a;grind[DQ,of_decide_eq_false]
  grind[DQ]
 grind[DQ]
instance pA:t6 U2 (λx=>x.length<4294967281) (λx r=>r.length<=x.length+2/\∀s∈r,s.length<=x.length):=⟨by unfold U2;exact th⟩
instance:t6 vN (λx=>tl x.2.2.2 x.2.2.1 x.2.1.length) (λ_ _=>True):=ti (λ_ _=>True) (λy=>(y.2.2.1-y.2.2.2).toNat) (by unfold A4O;exact th)
instance A7c:t6 ZQ (λx=>x.1.length<=1048576) (λ_ _=>True):=⟨by unfold ZQ;exact th⟩
instance:t6 vO (λx=>tl x.2.2 x.2.1 x.1.length) (λ_ _=>True):=ti (λ_ _=>True) (λy=>(y.2.1-y.2.2).toNat) (by unfold A4P;exact th)
instance ALP:t6 gK (λx=>x.length<=1048576) (λ_ _=>True):=⟨by unfold gK;exact th⟩
instance ALQ:t6 vP (λx=>0<=x.2.2.2/\x.2.2.2<=x.2.2.1/\x.2.2.1=x.2.1.length/\x.2.2.1<=281474976710656/\x.1.length=x.2.1.length/\∀q∈x.2.1,q.1.length<=1048576) (λ_ r=>True):=⟨λx h=>by
 refine EV (λx:DZ×DZ×Int×Int=>0<=x.2.2.2/\x.2.2.2<=x.2.2.1/\x.2.2.1=x.2.1.length/\x.2.2.1<=281474976710656/\x.1.length=x.2.1.length/\∀q∈x.2.1,q.1.length<=1048576)
  (λx=>(x.2.2.1-x.2.2.2).toNat) ?_ _ _ h (by unfold fuel;omega)
 rintro next ⟨l,z,A,B⟩ h d
 dsimp only at h d;obtain⟨j,m,p,s,w,b⟩:=h;unfold A4Q;dsimp only;refine DR.2 ⟨λa=>?_,λ_=>DQ.2 trivial⟩;have a:=AC a;refine DP.2 (EL.2 ⟨⟨oa,oa⟩,λy e=>?_⟩);refine DP.2 ((ALP.1 _ (b _ (AE e))).mono λr _=>?_);refine DR.2 ⟨λ_=>DQ.2 trivial,λ_=>?_⟩;refine DR.2 ⟨λ_=>DQ.2 trivial,λ_=>?_⟩;refine DP.2 (Z1.mono (P:=λ_=>True) ?_ λC _=>?_)
 .refine DR.2 ⟨λhd=>?_,λ_=>DQ.2 trivial⟩;have hd:=AC hd;rw[EJ oa oa];exact EL.2 ⟨⟨oa,oa⟩,λ_ _=>trivial⟩
 .refine DR.2 ⟨λ_=>DQ.2 trivial,λ_=>?_⟩;grind[EJ]⟩
instance ALR:t6 gL (λx=>x.length<=1048576/\∀q∈x,q.1.length<=1048576) (λ_ _=>True):=⟨by unfold gL;exact th⟩
instance:t6 vQ (λx=>tl x.2.2 x.2.1 x.1.length) (λ_ _=>True):=ti (λ_ _=>True) (λy=>(y.2.1-y.2.2).toNat) (by unfold A4R;exact th)
instance:t6 ZS (λx=>x.length<=1048576) (λ_ _=>True):=⟨by unfold ZS;exact th⟩
instance ALT:t6 vR (λx=>0<=x.2.2/\x.2.2<=x.2.1/\x.2.1=x.1.length/\x.2.1<=281474976710656/\∀z∈x.1,z.length<=1048576) (λ_ r=>∀z,r=.inr z->z=8):=ti (λ_ _=>True) (λy=>(y.2.1-y.2.2).toNat) (by unfold A4S;exact th)
instance ALU:t6 vS (λx=>0<=x.2.2/\x.2.2<=x.2.1/\x.2.1=x.1.length/\x.2.1<=281474976710656/\∀z∈x.1,z.2.length<=1048576) (λ_ r=>∀z,r=.inr z->z=8):=ti (λ_ _=>True) (λy=>(y.2.1-y.2.2).toNat) (by unfold A4T;exact th)
def A7e(x:Int)(h:True):Z1 (aA x) (λr:X5=>True):=by
 unfold aA
 repeat' first
  |with_reducible refine DQ.2 ?_
  |dsimp only
 all_goals exact zd
instance bU:t6 O_ (λx=>x.1.length<=1048576000) (λx r=>r.2.length=x.1.length+1):=⟨by unfold O_;exact th⟩
instance bV:t6 SG (λx=>x.1.length<=1048576000/\x.2.length<=1048576000) (λx r=>r.2.2.length=x.1.length+x.2.length):=⟨by unfold SG;exact th⟩
instance ALV:t6 wS (λx=>0<=x.2.2.2/\x.2.2.2<=x.2.2.1/\x.2.2.1=x.1.length/\x.2.1.length<=x.2.2.2/\x.1.length<=1048576) (λx r=>r.length<=x.1.length):=⟨λx h=>by
 refine EV (R:=λr:List Int=>r.length<=x.1.length) (λy:DO×(List Int)×Int×Int=>y.1=x.1/\0<=y.2.2.2/\y.2.2.2<=y.2.2.1/\y.2.2.1=y.1.length/\y.2.1.length<=y.2.2.2/\y.1.length<=1048576)
  (λy=>(y.2.2.1-y.2.2.2).toNat) ?_ _ _ ⟨rfl,h⟩ (by unfold fuel;omega)
 rintro next ⟨s,j,I,d⟩ h l
 dsimp only at h l;obtain⟨h0,e,A,B,C,D⟩:=h;unfold A4v;dsimp only;refine DR.2 ⟨λa=>?_,λa=>DQ.2 ?_⟩
 .have a:=AC a;have p:i64.wrap (d+1)=d+1:=EJ oa oa;rw[p];refine DP.2 (EL.2 ⟨⟨e,oa⟩,λb _=>?_⟩);refine DP.2 ((A7e _ trivial).mono λr _=>?_);refine DR.2 ⟨λ_=>?_,λ_=>?_⟩
  .refine DP.2 (EL.2 ⟨⟨e,oa⟩,λw _=>?_⟩);refine DP.2 ((bU.1 _ oc).mono λE m=>?_);grind
  .refine DP.2 (Z1.mono (P:=λ_=>True) ?_ λz _=>?_)
   .refine DR.2 ⟨λhd=>?_,λ_=>DQ.2 trivial⟩;have hd:d≠0:=by rw[DX]at hd;simpa using hd
    rw[EJ oa oa];exact EL.2 ⟨⟨oa,oa⟩,λ_ _=>trivial⟩
   .refine DP.2 (Z1.mono (P:=λ_=>True) ?_ λG _=>?_)
    .simp_all[DR,A7e,trivial,DQ]
    .refine DR.2 ⟨λ_=>?_,λ_=>?_⟩
     .refine DP.2 ((bU.1 _ oc).mono λH m=>?_);grind
     grind
 grind⟩
instance ALW:t6 iM (λx=>x.length<=1048576) (λx r=>r.length<=x.length):=⟨by unfold iM;exact th⟩
instance ALX:t6 iN (λx=>x.1.2.1.length<=1048576/\x.1.2.2.1.length<=1048576) (λx r=>r.1=x.1.1/\r.2.1.length=x.1.2.1.length/\r.2.2.1.length=x.1.2.2.1.length/\r.2.2.2=x.1.2.2.2):=⟨by unfold iN;exact th⟩
def A7f{α:Type}{a b:KX α}{Q:KX α->Prop}(d:a.length+b.length<=1099511627776)(h:Q (a++b)):Z1 (app? 48 a b) Q:=FF.2 ⟨oa,h⟩
def pB(x:DO×DO×DO×DO×DZ×DO)(h:x.1.length<=20/\x.2.1.length<=200/\x.2.2.1.length<=200/\x.2.2.2.1.length<=200/\x.2.2.2.2.2.length<=200/\x.2.2.2.2.1.length<=10/\(∀q∈x.2.2.2.2.1,q.1.length<=200/\q.2.length<=200)):Z1 (WK x) (λr:DO×DO×DO×DO×DZ×DO=>r.1.length<=20/\r.2.1.length<=200/\r.2.2.1.length<=200/\r.2.2.2.1.length<=200/\r.2.2.2.2.2.length<=200/\r.2.2.2.2.1.length<=10/\(∀q∈r.2.2.2.2.1,q.1.length<=200/\q.2.length<=200)):=by
 obtain⟨s,D,E,w,y,z,A⟩:=h;unfold WK;try dsimp only
 refine DP.2 ((A7a.1 _ trivial).mono λH _=>?_);refine DP.2 ((ALX.1 _ ⟨oq,oq⟩).mono λa b=>?_);try dsimp only at b
 obtain⟨p,B,C,e⟩:=b;have k1:a.1.length<=20:=by rw[p];exact s
 have d:a.2.2.2.1.length<=200:=by rw[e];exact w
 have j:a.2.2.2.2.1.length<=10:=by rw[e];exact z
 have l:a.2.2.2.2.2.length<=200:=by rw[e];exact y
 have m:∀q∈a.2.2.2.2.1,q.1.length<=200/\q.2.length<=200:=by rw[e];exact A
 refine DR.2 ⟨λ_=>?_,λ_=>?_⟩
 .refine DP.2 ((ALW.1 _ oa).mono λI G=>?_);refine DP.2 (A7f ot ?_);exact DQ.2 ⟨k1,oq,oq,d,l,by simpa using j,by simpa using m⟩
 .refine DP.2 (A7f ot ?_);exact DQ.2 ⟨k1,oq,oq,d,l,by simpa using j,by simpa using m⟩
def bW(x:DO×DO×DO×DO×DZ×DO)(h:x.2.2.2.2.1.length<=1048576):Z1 (MM x) (λr:Int=>r=0->(x.1.length<=20/\x.2.1.length<=200/\x.2.2.1.length<=200/\x.2.2.2.1.length<=200/\x.2.2.2.2.2.length<=200/\x.2.2.2.2.1.length<=10/\(∀q∈x.2.2.2.2.1,q.1.length<=200/\q.2.length<=200))):=by
 unfold MM;try dsimp only
 refine DP.2 ((A7a.1 _ trivial).mono λM E=>?_);refine DR.2 ⟨λb=>DQ.2 λa=>?_,λb=>?_⟩
 .rw[DX,a]at b;simp at b
 have D:x.1.length<=20:=E (by rw[DX]at b;simpa using b);refine DP.2 ((ALM _ h).mono λN H=>?_);refine DR.2 ⟨λ_=>DQ.2 λa=>absurd a oi,λs=>?_⟩;have⟨w,y,A,B,C,l⟩:=H s;refine DR.2 ⟨λ_=>DQ.2 λa=>absurd a oi,λ_=>?_⟩;refine DP.2 ((pA.1 _ oa).mono λO L=>?_);refine DP.2 ((A7c.1 _ (by(try dsimp only);omega)).mono λQ _=>?_);refine DR.2 ⟨λ_=>DQ.2 λa=>absurd a oi,λ_=>?_⟩;refine DP.2 (Z1.mono (P:=λ_=>True) (DR.2 ⟨λ_=>(bT.1 _ (by(try dsimp only);omega)).mono λ_ _=>trivial,λ_=>DQ.2 trivial⟩) λR _=>?_);refine DR.2 ⟨λ_=>DQ.2 λa=>absurd a oi,λ_=>?_⟩;refine DP.2 ((ALR.1 _ ⟨oa,λq I=>by have:=l q I;omega⟩).mono λT _=>?_);refine DR.2 ⟨λb=>DQ.2 λa=>?_,λ_=>?_⟩
 .rw[DX,a]at b;simp at b
 refine DP.2 ((pA.1 _ oa).mono λJ G=>?_);refine DP.2 ((A7c.1 _ (by(try dsimp only);omega)).mono λK _=>?_);refine DR.2 ⟨λ_=>DQ.2 λa=>absurd a oi,λ_=>?_⟩;refine DP.2 ((ALT.1 _ ⟨AV _,oh,rfl,oh,λz j=>?_⟩).mono λd m=>?_)
 .simp only[B1,List.not_mem_nil,or_false]at j;rcases j with rfl|rfl|rfl|rfl<;>omega
 rcases d with d|d
 .refine DP.2 ((ALU.1 _ ⟨AV _,BE _,rfl,(by show((x.2.2.2.2.1.length:Nat):Int)<=281474976710656;omega),λz j=>by have:=l z j;omega⟩).mono λe p=>?_);rcases e with e|e
  .exact DQ.2 λ_=>⟨D,w,y,A,B,C,l⟩
  .exact DQ.2 λa=>by have:=p _ rfl;omega
 .exact DQ.2 λa=>by have:=m _ rfl;omega
def A7g{q:Int}{Q:DO->Prop}(l:DO)(b:l.length=16)(h0:0<=q)(a:q<=15)(h:∀s:DO,s.length=1->Q s):Z1 (cut? l q (u8.wrap (q+1))) Q:=by rw[A0e oa oa];refine HY.2 ⟨⟨h0,oa,oa⟩,h _ ?_⟩;rw[C0,BK];omega
instance ALY:t6 wU (λx=>0<=x.2.2.2/\x.2.2.2<=x.2.2.1/\x.2.2.1=x.1.length/\x.2.1.length<=3*x.2.2.2/\x.1.length<=1048576) (λx r=>r.length<=3*x.1.length):=⟨λx h=>by
 refine EV (R:=λr:List Int=>r.length<=3*x.1.length) (λy:DO×(List Int)×Int×Int=>y.1=x.1/\0<=y.2.2.2/\y.2.2.2<=y.2.2.1/\y.2.2.1=y.1.length/\y.2.1.length<=3*y.2.2.2/\y.1.length<=1048576)
  (λy=>(y.2.2.1-y.2.2.2).toNat) ?_ _ _ ⟨rfl,h⟩ (by unfold fuel;omega)
 rintro next ⟨L,B,R,A⟩ h m
 dsimp only at h m;obtain⟨h0,D,M,w,N,z⟩:=h;unfold A4x;dsimp only;refine DR.2 ⟨λd=>?_,λd=>DQ.2 ?_⟩
 .have d:=AC d;have G:i64.wrap (A+1)=A+1:=EJ oa oa;rw[G];refine DP.2 (EL.2 ⟨⟨D,oa⟩,λb _=>?_⟩);refine DP.2 ((A7Q.1 _ trivial).mono λr _=>?_);refine DP.2 (Z1.mono (P:=λ_=>True) (DR.2 ⟨λ_=>(bT.1 _ (by show 4<=1048576;decide)).mono λ_ _=>trivial,λ_=>DQ.2 trivial⟩) λO _=>?_);refine DR.2 ⟨λ_=>?_,λ_=>?_⟩
  .refine DP.2 ((bU.1 _ oq).mono λQ j=>?_);dsimp only at j;exact m _ ⟨h0,oq,oq,w,oq,z⟩ oq
  .obtain⟨p,C⟩:=ALG b;have⟨H,I⟩:=ALH b;have E:u8.wrap ((b.toNat:Int).tdiv 16)=(b.toNat:Int).tdiv 16:=A0e p oa;refine DP.2 (o_.2 ⟨oi,?_⟩);refine DP.2 (o_.2 ⟨oi,?_⟩);rw[E];refine DP.2 (A7g _ rfl p C λK l=>?_);refine DP.2 (FX.2 ⟨by simp[l],?_⟩);refine DP.2 (A7W.2 ⟨oi,?_⟩);refine DP.2 (A7W.2 ⟨oi,?_⟩);refine DP.2 (A7g _ rfl H I λs e=>?_);refine DP.2 (FX.2 ⟨by simp[l,e],?_⟩);have a:([37]++K++s:DO).length=3:=by simp[l,e]
   refine DP.2 ((bV.1 _ ⟨oq,by rw[a];decide⟩).mono λJ j=>?_);rw[a]at j;dsimp only at j;exact m _ ⟨h0,oq,oq,w,oq,z⟩ oq
 .have d:=AI d;rw[<-h0];omega⟩
instance A0h:t6 WL (λx=>x.length<=1048576) (λx r=>r.length<=3*x.length):=⟨by unfold WL;exact th⟩
def ALZ(x:(KX DO)×(KX DO)×Int×Int)(h:0<=x.2.2.2/\x.2.2.2<=x.2.2.1/\x.2.2.1=x.2.1.length/\x.2.2.1<=202/\x.1.length<=x.2.2.2/\(∀z∈x.2.1,z.length<=200)/\(∀z∈x.1,z.length<=600)):
 Z1 (wV x) (λr:KX DO=>r.length<=202/\∀z∈r,z.length<=600):=by
 refine EV (R:=λr:KX DO=>r.length<=202/\∀z∈r,z.length<=600) (λx:(KX DO)×(KX DO)×Int×Int=>0<=x.2.2.2/\x.2.2.2<=x.2.2.1/\x.2.2.1=x.2.1.length/\x.2.2.1<=202/\x.1.length<=x.2.2.2/\(∀z∈x.2.1,z.length<=200)/\(∀z∈x.1,z.length<=600))
  (λy=>(y.2.2.1-y.2.2.2).toNat) ?_ _ _ h (by unfold fuel;omega)
 rintro next ⟨B,H,I,m⟩ h j
 dsimp only at h j;obtain⟨p,C,s,w,D,d,e⟩:=h;unfold A4y;dsimp only;refine DR.2 ⟨λb=>?_,λb=>DQ.2 ⟨oa,e⟩⟩;have b:=AC b;have A:i64.wrap (m+1)=m+1:=EJ oa oa;rw[A];refine DP.2 (EL.2 ⟨⟨p,oa⟩,λJ l=>?_⟩);have l:=d _ (AE l);refine DP.2 ((A0h.1 _ oa).mono λG E=>?_);refine DP.2 (FF.2 ⟨ot,?_⟩);refine j _ ⟨oq,oq,s,w,ot,d,λz a=>?_⟩ oq;rcases AX.1 a with a|a
 .exact e z a
 .rw[AO]at a;subst a;omega
def AL_(x:DO)(h:x.length<=200):Z1 (iO x) (λr:DO=>r.length<=121402):=by unfold iO;refine DP.2 ((pA.1 _ oa).mono λl e=>?_);refine DP.2 ((ALZ _ ⟨AV _,BE _,rfl,(by show((l.length:Nat):Int)<=202;omega),oh,(λz b=>by have:=e.2 z b;omega),(λz b=>by cases b)⟩).mono λd a=>?_);have m:=A0f [47] 600 d a.2;have p:d.length*(600+[(47:UInt8)].length)<=202*(600+1):=Nat.mul_le_mul a.1 (AD _);refine DP.2 ((XG _ ⟨by have:=a.1;dsimp only;omega,oq⟩).mono λs j=>DQ.2 ?_);rw[j];dsimp only;omega
def A7h(x:DO×DO×DO×DO×DZ×DO)(h:x.1.length<=20/\x.2.1.length<=200/\x.2.2.1.length<=200/\x.2.2.2.1.length<=200/\x.2.2.2.2.2.length<=200/\x.2.2.2.2.1.length<=10/\(∀q∈x.2.2.2.2.1,q.1.length<=200/\q.2.length<=200)):Z1 (iP x) (λr:DO=>r.length<=200000):=by
 obtain⟨e,a,j,l,m,p,s⟩:=h;unfold iP;refine DP.2 (FX.2 ⟨ot,?_⟩);refine DP.2 (FX.2 ⟨ot,?_⟩);refine DR.2 ⟨λ_=>?_,λ_=>?_⟩
 .refine DP.2 ((AL_ _ a).mono λy w=>?_);refine DP.2 (FX.2 ⟨ot,?_⟩);refine DP.2 (FX.2 ⟨ot,?_⟩);refine DP.2 ((A0h.1 _ oa).mono λd b=>?_);refine DP.2 (FX.2 ⟨ot,?_⟩);exact DQ.2 ot
 .refine DP.2 ((A0h.1 _ oa).mono λd b=>?_);refine DP.2 (FX.2 ⟨ot,?_⟩);exact DQ.2 ot
instance ALa:t6 JV (λx=>x.2.2.2.2.1.length<=1048576) (λ_ r=>r.1.length<=200000):=⟨λx h=>by unfold JV;refine DP.2 ((bW _ h).mono λj a=>?_);refine DR.2 ⟨λ_=>DQ.2 oh,λb=>?_⟩;have a:=a (by rw[DX]at b;simpa using b);refine DP.2 ((pB _ a).mono λl d=>?_);exact DP.2 ((A7h _ d).mono λm e=>DQ.2 e)⟩
def ALb(x:DZ×Int×HS×Int)(h:(∀p,Z1 (x.2.2.1 p) λ_=>True)/\0<=x.2.1/\x.2.1<=x.2.2.2/\x.2.2.2<x.1.length/\x.1.length<=1048576):
 Z1 (wF x) (λr:KX (DO×DO)=>r.length=x.1.length/\∀q∈r,q∈x.1):=by
 refine EV (R:=λr:KX (DO×DO)=>r.length=x.1.length/\∀q∈r,q∈x.1) (λy:DZ×Int×HS×Int=>(∀p,Z1 (y.2.2.1 p) λ_=>True)/\0<=y.2.1/\y.2.1<=y.2.2.2/\y.2.2.2<y.1.length/\y.1.length<=1048576/\y.1.length=x.1.length/\∀q∈y.1,q∈x.1)
  (λy=>y.2.2.2.toNat) ?_ _ _ ⟨h.1,h.2.1,h.2.2.1,h.2.2.2.1,h.2.2.2.2,rfl,λq a=>a⟩ (by obtain⟨_,_,_,_,_⟩:=h;unfold fuel;omega)
 rintro next ⟨d,e,l,j⟩ h w
 dsimp only at h w;obtain⟨h0,z,B,C,D,m,b⟩:=h;unfold A4j;dsimp only;by_cases s:e<j
 .have A:i64.wrap (j-1)=j-1:=EJ oa oa;simp only[A,A6 s,A4,BU];refine DP.2 (EY.2 ⟨⟨oa,oa⟩,?_⟩);refine DP.2 (EY.2 ⟨⟨oa,oa⟩,?_⟩);refine DP.2 ((h0 _).mono λE _=>?_);refine DR.2 ⟨λ_=>?_,λ_=>DQ.2 ⟨m,b⟩⟩;refine DP.2 (EY.2 ⟨⟨oa,oa⟩,?_⟩);refine DP.2 (EY.2 ⟨⟨oa,oa⟩,?_⟩);refine DP.2 (EY.2 ⟨⟨oa,oa⟩,?_⟩);refine DP.2 (EY.2 ⟨⟨oa,by rw[B4];omega⟩,?_⟩);refine w _ ⟨h0,z,oq,by simp only[B4];omega,by simp only[B4];omega,by simp only[B4];omega,λq a=>?_⟩ oq;rcases ED a with a|rfl
  .rcases ED a with a|rfl
   .exact b q a
   .exact b _ (EC oa)
  .exact b _ (EC oa)
 .simp only[A9 s,A8,CU];refine DP.2 (DQ.2 ?_);refine DP.2 (DQ.2 ?_);refine DP.2 (DQ.2 ?_);exact DQ.2 ⟨m,b⟩
def ALc(x:DZ×Int×Int×HS×Int)(h:(∀p,Z1 (x.2.2.2.1 p) λ_=>True)/\0<=x.2.1/\x.2.1<=x.2.2.2.2/\x.2.2.1<=x.1.length/\x.2.2.2.2<=1048577/\x.1.length<=1048576):
 Z1 (wG x) (λr:KX (DO×DO)=>r.length=x.1.length/\∀q∈r,q∈x.1):=by
 refine EV (R:=λr:KX (DO×DO)=>r.length=x.1.length/\∀q∈r,q∈x.1) (λy:DZ×Int×Int×HS×Int=>(∀p,Z1 (y.2.2.2.1 p) λ_=>True)/\0<=y.2.1/\y.2.1<=y.2.2.2.2/\y.2.2.1<=y.1.length/\y.2.2.2.2<=1048577/\y.1.length<=1048576/\y.1.length=x.1.length/\∀q∈y.1,q∈x.1)
  (λy=>(y.2.2.1-y.2.2.2.2).toNat) ?_ _ _ ⟨h.1,h.2.1,h.2.2.1,h.2.2.2.1,h.2.2.2.2.1,h.2.2.2.2.2,rfl,λq e=>e⟩ (by obtain⟨_,_,_,_,_,_⟩:=h;unfold fuel;omega)
 rintro next ⟨d,z,A,b,a⟩ h s
 dsimp only at h s;obtain⟨h0,j,C,I,J,D,E,l⟩:=h;unfold A4k;dsimp only;refine DR.2 ⟨λm=>?_,λ_=>DQ.2 ⟨E,l⟩⟩;have m:=AC m;have G:i64.wrap (a+1)=a+1:=EJ oa oa;rw[G];refine DP.2 ((ALb _ ⟨h0,j,C,oq,D⟩).mono λr w=>?_);dsimp only at w;obtain⟨H,B⟩:=w;exact s _ ⟨h0,j,oq,oq,oq,oq,oq,λq e=>l q (B q e)⟩ oq
instance A7i:t6 ZZ (λx=>(∀p,Z1 (x.2.2.2 p) λ_=>True)/\0<=x.2.1/\x.2.1<=1048576/\x.2.2.1<=x.1.length/\x.1.length<=1048576) (λx r=>r.length=x.1.length/\∀q∈r,q∈x.1):=⟨λx h=>by obtain⟨d,b,e,a⟩:=x;dsimp only at h;obtain⟨h0,j,w,l,m⟩:=h;unfold ZZ;dsimp only;rw[EJ oa oa];exact DP.2 ((ALc _ ⟨h0,j,oq,l,oq,m⟩).mono λr s=>DQ.2 s)⟩
def ALd(x:DZ×Int×Int×Int×Int)(h:0<=x.2.1/\0<=x.2.2.1/\x.2.1+x.2.2.2.1<=x.1.length/\x.2.2.1+x.2.2.2.1<=x.1.length/\0<=x.2.2.2.2/\x.1.length<=1048576):
 Z1 (wH x) (λr:KX (DO×DO)=>r.length=x.1.length/\∀q∈r,q∈x.1):=by
 refine EV (R:=λr:KX (DO×DO)=>r.length=x.1.length/\∀q∈r,q∈x.1) (λy:DZ×Int×Int×Int×Int=>0<=y.2.1/\0<=y.2.2.1/\y.2.1+y.2.2.2.1<=y.1.length/\y.2.2.1+y.2.2.2.1<=y.1.length/\0<=y.2.2.2.2/\y.1.length<=1048576/\y.1.length=x.1.length/\∀q∈y.1,q∈x.1)
  (λy=>(y.2.2.2.1-y.2.2.2.2).toNat) ?_ _ _ ⟨h.1,h.2.1,h.2.2.1,h.2.2.2.1,h.2.2.2.2.1,h.2.2.2.2.2,rfl,λq b=>b⟩ (by obtain⟨_,_,_,_,_,_⟩:=h;unfold fuel;omega)
 rintro next ⟨j,d,e,D,a⟩ h z
 dsimp only at h z;obtain⟨A,B,E,G,H,I,C,l⟩:=h;unfold A4l;dsimp only;refine DR.2 ⟨λw=>?_,λ_=>DQ.2 ⟨C,l⟩⟩;have w:=AC w;have m:i64.wrap (d+a)=d+a:=EJ oa oa;have p:i64.wrap (e+a)=e+a:=EJ oa oa;have s:i64.wrap (a+1)=a+1:=EJ oa oa;rw[m,p,s];refine DP.2 (EY.2 ⟨⟨oa,oa⟩,?_⟩);refine DP.2 (EY.2 ⟨⟨oa,oa⟩,?_⟩);refine DP.2 (EY.2 ⟨⟨oa,oa⟩,?_⟩);refine DP.2 (EY.2 ⟨⟨oa,by rw[B4];omega⟩,?_⟩);refine z _ ⟨A,B,by simp only[B4];omega,by simp only[B4];omega,oq,by simp only[B4];omega,by simp only[B4];omega,λq b=>?_⟩ oq;rcases ED b with b|rfl
 .rcases ED b with b|rfl
  .exact l q b
  .exact l _ (EC oa)
 .exact l _ (EC oa)
def A0i(x:DZ×Int×Int×Int×HS)(h:0<=x.2.1/\0<=x.2.2.1/\x.2.1+x.2.2.2.1<=x.1.length/\x.2.2.1+x.2.2.2.1<=x.1.length/\x.1.length<=1048576):
 Z1 (WJ x) (λr:KX (DO×DO)=>r.length=x.1.length/\∀q∈r,q∈x.1):=by
 obtain⟨d,b,e,y,a⟩:=x;obtain⟨j,l,m,p,s⟩:=h;unfold WJ;dsimp only;exact DP.2 ((ALd _ ⟨j,l,m,p,AV _,s⟩).mono λr w=>DQ.2 w)
def ALe(x:DZ×Int×HS×Int×Int)(h:0<x.2.2.2.1/\0<x.2.2.2.2/\x.2.2.2.1<=x.2.1/\x.2.1+x.2.2.2.2<=x.1.length/\x.1.length<=1048576):
 Z1 (wI x) (λr:DZ×Int=>r.1.length=x.1.length/\(∀q∈r.1,q∈x.1)/\0<r.2/\r.2<=x.2.1/\x.2.1+r.2<=x.1.length):=by
 refine EV (R:=λr:DZ×Int=>r.1.length=x.1.length/\(∀q∈r.1,q∈x.1)/\0<r.2/\r.2<=x.2.1/\x.2.1+r.2<=x.1.length) (λy:DZ×Int×HS×Int×Int=>0<y.2.2.2.1/\0<y.2.2.2.2/\y.2.2.2.1<=y.2.1/\y.2.1+y.2.2.2.2<=y.1.length/\y.1.length<=1048576/\y.1.length=x.1.length/\(∀q∈y.1,q∈x.1)/\y.2.1=x.2.1)
  (λy=>(y.2.2.2.1+y.2.2.2.2).toNat) ?_ _ _ ⟨h.1,h.2.1,h.2.2.1,h.2.2.2.1,h.2.2.2.2,rfl,(λq d=>d),rfl⟩ (by obtain⟨_,_,_,_,_⟩:=h;unfold fuel;omega)
 rintro next ⟨l,m,p,a,j⟩ h w
 dsimp only at h w;obtain⟨E,I,J,L,G,K,s,H⟩:=h;unfold A4m;dsimp only;refine DR.2 ⟨λb=>?_,λb=>DQ.2 ⟨K,s,E,oq,?_⟩⟩
 .have b:a≠j:=by rw[DX]at b;simpa using b
  have z:i64.wrap (m-a)=m-a:=EJ oa oa;have A:i64.wrap (m+j)=m+j:=EJ oa oa;have B:i64.wrap (m+j-a)=m+j-a:=EJ oa oa;have C:i64.wrap (a-j)=a-j:=EJ oa oa;have D:i64.wrap (j-a)=j-a:=EJ oa oa;rw[z,A,B,C,D];refine DR.2 ⟨λhd=>?_,λhd=>?_⟩
  .have hd:=AC hd;refine DP.2 ((A0i _ ⟨oq,oq,oq,oq,G⟩).mono λr e=>?_);dsimp only at e;exact w _ ⟨oq,I,oq,oq,oq,oq,λq d=>s q (e.2 q d),H⟩ oq
  .have hd:=AI hd;refine DP.2 ((A0i _ ⟨oq,oq,oq,oq,G⟩).mono λr e=>?_);dsimp only at e;exact w _ ⟨E,oq,J,oq,oq,oq,λq d=>s q (e.2 q d),H⟩ oq
 .have b:a=j:=by rw[DX]at b;simpa using b
  omega
def ALf(x:DZ×Int×Int×Int×HS)(h:0<=x.2.1/\x.2.1<x.2.2.1/\x.2.2.1<x.2.2.2.1/\x.2.2.2.1<=x.1.length/\x.1.length<=1048576):
 Z1 (iF x) (λr:KX (DO×DO)=>r.length=x.1.length/\∀q∈r,q∈x.1):=by
 obtain⟨d,b,m,e,j⟩:=x;dsimp only at h;obtain⟨B,C,D,E,p⟩:=h;unfold iF;dsimp only;rw[EJ (n:=m-b) oa oa,EJ (n:=e-m) oa oa];refine DP.2 ((ALe _ ⟨oq,oq,oq,oq,p⟩).mono λr a=>?_);dsimp only at a;obtain⟨w,l,y,z,A⟩:=a;rw[EJ (n:=m-r.2) oa oa];refine DP.2 ((A0i _ ⟨oq,oq,oq,oq,oq⟩).mono λG a=>DQ.2 ?_);dsimp only at a;exact⟨oa,λq s=>l q (a.2 q s)⟩
def SU{i j:Int}{Q:Int->Prop}(d:0<=i)(l:0<=j)(m:i<=4611686018427387903)(p:j<=4611686018427387903)(h:Q ((i+j) / 2)):Z1 (shr? u64 (u64.wrap (i64.wrap (i+j))) (1:Int)) Q:=by
 have e:i64.wrap (i+j)=i+j:=EJ oa oa;have a:u64.wrap (i+j)=i+j:=by simp only[IntKind.wrap,IntKind.bits,IntKind.signed];simp;omega
 rw[e,a];have b:(i+j).fdiv (2 ^ min (1:Int).toNat u64.bits)=(i+j) / 2:=by have:(2:Int) ^ min (1:Int).toNat u64.bits=2:=oi;rw[this,DG _ oi]
 unfold shr?;rw[b];exact DQ.2 h
def ALg(slf:DZ×Int×Int×Int×HS->X1 DZ)(x:DZ×Int×HS×Int×Int)(h:(∀p,Z1 (x.2.2.1 p) λ_=>True)/\0<=x.2.1/\x.2.1<x.1.length/\0<=x.2.2.2.1/\x.2.2.2.1<=x.2.2.2.2/\x.2.2.2.2<=x.1.length/\x.1.length<=1048576):
 Z1 (wJ slf x) (λr:DZ×Int=>r.1=x.1/\x.2.2.2.1<=r.2/\r.2<=x.2.2.2.2):=by
 refine EV (R:=λr:DZ×Int=>r.1=x.1/\x.2.2.2.1<=r.2/\r.2<=x.2.2.2.2) (λy:DZ×Int×HS×Int×Int=>(∀p,Z1 (y.2.2.1 p) λ_=>True)/\0<=y.2.1/\y.2.1<y.1.length/\0<=y.2.2.2.1/\y.2.2.2.1<=y.2.2.2.2/\y.2.2.2.2<=y.1.length/\y.1.length<=1048576/\y.1=x.1/\x.2.2.2.1<=y.2.2.2.1/\y.2.2.2.2<=x.2.2.2.2)
  (λy=>(y.2.2.2.2-y.2.2.2.1).toNat) ?_ _ _ ⟨h.1,h.2.1,h.2.2.1,h.2.2.2.1,h.2.2.2.2.1,h.2.2.2.2.2.1,h.2.2.2.2.2.2,rfl,AV _,AV _⟩ (by obtain⟨_,_,_,_,_,_,_⟩:=h;unfold fuel;omega)
 rintro next ⟨d,D,b,a,j⟩ h m
 dsimp only at h m;obtain⟨h0,z,A,E,I,G,B,e,C,H⟩:=h;unfold A4n;dsimp only;refine DR.2 ⟨λl=>?_,λl=>DQ.2 ⟨e,C,oq⟩⟩;have l:=AC l;refine DP.2 (SU oa oa oa oa ?_);have s:i64.wrap ((a+j) / 2)=(a+j) / 2:=EJ oa oa;have w:i64.wrap ((a+j) / 2+1)=(a+j) / 2+1:=EJ oa oa;rw[s,w];refine DP.2 (EY.2 ⟨⟨oa,oa⟩,?_⟩);refine DP.2 (EY.2 ⟨⟨oa,oa⟩,?_⟩);refine DP.2 ((h0 _).mono λJ _=>?_);refine DR.2 ⟨λ_=>?_,λ_=>?_⟩
 .exact m _ ⟨h0,z,A,oq,oq,G,B,e,oq,H⟩ oq
 .exact m _ ⟨h0,z,A,E,oq,oq,B,e,C,oq⟩ oq
def ALh(slf:DZ×Int×Int×Int×HS->X1 DZ)(x:DZ×Int×Int)(h:0<=x.2.1/\x.2.1<=x.1.length/\0<=x.2.2/\x.1.length<=1048576):
 Z1 (wK slf x) (λr:KX (DO×DO)=>r.length=x.1.length/\∀q∈r,q∈x.1):=by
 refine EV (R:=λr:KX (DO×DO)=>r.length=x.1.length/\∀q∈r,q∈x.1) (λy:DZ×Int×Int=>0<=y.2.1/\y.2.1<=y.1.length/\0<=y.2.2/\y.1.length<=1048576/\y.1.length=x.1.length/\∀q∈y.1,q∈x.1)
  (λy=>(y.2.1-y.2.2).toNat) ?_ _ _ ⟨h.1,h.2.1,h.2.2.1,h.2.2.2,rfl,λq b=>b⟩ (by obtain⟨_,_,_,_⟩:=h;unfold fuel;omega)
 rintro next ⟨e,d,a⟩ h m
 dsimp only at h m;obtain⟨p,z,A,B,s,j⟩:=h;unfold A4o;dsimp only;rw[EJ (n:=d-1) oa oa];refine DR.2 ⟨λl=>?_,λl=>DQ.2 ⟨s,j⟩⟩;have l:=AC l;have w:i64.wrap (a+1)=a+1:=EJ oa oa;rw[w];refine DP.2 (EY.2 ⟨⟨oa,oa⟩,?_⟩);refine DP.2 (EY.2 ⟨⟨oa,oa⟩,?_⟩);refine DP.2 (EY.2 ⟨⟨oa,oa⟩,?_⟩);refine DP.2 (EY.2 ⟨⟨oa,by rw[B4];omega⟩,?_⟩);refine m _ ⟨p,by simp only[B4];omega,oq,by simp only[B4];omega,by simp only[B4];omega,λq b=>?_⟩ oq;rcases ED b with b|rfl
 .rcases ED b with b|rfl
  .exact j q b
  .exact j _ (EC oa)
 .exact j _ (EC oa)
def ALi(slf:DZ×Int×Int×Int×HS->X1 DZ)(x:DZ×Int×Int)(h:0<=x.2.1/\x.2.2<x.1.length/\x.1.length<=1048576):
 Z1 (wM slf x) (λr:KX (DO×DO)=>r.length=x.1.length/\∀q∈r,q∈x.1):=by
 refine EV (R:=λr:KX (DO×DO)=>r.length=x.1.length/\∀q∈r,q∈x.1) (λy:DZ×Int×Int=>0<=y.2.1/\y.2.2<y.1.length/\y.1.length<=1048576/\y.1.length=x.1.length/\∀q∈y.1,q∈x.1)
  (λy=>(y.2.2-y.2.1).toNat) ?_ _ _ ⟨h.1,h.2.1,h.2.2,rfl,λq b=>b⟩ (by obtain⟨_,_,_⟩:=h;unfold fuel;omega)
 rintro next ⟨d,m,a⟩ h l
 dsimp only at h l;obtain⟨p,z,A,s,e⟩:=h;unfold A4q;dsimp only;refine DR.2 ⟨λj=>?_,λj=>DQ.2 ⟨s,e⟩⟩;have j:=AC j;have w:i64.wrap (a-1)=a-1:=EJ oa oa;rw[w];refine DP.2 (EY.2 ⟨⟨oa,oa⟩,?_⟩);refine DP.2 (EY.2 ⟨⟨oa,oa⟩,?_⟩);refine DP.2 (EY.2 ⟨⟨oa,oa⟩,?_⟩);refine DP.2 (EY.2 ⟨⟨oa,by rw[B4];omega⟩,?_⟩);refine l _ ⟨p,by simp only[B4];omega,by simp only[B4];omega,by simp only[B4];omega,λq b=>?_⟩ oq;rcases ED b with b|rfl
 .rcases ED b with b|rfl
  .exact e q b
  .exact e _ (EC oa)
 .exact e _ (EC oa)
def ALj(slf:DZ×Int×Int×Int×HS->X1 DZ)(x:DZ×Int×HS×Int×Int)(h:(∀p,Z1 (x.2.2.1 p) λ_=>True)/\0<=x.2.1/\x.2.1<x.1.length/\0<=x.2.2.2.1/\x.2.2.2.1<=x.2.2.2.2/\x.2.2.2.2<=x.1.length/\x.1.length<=1048576):
 Z1 (wL slf x) (λr:DZ×Int=>r.1=x.1/\x.2.2.2.1<=r.2/\r.2<=x.2.2.2.2):=by
 refine EV (R:=λr:DZ×Int=>r.1=x.1/\x.2.2.2.1<=r.2/\r.2<=x.2.2.2.2) (λy:DZ×Int×HS×Int×Int=>(∀p,Z1 (y.2.2.1 p) λ_=>True)/\0<=y.2.1/\y.2.1<y.1.length/\0<=y.2.2.2.1/\y.2.2.2.1<=y.2.2.2.2/\y.2.2.2.2<=y.1.length/\y.1.length<=1048576/\y.1=x.1/\x.2.2.2.1<=y.2.2.2.1/\y.2.2.2.2<=x.2.2.2.2)
  (λy=>(y.2.2.2.2-y.2.2.2.1).toNat) ?_ _ _ ⟨h.1,h.2.1,h.2.2.1,h.2.2.2.1,h.2.2.2.2.1,h.2.2.2.2.2.1,h.2.2.2.2.2.2,rfl,AV _,AV _⟩ (by obtain⟨_,_,_,_,_,_,_⟩:=h;unfold fuel;omega)
 rintro next ⟨d,H,b,a,j⟩ h m
 dsimp only at h m;obtain⟨h0,z,A,D,J,E,B,e,C,G⟩:=h;unfold A4p;dsimp only;refine DR.2 ⟨λl=>?_,λl=>DQ.2 ⟨e,C,oq⟩⟩;have l:=AC l;refine DP.2 (SU oa oa oa oa ?_);have s:i64.wrap ((a+j) / 2)=(a+j) / 2:=EJ oa oa;have w:i64.wrap ((a+j) / 2+1)=(a+j) / 2+1:=EJ oa oa;rw[s,w];refine DP.2 (EY.2 ⟨⟨oa,oa⟩,?_⟩);refine DP.2 (EY.2 ⟨⟨oa,oa⟩,?_⟩);refine DP.2 ((h0 _).mono λI _=>?_);refine DR.2 ⟨λ_=>?_,λ_=>?_⟩
 .exact m _ ⟨h0,z,A,oq,oq,E,B,e,oq,G⟩ oq
 .exact m _ ⟨h0,z,A,D,oq,oq,B,e,C,oq⟩ oq
def ALk(slf:DZ×Int×Int×Int×HS->X1 DZ)(x:DZ×HS×Int×Int×Int)(h:(∀p,Z1 (x.2.1 p) λ_=>True)/\0<=x.2.2.1/\x.2.2.1<=x.2.2.2.1/\x.2.2.2.1<=x.1.length/\x.2.2.2.1-1<=x.2.2.2.2/\x.2.2.2.2-x.2.2.1<x.1.length/\x.1.length<=1048576):
 Z1 (wN slf x) (λr:DZ×Int=>r.1=x.1/\x.2.2.1<=r.2/\r.2<=x.2.2.2.1):=by
 refine EV (R:=λr:DZ×Int=>r.1=x.1/\x.2.2.1<=r.2/\r.2<=x.2.2.2.1) (λy:DZ×HS×Int×Int×Int=>(∀p,Z1 (y.2.1 p) λ_=>True)/\0<=y.2.2.1/\y.2.2.1<=y.2.2.2.1/\y.2.2.2.1<=y.1.length/\y.2.2.2.1-1<=y.2.2.2.2/\y.2.2.2.2-y.2.2.1<y.1.length/\y.1.length<=1048576/\y.1=x.1/\x.2.2.1<=y.2.2.1/\y.2.2.2.1<=x.2.2.2.1)
  (λy=>(y.2.2.2.1-y.2.2.1).toNat) ?_ _ _ ⟨h.1,h.2.1,h.2.2.1,h.2.2.2.1,h.2.2.2.2.1,h.2.2.2.2.2.1,h.2.2.2.2.2.2,rfl,AV _,AV _⟩ (by obtain⟨_,_,_,_,_,_,_⟩:=h;unfold fuel;omega)
 rintro next ⟨d,e,s,a,b⟩ h m
 dsimp only at h m;obtain⟨h0,D,J,E,G,H,B,j,C,I⟩:=h;unfold A4r;dsimp only;refine DR.2 ⟨λl=>?_,λl=>DQ.2 ⟨j,C,oq⟩⟩;have l:=AC l;refine DP.2 (SU oa oa oa oa ?_);have w:i64.wrap ((s+a) / 2)=(s+a) / 2:=EJ oa oa;have z:i64.wrap ((s+a) / 2+1)=(s+a) / 2+1:=EJ oa oa;have A:i64.wrap (b-(s+a) / 2)=b-(s+a) / 2:=EJ oa oa;rw[w,z,A];refine DP.2 (EY.2 ⟨⟨oa,oa⟩,?_⟩);refine DP.2 (EY.2 ⟨⟨oa,oa⟩,?_⟩);refine DP.2 ((h0 _).mono λK _=>?_);refine DR.2 ⟨λ_=>?_,λ_=>?_⟩
 .exact m _ ⟨h0,oq,oq,E,G,oq,B,j,oq,I⟩ oq
 .exact m _ ⟨h0,D,oq,oq,oq,H,B,j,C,oq⟩ oq
def ALl(slf:DZ×Int×Int×Int×HS->X1 DZ)(x:DZ×Int×HS×Int×Int×X5)(h:x.1.length<=1048576/\(x.2.2.2.2.2=true->0<=x.2.2.2.1/\x.2.2.2.1<x.2.1/\x.2.1<x.2.2.2.2.1/\x.2.2.2.2.1<=x.1.length)):
 Z1 (iH slf x) (λr:KX (DO×DO)=>r.length=x.1.length/\∀q∈r,q∈x.1):=by
 obtain⟨d,A,a,s,e,b⟩:=x;dsimp only at h;unfold iH;dsimp only;refine DR.2 ⟨λw=>?_,λ_=>DQ.2 ⟨rfl,λq y=>y⟩⟩;have⟨j,l,m,p⟩:=h.2 w;exact DP.2 ((ALf _ ⟨j,l,m,p,h.1⟩).mono λr z=>DQ.2 z)
def ALm(slf:DZ×Int×Int×Int×HS->X1 DZ)(K:Int)(I:∀y:DZ×Int×Int×Int×HS,((∀p,Z1 (y.2.2.2.2 p) λ_=>True)/\0<=y.2.1/\y.2.1<y.2.2.1/\y.2.2.1<y.2.2.2.1/\y.2.2.2.1<=y.1.length/\y.1.length<=1048576)->y.2.2.2.1-y.2.1<=K->Z1 (slf y) (λr:KX (DO×DO)=>r.length=y.1.length/\∀q∈r,q∈y.1))(x:DZ×Int×Int×Int×HS)(h:(∀p,Z1 (x.2.2.2.2 p) λ_=>True)/\0<=x.2.1/\x.2.1<x.2.2.1/\x.2.2.1<x.2.2.2.1/\x.2.2.2.1<=x.1.length/\x.1.length<=1048576)(Q:x.2.2.2.1-x.2.1<=2*K):
 Z1 (wO slf x) (λr:KX (DO×DO)=>r.length=x.1.length/\∀q∈r,q∈x.1):=by
 obtain⟨d,b,m,l,w⟩:=x;dsimp only at h Q;obtain⟨h0,B,h2,h3,O,z⟩:=h;unfold wO;dsimp only;rw[EJ (n:=m-b) oa oa,EJ (n:=l-m) oa oa];refine DR.2 ⟨λ_=>?_,λ_=>DR.2 ⟨λ_=>?_,λ_=>?_⟩⟩
 .refine DP.2 ((ALg slf _ ⟨h0,B,oq,oq,oq,O,z⟩).mono λX a=>?_);dsimp only at a;obtain⟨j,D,E⟩:=a;refine DP.2 ((ALh slf _ ⟨oq,by dsimp only;rw[j];omega,B,by dsimp only;rw[j];exact z⟩).mono λY a=>DQ.2 ?_);dsimp only at a;rw[j]at a;exact a
 .refine DP.2 ((ALj slf _ ⟨h0,oq,oq,B,oq,oq,z⟩).mono λX a=>?_);dsimp only at a;obtain⟨j,D,E⟩:=a;refine DP.2 ((ALi slf _ ⟨oq,by dsimp only;rw[j];omega,by dsimp only;rw[j];exact z⟩).mono λY a=>DQ.2 ?_);dsimp only at a;rw[j]at a;exact a
 .refine DP.2 (SU oa oa oa oa ?_);generalize H:(b+l) / 2=mid;rw[EJ (n:=mid) oa oa,EJ (n:=mid+m) oa oa,EJ (n:=mid+m-1) oa oa];have R:Z1 (iG slf (b,m,l,mid,mid+m,decide (mid<m))) λr:Int×Int=>0<=r.1/\b<=r.1/\mid+m-l<=r.1/\r.1<=r.2/\r.2<=m/\r.2<=mid+m/\mid+m-1-r.1<d.length:=by
   unfold iG;dsimp only;refine DR.2 ⟨λe=>DQ.2 ?_,λe=>DQ.2 ?_⟩
   .have e:=AC e;rw[EJ oa oa];dsimp only;omega
   .have e:=AI e;dsimp only;omega
  refine DP.2 (R.mono λT a=>?_);obtain⟨f1,Z,f3,L,f5,f6,M⟩:=a;refine DP.2 ((ALk slf _ ⟨h0,f1,L,oq,oq,M,z⟩).mono λs a=>?_);dsimp only at a;obtain⟨j,D,E⟩:=a;rw[EJ (n:=mid+m-s.2) oa oa];refine DP.2 ((ALl slf _ ⟨by dsimp only;rw[j];exact z,λe=>?_⟩).mono λC a=>?_)
  .dsimp only at e ⊢;rw[A7,B3,B3]at e;rw[j];omega
  dsimp only at a;rw[j]at a;obtain⟨N,G⟩:=a;have A:Z1 (iI slf (C,b,w,mid,s.2,decide (b<s.2)&&decide (s.2<mid))) λr:KX (DO×DO)=>r.length=d.length/\∀q∈r,q∈d:=by unfold iI;dsimp only;refine DR.2 ⟨λe=>?_,λ_=>DQ.2 ⟨N,G⟩⟩;rw[A7,B3,B3]at e;refine DP.2 ((I _ ⟨h0,B,oq,oq,oq,oq⟩ oq).mono λU a=>DQ.2 ?_);dsimp only at a;exact⟨oa,λq A=>G q (a.2 q A)⟩
  refine DP.2 (A.mono λV a=>?_);obtain⟨k1,J⟩:=a;refine DR.2 ⟨λe=>?_,λ_=>DQ.2 ⟨k1,J⟩⟩;rw[A7,B3,B3]at e;refine DP.2 ((I _ ⟨h0,oq,oq,oq,oq,oq⟩ oq).mono λW a=>DQ.2 ?_);dsimp only at a;exact⟨oa,λq A=>J q (a.2 q A)⟩
def ALn:∀(n:Nat) (x:DZ×Int×Int×Int×HS) (h:(∀p,Z1 (x.2.2.2.2 p) λ_=>True)/\0<=x.2.1/\x.2.1<x.2.2.1/\x.2.2.1<x.2.2.2.1/\x.2.2.2.1<=x.1.length/\x.1.length<=1048576) (a:x.2.2.2.1-x.2.1<=2 ^ n),Z1 (MN n x) (λr:KX (DO×DO)=>r.length=x.1.length/\∀q∈r,q∈x.1):=by
 intro n;induction n with
 |zero=>intro x h a;obtain⟨_,e,j,l,_,_⟩:=h;rw[Int.pow_zero]at a;omega
 |succ n d=>intro x h a;refine ALm (MN n) (2 ^ n) (λy b hk=>d y b hk) x h ?_;rw[Int.pow_succ]at a;omega
instance A7j:t6 Z_ (λx=>(∀p,Z1 (x.2.2.2.2 p) λ_=>True)/\0<=x.2.1/\x.2.1<x.2.2.1/\x.2.2.1<x.2.2.2.1/\x.2.2.2.1<=x.1.length/\x.1.length<=1048576) (λx r=>r.length=x.1.length/\∀q∈r,q∈x.1):=⟨λx h=>by unfold Z_;refine ALn 100 x h ?_;obtain⟨_,a,b,d,e,j⟩:=h;have:(1048576:Int)<=2 ^ 100:=oi;omega⟩
def ALo{s p:DO}(h:Lib.hasPrefix s p=true):p.length<=s.length:=(List.isPrefixOf_iff_prefix.1 h).length_le
instance A7k:t6 strings_HasPrefix (λ_=>True) (λx r=>r=true->x.2.length<=x.1.length):=⟨λx h=>DQ.2 ALo⟩
theorem pC(s p:DO):(Lib.trimPrefix s p).length<=s.length:=by
 unfold Lib.trimPrefix;split
 .rw[C0];omega
 .exact AD _
def ALp(x:DO×DO)(h:True):Z1 (strings_TrimPrefix x) (λr:DO=>r.length<=x.1.length):=DQ.2 (pC _ _)
def ALq(x:DO×DO)(h:True):Z1 (strings_CutPrefix x) (λr:DO×X5=>r.1.length<=x.1.length):=DQ.2 (pC _ _)
instance A7l:t6 strings_Cut (λx=>x.1.length<=1048576) (λx r=>r.1.length<=x.1.length/\r.2.1.length<=x.1.length):=⟨λx h=>by
 unfold strings_Cut I_;rw[A6 oa];refine DQ.2 ?_;unfold Lib.cut;split
 .simp only[BK,C0];omega
 .simp⟩
def ALr(x:DO×Int)(h:x.1.length<=1048576):Z1 (strings_LastIndexByte x) (λr:Int=>-1<=r/\r<x.1.length):=by
 unfold strings_LastIndexByte I_;rw[A6 oa];refine DQ.2 ?_;have a:(⟨x.1.toArray⟩:X3).size=x.1.length:=by simp[ByteArray.size]
 rcases Lib.lastIndexByte_spec ⟨x.1.toArray⟩ x.2 with⟨e,_⟩|⟨i,hi,e,_⟩<;>rw[e]<;>omega
def ALs:∀(k u m:Nat),u<10 ^ m->1<=m->(N7 k u).length<=m:=by
 intro k;induction k with
 |zero=>intro u m _ _;simp[N7]
 |succ k e=>
  intro u m a d;simp only[N7];split
  .simpa using d
  .rename_i h;obtain⟨j,rfl⟩:∃j,m=j+1:=⟨m-1,oa⟩;have b:1<=j:=by
    rcases j with _|j
    .simp at a;omega
    .omega
   have:=e (u / 10) j (by rw[Nat.pow_succ]at a;omega) b;simp only[AL,BO,C8];omega
def ALt:∀(k u:Nat),1<=k->1<=(N7 k u).length:=by intro k u h;obtain⟨j,rfl⟩:∃j,k=j+1:=⟨k-1,oa⟩;simp only[N7];split<;>simp
instance KP:t6 strconv_Itoa (λ_=>True) (λx r=>1<=r.length/\r.length<=21/\(0<=x->x<=999999999999999999->r.length<=18)):=⟨λx h=>by
 refine DQ.2 ⟨?_,A4G x,?_⟩
 .unfold SA;split
  .simp
  .exact ALt 20 _ oi
 .intro h0 b;unfold SA;rw[if_neg oa];exact ALs 20 _ 18 (by have a:(10:Nat) ^ 18=1000000000000000000:=(oi);omega) oi⟩
def UP(b:UInt8):Prop:=48<=b.toNat/\b.toNat<=57
def ALu:∀(l:DO) (a k:Nat),(∀b∈l,UP b)->a<10 ^ k->l.length+k<=18->∃u,Lib.parseUint10 a l=.ok u/\u<10 ^ 18:=by
 intro l;induction l with
 |nil=>intro a k _ d h;exact⟨a,rfl,AQ d (Nat.pow_le_pow_right oi (by simpa using h))⟩
 |cons c r p=>
  intro a k hd d h;have s:r.length+1+k<=18:=by simpa using h
  have w:10 ^ k<=10 ^ 17:=Nat.pow_le_pow_right oi oa;have e:(10:Nat) ^ 17=100000000000000000:=oi;have m:48<=c.toNat/\c.toNat<=57:=hd c AF;simp only[Lib.parseUint10];rw[if_pos m,if_neg oa,if_neg oa];exact p _ (k+1) (λb j=>hd b (AP _ j)) (by rw[Nat.pow_succ];omega) oa
def A0j(s:DO)(h0:s≠[])(hd:∀b∈s,UP b)(j:s.length<=18):∃u:Nat,Lib.atoiAll s=.ok (u:Int)/\u<1000000000000000000:=by
 cases s with
 |nil=>exact absurd rfl h0
 |cons c r=>have d:=hd c AF;unfold UP at d;have⟨u,e,h⟩:=ALu (c::r) 0 0 hd oi j;have a:(10:Nat) ^ 18=1000000000000000000:=oi;rw[a]at h;refine⟨u,?_,h⟩;unfold Lib.atoiAll;simp only;rw[if_neg oa];unfold Lib.parseMag;rw[if_neg oh,e];simp only;rw[if_neg oa,if_neg oa,if_neg oa]
def ALv(x:DO)(h:x.length<=1048576):Z1 (gB x) (λr:Int×Unit=>x≠[]->(∀b∈x,UP b)->x.length<=18->0<=r.1/\r.1<=999999999999999999):=by
 unfold gB I_;rw[A6 oa];show Z1 (match Lib.atoiAll x with| .ok v=>some (v,())| .range=>some (Lib.atoiSat x,())|_=>some (0,())) _;cases e:Lib.atoiAll x with
 |ok v=>refine DQ.2 λd j l=>?_;have⟨u,a,m⟩:=A0j x d j l;rw[e]at a;injection a with a;subst a;dsimp only;omega
 |range=>exact DQ.2 λd j l=>by have⟨u,a,_⟩:=A0j x d j l;rw[e]at a;cases a
 |_=>exact DQ.2 λd j l=>by have⟨u,a,_⟩:=A0j x d j l;rw[e]at a;cases a
instance ALw:t6 strings_Repeat (λx=>x.1.length=1/\0<=x.2/\x.2<=1048576) (λx r=>(r.length:Int)=x.2):=⟨λx h=>by unfold strings_Repeat I_;rw[A6 (by rw[h.1];omega)];refine DQ.2 ?_;rw[Lib.repeatL_length,h.1];omega⟩
def ALx(r:Int):(Lib.encodeRune r).length<=4:=by
 unfold Lib.encodeRune Lib.encodeRuneZ;rw[AZ]
 repeat' split
 all_goals simp
def ALy(f:Int->Int):∀(n:Nat) (l:DO),(Lib.mapGoD f n l).length<=4*n:=by
 intro n;induction n with
 |zero=>intro l;simp[Lib.mapGoD]
 |succ n a=>
  intro l;simp only[Lib.mapGoD];split
  .simp
  .rw[AL];have h:=a (l.drop (Lib.decodeL l).2);have b:(if 0<=f (Lib.decodeL l).1 then Lib.encodeRune (f (Lib.decodeL l).1)else []).length<=4:=by
    split
    .exact ALx _
    .simp
   omega
instance A7m:t6 ZM (λx=>x.length<=1048576) (λx r=>r.length<=4*x.length):=⟨λx h=>by unfold ZM I_;rw[A6 oa];have a:(Lib.toLowerD x).length<=4*x.length:=ALy _ _ _;show Z1 (str? _) _;unfold str?;rw[A6 oa];exact DQ.2 a⟩
def ALz(p:Nat->X5)(s:X3):∀(f pos:Nat) (st:X1 Nat) (b:KX (Nat×Nat)),(Lib.spansFromP p s f pos st b).1.length<=b.length+f:=by
 intro f;induction f with
 |zero=>intro pos st b;simp[Lib.spansFromP]
 |succ f d=>
  intro pos st b;simp only[Lib.spansFromP];split
  .split
   .cases st with
    |some a=>have:=d (pos+(Utf8.decode s pos).2) none (b++[(a,pos)]);simp only[AL,BO,C8]at this ⊢;omega
    |none=>have:=d (pos+(Utf8.decode s pos).2) none b;dsimp only;omega
   .cases st with
    |some a=>have:=d (pos+(Utf8.decode s pos).2) (some a) b;dsimp only;omega
    |none=>have:=d (pos+(Utf8.decode s pos).2) (some pos) b;dsimp only;omega
  .simp
def AM0(p:Nat->X5)(s:X3):(Lib.goFieldsP p s).length<=s.size+1:=by
 unfold Lib.goFieldsP Lib.spansOfP Lib.closeSpans;rw[AZ];have:=ALz p s s.size 0 none [];simp only[C8]at this;split
 .rw[AL];simp only[BO,C8];omega
 .omega
def AM1(p:Nat->X5)(s:X3):∀b∈Lib.goFieldsP p s,b.size<=s.size:=by intro b h;unfold Lib.goFieldsP at h;obtain⟨x,_,rfl⟩:=BP.1 h;rw[CL];omega
def AM2(x:DO×NF)(h:x.1.length<=1048576/\∀c,Z1 (x.2 c) λ_=>True):Z1 (WE x) (λr:KX DO=>r.length<=x.1.length+1/\∀s∈r,s.length<=x.1.length):=by
 have d:(⟨x.1.toArray⟩:X3).size=x.1.length:=by simp[ByteArray.size]
 have a:=λp=>AM0 p ⟨x.1.toArray⟩;rw[d]at a;unfold WE I_;rw[@decide_eq_true _ (Classical.propDecidable _) ⟨oa,λr _=>let ⟨b,e,_⟩:=h.2 r;⟨b,e⟩,by have:=a λr=>(x.2 (r:Int)).getD false;omega⟩];refine DQ.2 ⟨?_,?_⟩
 .rw[AZ];exact a _
 .intro s j;obtain⟨b,l,rfl⟩:=BP.1 j;have:=AM1 _ _ b l;rw[d]at this;have e:b.data.toList.length=b.size:=by rw[BD];rfl
  omega
abbrev Nm(n:Int):Prop:=0<=n/\n<=999999999999999999
abbrev Nm1(n:Int):Prop:=-1<=n/\n<=999999999999999999
abbrev LS(l:KX DO):Prop:=l.length<=1002/\∀s∈l,s.length<=1000
abbrev NS(l:KX Int):Prop:=l.length<=1002/\∀n∈l,0<=n/\n<=999999999999999999
abbrev TS(l:KX GI):Prop:=l.length<=1002/\∀t∈l,t.2.1.length<=5000/\0<=t.2.2/\t.2.2<=999999999999999999
abbrev Dt:=(KX Int)×(KX DO)
abbrev Rv:=Int×DO×DO×X5
abbrev Sg:=Int×(KX Int)×Int×Int×Int×Int×(KX DO)
abbrev Ql:=KX GI
abbrev Vr:=Sum OA (Sum NE (Sum GC (Sum (KX GI) (Sum Int Unit))))
abbrev pD(v:Dt):Prop:=v.1.length=3/\(∀n∈v.1,0<=n/\n<=999999999999999999)/\v.2.length<=1002/\∀s∈v.2,s.length<=1000
abbrev bX(v:Rv):Prop:=Nm v.1/\v.2.1.length<=1000/\v.2.2.1.length<=1000
abbrev P8(v:Sg):Prop:=Nm v.1/\NS v.2.1/\(0<=v.2.2.1/\v.2.2.1<=3)/\Nm v.2.2.2.1/\Nm1 v.2.2.2.2.1/\Nm1 v.2.2.2.2.2.1/\LS v.2.2.2.2.2.2
def MQ(v:Vr):Prop:=match v with
 | .inl d=>pD d
 | .inr (.inl r)=>bX r
 | .inr (.inr (.inl s))=>P8 s
 | .inr (.inr (.inr (.inl q)))=>TS q
 | .inr (.inr (.inr (.inr (.inl n))))=>Nm n
 | .inr (.inr (.inr (.inr (.inr _))))=>False
theorem AM3(d:Dt):MQ (.inl d)=pD d:=rfl
theorem AM4(d:Rv):MQ (.inr (.inl d))=bX d:=rfl
theorem AM5(d:Sg):MQ (.inr (.inr (.inl d)))=P8 d:=rfl
theorem AM6(d:Ql):MQ (.inr (.inr (.inr (.inl d))))=TS d:=rfl
theorem AM7(d:Int):MQ (.inr (.inr (.inr (.inr (.inl d)))))=Nm d:=rfl
theorem EN{α:Type}{l:KX α}{i j:Nat}{a:α}:a∈(l.take i).drop j->a∈l:=λh=>List.mem_of_mem_take (List.mem_of_mem_drop h)
theorem EM{α:Type}(l:KX α)(i j:Nat):((l.take i).drop j).length=min i l.length-j:=oh
def pE{xs:KX DO}{sep:DO}{m k c:Nat}:(∀s∈xs,s.length<=m)->xs.length<=k->sep.length<=c->(Lib.join xs sep).length<=k*(m+c):=λh hk a=>AM (A0f sep m xs h) (Nat.mul_le_mul hk oa)
theorem EP(s:DO):DU s []=decide (s.length=0):=by rw[E3];cases s<;>simp
def AM8(x:DO×Int×NF×Int)(h:0<=x.2.2.2/\0<=x.2.1/\x.2.1+x.2.2.2<=x.1.length/\x.1.length<=1048576/\(∀c,Z1 (x.2.2.1 c) λ_=>True)/\(∀j:Nat,x.2.1<=j->j<x.2.1+x.2.2.2->∀c,x.1[j]?=some c->x.2.2.1 (c.toNat:Int)=some true)):
 Z1 (wW x) (λr:Int=>x.2.2.2<=r/\x.2.1+r<=x.1.length/\(∀j:Nat,x.2.1<=j->j<x.2.1+r->∀c,x.1[j]?=some c->x.2.2.1 (c.toNat:Int)=some true)/\∀c,x.1[(x.2.1+r).toNat]?=some c->x.2.2.1 (c.toNat:Int)=some false):=by
 obtain⟨s,at_,f,n⟩:=x;dsimp only at h ⊢
 refine EV (R:=λr:Int=>n<=r/\at_+r<=s.length/\(∀j:Nat,at_<=j->j<at_+r->∀c,s[j]?=some c->f (c.toNat:Int)=some true)/\∀c,s[(at_+r).toNat]?=some c->f (c.toNat:Int)=some false)
  (λy:DO×Int×NF×Int=>y.1=s/\y.2.1=at_/\y.2.2.1=f/\n<=y.2.2.2/\at_+y.2.2.2<=s.length/\(∀j:Nat,at_<=j->j<at_+y.2.2.2->∀c,s[j]?=some c->f (c.toNat:Int)=some true)) (λy=>(s.length-at_-y.2.2.2).toNat) ?_ _ _ ⟨rfl,rfl,rfl,AV _,h.2.2.1,h.2.2.2.2.2⟩ (by unfold fuel;dsimp only;omega)
 rintro next ⟨K,d,L,m⟩ E I
 dsimp only at E I;obtain⟨rfl,rfl,rfl,C,D,p⟩:=E;obtain⟨M,N,O,Q,J,_⟩:=h;unfold A4z;dsimp only;rw[EJ oa oa];by_cases H:d+m<K.length
 .rw[A6 H];simp only[A4,BU];refine DP.2 (EL.2 ⟨⟨oa,oa⟩,λb G=>?_⟩);have⟨r,B,_⟩:=J (b.toNat:Int);rw[B];refine DP.2 (DQ.2 ?_);refine DR.2 ⟨λe=>?_,λe=>DQ.2 ⟨C,D,p,λc a=>?_⟩⟩
  .subst e;rw[EJ oa oa];refine I _ ⟨rfl,rfl,rfl,oq,oq,?_⟩ oq;intro j w z c l;dsimp only at z;by_cases A:(j:Int)<d+m
   .exact p j w A c l
   .have:j=(d+m).toNat:=oa;subst this;rw[G]at l;cases l;exact B
  .subst e;rw[G]at a;cases a;exact B
 .rw[A9 H];simp only[A8,CU];refine DP.2 (DQ.2 ?_);refine DP.2 (DQ.2 ?_);refine DQ.2 ⟨C,D,p,λc a=>?_⟩;have:=(A3.1 a).1;omega
def pF(x:DO×Int×NF)(h:0<=x.2.1/\x.2.1<=x.1.length/\x.1.length<=1048576/\(∀c,Z1 (x.2.2 c) λ_=>True)):
 Z1 (JB x) (λr:Int=>0<=r/\x.2.1+r<=x.1.length/\(∀j:Nat,x.2.1<=j->j<x.2.1+r->∀c,x.1[j]?=some c->x.2.2 (c.toNat:Int)=some true)/\∀c,x.1[(x.2.1+r).toNat]?=some c->x.2.2 (c.toNat:Int)=some false):=by
 obtain⟨s,a,f⟩:=x;dsimp only at h ⊢;unfold JB;refine DP.2 ((AM8 _ ⟨AV _,h.1,oq,h.2.2.1,h.2.2.2,λj b d=>by dsimp only at b d;omega⟩).mono λr e=>DQ.2 ?_);exact e
def AM9(x:DO×Int×NF)(h:0<=x.2.1/\x.2.1<=x.1.length/\x.1.length<=1048576/\(∀c,Z1 (x.2.2 c) λ_=>True)):
 Z1 (JB x) (λr:Int=>0<=r/\x.2.1+r<=x.1.length):=(pF x h).mono λ_ a=>⟨a.1,a.2.1⟩
def OE(x:DO×Int×NF)(a:∀c,Z1 (x.2.2 c) (λ_=>True))(h:0<=x.2.1/\x.2.1<=x.1.length/\x.1.length<=1048576):
 Z1 (JB x) (λr:Int=>0<=r/\x.2.1+r<=x.1.length):=AM9 x ⟨h.1,h.2.1,h.2.2,a⟩
instance:t6 JB (λx=>(∀c,Z1 (x.2.2 c) (λ_=>True))/\0<=x.2.1/\x.2.1<=x.1.length/\x.1.length<=1048576) (λx r=>0<=r/\x.2.1+r<=x.1.length):=⟨λx h=>OE x h.1 h.2⟩
def clo{α a:Type}{f:α->X1 a}{P:a->Prop}{c:α}(h:Z1 (f c) P):Z1 ((f c).bind λr=>some r) λ_=>True:=DP.2 (h.mono λ_ _=>DQ.2 trivial)
def A7n(c:Int):Z1 ((H3 c).bind λr=>some r) λ_=>True:=⟨_,rfl,trivial⟩
instance HZ:t6 H3 (λ_=>True) (λ_ _=>True):=⟨λc h=>⟨_,rfl,trivial⟩⟩
instance JW:t6 NI (λ_=>True) (λ_ _=>True):=⟨λc h=>⟨_,rfl,trivial⟩⟩
def AMA(c:Int)(h:True):Z1 (x7 c) λ_=>True:=⟨_,rfl,trivial⟩
def A7o(c:Int)(h:True):Z1 (xA c) λ_=>True:=⟨_,rfl,trivial⟩
def A7p(b:UInt8)(h:((H3 (b.toNat:Int)).bind λr=>some r)=some true):UP b:=by unfold H3 at h;simp at h;unfold UP;omega
instance M8:t6 KL (λs=>s.length<=1048576) (λ_ r=>0<=r.1/\r.1<=999999999999999999):=⟨λs h=>by
 unfold KL;dsimp only;cases x:(DU s []||decide ((18:Int)<(s.length:Int)))with
 |true=>simp only[B7,A8,Bool.true_or,A4];exact DP.2 (DQ.2 (DQ.2 oi))
 |false=>
  simp only[BJ,A4,C1];refine DP.2 ((pF _ ⟨AV _,oq,h,A7n⟩).mono λr l=>?_);refine DR.2 ⟨λ_=>DQ.2 oi,λe=>?_⟩;refine DP.2 ((ALv s h).mono λz m=>DQ.2 ?_);have a:=(BQ.1 x);have y:r=s.length:=by simpa[DX]using e
  dsimp only at l;refine m (by simpa[E3]using a.1) (λb p=>?_) (by have:=AI a.2;omega);have⟨j,w,d⟩:=List.mem_iff_getElem.1 p;exact A7p b (l.2.2.1 j oa oa b (by rw[<-d];exact A1 w))⟩
def zb{p:Prop}(h:p:=by grind[fuel]):p:=h
def AMB(x:(KX E1)×Int×HX×Int)(h:(∀p,Z1 (x.2.2.1 p) λ_=>True)/\0<=x.2.1/\x.2.1<=x.2.2.2/\x.2.2.2<x.1.length/\x.1.length<=1048576):
 Z1 (xS x) (λr:KX E1=>r.length=x.1.length/\∀q∈r,q∈x.1):=by
 refine EV (R:=λr:KX E1=>r.length=x.1.length/\∀q∈r,q∈x.1) (λy:(KX E1)×Int×HX×Int=>(∀p,Z1 (y.2.2.1 p) λ_=>True)/\0<=y.2.1/\y.2.1<=y.2.2.2/\y.2.2.2<y.1.length/\y.1.length<=1048576/\y.1.length=x.1.length/\∀q∈y.1,q∈x.1)
  (λy=>y.2.2.2.toNat) ?_ _ _ ⟨h.1,h.2.1,h.2.2.1,h.2.2.2.1,h.2.2.2.2,rfl,λq a=>a⟩ (by exact zb)
 rintro next ⟨d,b,e,j⟩ h m
 dsimp only at h m;obtain⟨h0,s,B,C,D,w,l⟩:=h;unfold A5O;dsimp only;by_cases z:b<j
 .have A:i64.wrap (j-1)=j-1:=EJ oa oa;simp only[A,A6 z,A4,BU];refine DP.2 (EY.2 ⟨⟨oa,oa⟩,?_⟩);refine DP.2 (EY.2 ⟨⟨oa,oa⟩,?_⟩);refine DP.2 ((h0 _).mono λE _=>?_);refine DR.2 ⟨λ_=>?_,λ_=>DQ.2 ⟨w,l⟩⟩;refine DP.2 (EY.2 ⟨⟨oa,oa⟩,?_⟩);refine DP.2 (EY.2 ⟨⟨oa,oa⟩,?_⟩);refine DP.2 (EY.2 ⟨⟨oa,oa⟩,?_⟩);refine DP.2 (EY.2 ⟨⟨oa,oc⟩,?_⟩);refine m _ ⟨h0,s,oc,oc,oc,oc,λq a=>?_⟩ oc;rcases ED a with a|rfl
  .rcases ED a with a|rfl
   .exact l q a
   .exact l _ (EC oa)
  grind[EC]
 simp_all[A9,A8,CU,DP,DQ]
theorem AMC(x:(KX E1)×Int×Int×HX×Int)(h:(∀p,Z1 (x.2.2.2.1 p) λ_=>True)/\0<=x.2.1/\x.2.1<=x.2.2.2.2/\x.2.2.1<=x.1.length/\x.2.2.2.2<=1048577/\x.1.length<=1048576):
 Z1 (xT x) (λr:KX E1=>r.length=x.1.length/\∀q∈r,q∈x.1):=by
 refine EV (R:=λr:KX E1=>r.length=x.1.length/\∀q∈r,q∈x.1) (λy:(KX E1)×Int×Int×HX×Int=>(∀p,Z1 (y.2.2.2.1 p) λ_=>True)/\0<=y.2.1/\y.2.1<=y.2.2.2.2/\y.2.2.1<=y.1.length/\y.2.2.2.2<=1048577/\y.1.length<=1048576/\y.1.length=x.1.length/\∀q∈y.1,q∈x.1)
  (λy=>(y.2.2.1-y.2.2.2.2).toNat) ?_ _ _ ⟨h.1,h.2.1,h.2.2.1,h.2.2.2.1,h.2.2.2.2.1,h.2.2.2.2.2,rfl,λq C=>C⟩ (by exact zb)
 rintro next ⟨d,j,l,b,a⟩ h B
 dsimp only at h B;obtain⟨h0,m,s,E,G,w,z,A⟩:=h;unfold A5P;dsimp only;refine DR.2 ⟨λe=>?_,λ_=>DQ.2 ⟨z,A⟩⟩;have e:=AC e;have D:i64.wrap (a+1)=a+1:=EJ oa oa;rw[D];refine DP.2 ((AMB _ ⟨h0,m,s,oc,w⟩).mono λr H=>?_);grind
instance A7q:t6 aS (λx=>(∀p,Z1 (x.2.2.2 p) λ_=>True)/\0<=x.2.1/\x.2.1<=1048576/\x.2.2.1<=x.1.length/\x.1.length<=1048576) (λx r=>r.length=x.1.length/\∀q∈r,q∈x.1):=⟨λx h=>by grind[aS,EJ,DP,AMC,DQ]⟩
def AMD(x:(KX E1)×Int×Int×Int×Int)(h:0<=x.2.1/\0<=x.2.2.1/\x.2.1+x.2.2.2.1<=x.1.length/\x.2.2.1+x.2.2.2.1<=x.1.length/\0<=x.2.2.2.2/\x.1.length<=1048576):
 Z1 (xU x) (λr:KX E1=>r.length=x.1.length/\∀q∈r,q∈x.1):=by
 refine EV (R:=λr:KX E1=>r.length=x.1.length/\∀q∈r,q∈x.1) (λy:(KX E1)×Int×Int×Int×Int=>0<=y.2.1/\0<=y.2.2.1/\y.2.1+y.2.2.2.1<=y.1.length/\y.2.2.1+y.2.2.2.1<=y.1.length/\0<=y.2.2.2.2/\y.1.length<=1048576/\y.1.length=x.1.length/\∀q∈y.1,q∈x.1)
  (λy=>(y.2.2.2.1-y.2.2.2.2).toNat) ?_ _ _ ⟨h.1,h.2.1,h.2.2.1,h.2.2.2.1,h.2.2.2.2.1,h.2.2.2.2.2,rfl,λq A=>A⟩ (by exact zb)
 rintro next ⟨e,b,d,B,a⟩ h z
 dsimp only at h z;obtain⟨C,D,E,G,H,I,s,w⟩:=h;unfold A5Q;dsimp only;refine DR.2 ⟨λp=>?_,λ_=>DQ.2 ⟨s,w⟩⟩;have p:=AC p;have j:i64.wrap (b+a)=b+a:=EJ oa oa;have l:i64.wrap (d+a)=d+a:=EJ oa oa;have m:i64.wrap (a+1)=a+1:=EJ oa oa;rw[j,l,m];refine DP.2 (EY.2 ⟨⟨oa,oa⟩,?_⟩);refine DP.2 (EY.2 ⟨⟨oa,oa⟩,?_⟩);refine DP.2 (EY.2 ⟨⟨oa,oa⟩,?_⟩);refine DP.2 (EY.2 ⟨⟨oa,oc⟩,?_⟩);grind
def A0k(x:(KX E1)×Int×Int×Int×HX)(h:0<=x.2.1/\0<=x.2.2.1/\x.2.1+x.2.2.2.1<=x.1.length/\x.2.2.1+x.2.2.2.1<=x.1.length/\x.1.length<=1048576):
 Z1 (WP x) (λr:KX E1=>r.length=x.1.length/\∀q∈r,q∈x.1):=by
 obtain⟨d,b,e,y,a⟩:=x;obtain⟨j,l,m,p,s⟩:=h;unfold WP;dsimp only;exact DP.2 ((AMD _ ⟨j,l,m,p,AV _,s⟩).mono λr w=>DQ.2 w)
def AME(x:(KX E1)×Int×HX×Int×Int)(h:0<x.2.2.2.1/\0<x.2.2.2.2/\x.2.2.2.1<=x.2.1/\x.2.1+x.2.2.2.2<=x.1.length/\x.1.length<=1048576):
 Z1 (xV x) (λr:(KX E1)×Int=>r.1.length=x.1.length/\(∀q∈r.1,q∈x.1)/\0<r.2/\r.2<=x.2.1/\x.2.1+r.2<=x.1.length):=by
 refine EV (R:=λr:(KX E1)×Int=>r.1.length=x.1.length/\(∀q∈r.1,q∈x.1)/\0<r.2/\r.2<=x.2.1/\x.2.1+r.2<=x.1.length) (λy:(KX E1)×Int×HX×Int×Int=>0<y.2.2.2.1/\0<y.2.2.2.2/\y.2.2.2.1<=y.2.1/\y.2.1+y.2.2.2.2<=y.1.length/\y.1.length<=1048576/\y.1.length=x.1.length/\(∀q∈y.1,q∈x.1)/\y.2.1=x.2.1)
  (λy=>(y.2.2.2.1+y.2.2.2.2).toNat) ?_ _ _ ⟨h.1,h.2.1,h.2.2.1,h.2.2.2.1,h.2.2.2.2,rfl,(λq G=>G),rfl⟩ (by exact zb)
 rintro next ⟨d,m,e,a,j⟩ h E
 dsimp only at h E;obtain⟨B,I,J,K,A,C,D,L⟩:=h;unfold A5R;dsimp only;refine DR.2 ⟨λb=>?_,λb=>DQ.2 ⟨C,D,B,oa,?_⟩⟩
 .have b:a≠j:=by rw[DX]at b;simpa using b
  have l:i64.wrap (m-a)=m-a:=EJ oa oa;have p:i64.wrap (m+j)=m+j:=EJ oa oa;have s:i64.wrap (m+j-a)=m+j-a:=EJ oa oa;have w:i64.wrap (a-j)=a-j:=EJ oa oa;have z:i64.wrap (j-a)=j-a:=EJ oa oa;rw[l,p,s,w,z];refine DR.2 ⟨λhd=>?_,λhd=>?_⟩
  .have hd:=AC hd;refine DP.2 ((A0k _ ⟨oc,oc,oc,oa,A⟩).mono λr H=>?_);grind
  .have hd:=AI hd;refine DP.2 ((A0k _ ⟨oc,oc,oc,oc,A⟩).mono λr H=>?_);grind
 grind[DX]
theorem AMF(x:(KX E1)×Int×Int×Int×HX)(h:0<=x.2.1/\x.2.1<x.2.2.1/\x.2.2.1<x.2.2.2.1/\x.2.2.2.1<=x.1.length/\x.1.length<=1048576):
 Z1 (kF x) (λr:KX E1=>r.length=x.1.length/\∀q∈r,q∈x.1):=by
 obtain⟨d,a,m,b,e⟩:=x;dsimp only at h;obtain⟨A,B,C,D,l⟩:=h;unfold kF;dsimp only;rw[EJ (n:=m-a) oa oa,EJ (n:=b-m) oa oa];refine DP.2 ((AME _ ⟨oc,oc,oc,oc,l⟩).mono λr j=>?_);dsimp only at j;obtain⟨p,s,w,y,z⟩:=j;rw[EJ (n:=m-r.2) oa oa];refine DP.2 ((A0k _ ⟨oc,oc,oc,oc,oc⟩).mono λE j=>DQ.2 ?_);grind
def AMG(slf:(KX E1)×Int×Int×Int×HX->X1 (KX E1))(x:(KX E1)×Int×HX×Int×Int)(h:(∀p,Z1 (x.2.2.1 p) λ_=>True)/\0<=x.2.1/\x.2.1<x.1.length/\0<=x.2.2.2.1/\x.2.2.2.1<=x.2.2.2.2/\x.2.2.2.2<=x.1.length/\x.1.length<=1048576):
 Z1 (xW slf x) (λr:(KX E1)×Int=>r.1=x.1/\x.2.2.2.1<=r.2/\r.2<=x.2.2.2.2):=by
 refine EV (R:=λr:(KX E1)×Int=>r.1=x.1/\x.2.2.2.1<=r.2/\r.2<=x.2.2.2.2) (λy:(KX E1)×Int×HX×Int×Int=>(∀p,Z1 (y.2.2.1 p) λ_=>True)/\0<=y.2.1/\y.2.1<y.1.length/\0<=y.2.2.2.1/\y.2.2.2.1<=y.2.2.2.2/\y.2.2.2.2<=y.1.length/\y.1.length<=1048576/\y.1=x.1/\x.2.2.2.1<=y.2.2.2.1/\y.2.2.2.2<=x.2.2.2.2)
  (λy=>(y.2.2.2.2-y.2.2.2.1).toNat) ?_ _ _ ⟨h.1,h.2.1,h.2.2.1,h.2.2.2.1,h.2.2.2.2.1,h.2.2.2.2.2.1,h.2.2.2.2.2.2,rfl,AV _,AV _⟩ (by exact zb)
 rintro next ⟨d,s,b,a,j⟩ h A
 dsimp only at h A;obtain⟨h0,B,C,D,E,G,H,w,z,I⟩:=h;unfold A5S;dsimp only;refine DR.2 ⟨λe=>?_,λe=>DQ.2 ⟨w,z,oa⟩⟩;have e:=AC e;refine DP.2 (SU oa oa oa oa ?_);have l:i64.wrap ((a+j) / 2)=(a+j) / 2:=EJ oa oa;have m:i64.wrap ((a+j) / 2+1)=(a+j) / 2+1:=EJ oa oa;rw[l,m];refine DP.2 (EY.2 ⟨⟨oa,oa⟩,?_⟩);refine DP.2 (EY.2 ⟨⟨oa,oa⟩,?_⟩);refine DP.2 ((h0 _).mono λJ _=>?_);grind
theorem AMH(slf:(KX E1)×Int×Int×Int×HX->X1 (KX E1))(x:(KX E1)×Int×Int)(h:0<=x.2.1/\x.2.1<=x.1.length/\0<=x.2.2/\x.1.length<=1048576):
 Z1 (xX slf x) (λr:KX E1=>r.length=x.1.length/\∀q∈r,q∈x.1):=by
 refine EV (R:=λr:KX E1=>r.length=x.1.length/\∀q∈r,q∈x.1) (λy:(KX E1)×Int×Int=>0<=y.2.1/\y.2.1<=y.1.length/\0<=y.2.2/\y.1.length<=1048576/\y.1.length=x.1.length/\∀q∈y.1,q∈x.1)
  (λy=>(y.2.1-y.2.2).toNat) ?_ _ _ ⟨h.1,h.2.1,h.2.2.1,h.2.2.2,rfl,λq p=>p⟩ (by exact zb)
 rintro next ⟨d,b,a⟩ h m
 dsimp only at h m;obtain⟨w,z,A,B,j,l⟩:=h;unfold A5T;dsimp only;rw[EJ (n:=b-1) oa oa];refine DR.2 ⟨λe=>?_,λe=>DQ.2 ⟨j,l⟩⟩;have e:=AC e;have s:i64.wrap (a+1)=a+1:=EJ oa oa;rw[s];refine DP.2 (EY.2 ⟨⟨oa,oa⟩,?_⟩);refine DP.2 (EY.2 ⟨⟨oa,oa⟩,?_⟩);refine DP.2 (EY.2 ⟨⟨oa,oa⟩,?_⟩);refine DP.2 (EY.2 ⟨⟨oa,oc⟩,?_⟩);grind
theorem AMI(slf:(KX E1)×Int×Int×Int×HX->X1 (KX E1))(x:(KX E1)×Int×Int)(h:0<=x.2.1/\x.2.2<x.1.length/\x.1.length<=1048576):
 Z1 (xZ slf x) (λr:KX E1=>r.length=x.1.length/\∀q∈r,q∈x.1):=by
 refine EV (R:=λr:KX E1=>r.length=x.1.length/\∀q∈r,q∈x.1) (λy:(KX E1)×Int×Int=>0<=y.2.1/\y.2.2<y.1.length/\y.1.length<=1048576/\y.1.length=x.1.length/\∀q∈y.1,q∈x.1)
  (λy=>(y.2.2-y.2.1).toNat) ?_ _ _ ⟨h.1,h.2.1,h.2.2,rfl,λq b=>b⟩ (by exact zb)
 rintro next ⟨d,m,a⟩ h l
 dsimp only at h l;obtain⟨p,z,A,s,e⟩:=h;unfold A5V;dsimp only;refine DR.2 ⟨λj=>?_,λj=>DQ.2 ⟨s,e⟩⟩;have j:=AC j;have w:i64.wrap (a-1)=a-1:=EJ oa oa;rw[w];refine DP.2 (EY.2 ⟨⟨oa,oa⟩,?_⟩);refine DP.2 (EY.2 ⟨⟨oa,oa⟩,?_⟩);refine DP.2 (EY.2 ⟨⟨oa,oa⟩,?_⟩);refine DP.2 (EY.2 ⟨⟨oa,oc⟩,?_⟩);refine l _ ⟨p,oc,oc,oc,λq b=>?_⟩ oc;rcases ED b with b|rfl
 .rcases ED b with b|rfl
  .exact e q b
  .exact e _ (EC oa)
 grind[EC]
def AMJ(slf:(KX E1)×Int×Int×Int×HX->X1 (KX E1))(x:(KX E1)×Int×HX×Int×Int)(h:(∀p,Z1 (x.2.2.1 p) λ_=>True)/\0<=x.2.1/\x.2.1<x.1.length/\0<=x.2.2.2.1/\x.2.2.2.1<=x.2.2.2.2/\x.2.2.2.2<=x.1.length/\x.1.length<=1048576):
 Z1 (xY slf x) (λr:(KX E1)×Int=>r.1=x.1/\x.2.2.2.1<=r.2/\r.2<=x.2.2.2.2):=by
 refine EV (R:=λr:(KX E1)×Int=>r.1=x.1/\x.2.2.2.1<=r.2/\r.2<=x.2.2.2.2) (λy:(KX E1)×Int×HX×Int×Int=>(∀p,Z1 (y.2.2.1 p) λ_=>True)/\0<=y.2.1/\y.2.1<y.1.length/\0<=y.2.2.2.1/\y.2.2.2.1<=y.2.2.2.2/\y.2.2.2.2<=y.1.length/\y.1.length<=1048576/\y.1=x.1/\x.2.2.2.1<=y.2.2.2.1/\y.2.2.2.2<=x.2.2.2.2)
  (λy=>(y.2.2.2.2-y.2.2.2.1).toNat) ?_ _ _ ⟨h.1,h.2.1,h.2.2.1,h.2.2.2.1,h.2.2.2.2.1,h.2.2.2.2.2.1,h.2.2.2.2.2.2,rfl,AV _,AV _⟩ (by exact zb)
 rintro next ⟨d,A,b,a,j⟩ h z
 dsimp only at h z;obtain⟨h0,C,D,E,G,H,I,s,w,J⟩:=h;unfold A5U;dsimp only;refine DR.2 ⟨λe=>?_,λe=>DQ.2 ⟨s,w,oa⟩⟩;have e:=AC e;refine DP.2 (SU oa oa oa oa ?_);have l:i64.wrap ((a+j) / 2)=(a+j) / 2:=EJ oa oa;have m:i64.wrap ((a+j) / 2+1)=(a+j) / 2+1:=EJ oa oa;rw[l,m];refine DP.2 (EY.2 ⟨⟨oa,oa⟩,?_⟩);refine DP.2 (EY.2 ⟨⟨oa,oa⟩,?_⟩);refine DP.2 ((h0 _).mono λB _=>?_);grind
def AMK(slf:(KX E1)×Int×Int×Int×HX->X1 (KX E1))(x:(KX E1)×HX×Int×Int×Int)(h:(∀p,Z1 (x.2.1 p) λ_=>True)/\0<=x.2.2.1/\x.2.2.1<=x.2.2.2.1/\x.2.2.2.1<=x.1.length/\x.2.2.2.1-1<=x.2.2.2.2/\x.2.2.2.2-x.2.2.1<x.1.length/\x.1.length<=1048576):
 Z1 (x_ slf x) (λr:(KX E1)×Int=>r.1=x.1/\x.2.2.1<=r.2/\r.2<=x.2.2.2.1):=by
 refine EV (R:=λr:(KX E1)×Int=>r.1=x.1/\x.2.2.1<=r.2/\r.2<=x.2.2.2.1) (λy:(KX E1)×HX×Int×Int×Int=>(∀p,Z1 (y.2.1 p) λ_=>True)/\0<=y.2.2.1/\y.2.2.1<=y.2.2.2.1/\y.2.2.2.1<=y.1.length/\y.2.2.2.1-1<=y.2.2.2.2/\y.2.2.2.2-y.2.2.1<y.1.length/\y.1.length<=1048576/\y.1=x.1/\x.2.2.1<=y.2.2.1/\y.2.2.2.1<=x.2.2.2.1)
  (λy=>(y.2.2.2.1-y.2.2.1).toNat) ?_ _ _ ⟨h.1,h.2.1,h.2.2.1,h.2.2.2.1,h.2.2.2.2.1,h.2.2.2.2.2.1,h.2.2.2.2.2.2,rfl,AV _,AV _⟩ (by exact zb)
 rintro next ⟨d,e,s,a,b⟩ h B
 dsimp only at h B;obtain⟨h0,C,D,E,G,H,I,z,A,J⟩:=h;unfold A5W;dsimp only;refine DR.2 ⟨λj=>?_,λj=>DQ.2 ⟨z,A,oa⟩⟩;have j:=AC j;refine DP.2 (SU oa oa oa oa ?_);have l:i64.wrap ((s+a) / 2)=(s+a) / 2:=EJ oa oa;have m:i64.wrap ((s+a) / 2+1)=(s+a) / 2+1:=EJ oa oa;have w:i64.wrap (b-(s+a) / 2)=b-(s+a) / 2:=EJ oa oa;rw[l,m,w];refine DP.2 (EY.2 ⟨⟨oa,oa⟩,?_⟩);refine DP.2 (EY.2 ⟨⟨oa,oa⟩,?_⟩);refine DP.2 ((h0 _).mono λK _=>?_);grind
def AML(slf:(KX E1)×Int×Int×Int×HX->X1 (KX E1))(x:(KX E1)×Int×HX×Int×Int×X5)(h:x.1.length<=1048576/\(x.2.2.2.2.2=true->0<=x.2.2.2.1/\x.2.2.2.1<x.2.1/\x.2.1<x.2.2.2.2.1/\x.2.2.2.2.1<=x.1.length)):
 Z1 (kH slf x) (λr:KX E1=>r.length=x.1.length/\∀q∈r,q∈x.1):=by
 obtain⟨d,m,a,s,e,b⟩:=x;dsimp only at h;unfold kH;dsimp only;refine DR.2 ⟨λl=>?_,λ_=>DQ.2 ⟨rfl,λq j=>j⟩⟩;grind[DP,AMF,DQ]
def AMM(slf:(KX E1)×Int×Int×Int×HX->X1 (KX E1))(K:Int)(E:∀y:(KX E1)×Int×Int×Int×HX,((∀p,Z1 (y.2.2.2.2 p) λ_=>True)/\0<=y.2.1/\y.2.1<y.2.2.1/\y.2.2.1<y.2.2.2.1/\y.2.2.2.1<=y.1.length/\y.1.length<=1048576)->y.2.2.2.1-y.2.1<=K->Z1 (slf y) (λr:KX E1=>r.length=y.1.length/\∀q∈r,q∈y.1))(x:(KX E1)×Int×Int×Int×HX)(h:(∀p,Z1 (x.2.2.2.2 p) λ_=>True)/\0<=x.2.1/\x.2.1<x.2.2.1/\x.2.2.1<x.2.2.2.1/\x.2.2.2.1<=x.1.length/\x.1.length<=1048576)(M:x.2.2.2.1-x.2.1<=2*K):
 Z1 (yA slf x) (λr:KX E1=>r.length=x.1.length/\∀q∈r,q∈x.1):=by
 obtain⟨d,b,m,e,s⟩:=x;dsimp only at h M;obtain⟨h0,w,h2,h3,L,z⟩:=h;unfold yA;dsimp only;rw[EJ (n:=m-b) oa oa,EJ (n:=e-m) oa oa];refine DR.2 ⟨λ_=>?_,λ_=>DR.2 ⟨λ_=>?_,λ_=>?_⟩⟩
 .refine DP.2 ((AMG slf _ ⟨h0,w,oc,oc,oc,L,z⟩).mono λV a=>?_);grind[DP,AMH,DQ]
 .refine DP.2 ((AMJ slf _ ⟨h0,oc,oc,w,oc,oc,z⟩).mono λV a=>?_);grind[DP,AMI,DQ]
 .refine DP.2 (SU oa oa oa oa ?_);generalize D:(b+e) / 2=mid;rw[EJ (n:=mid) oa oa,EJ (n:=mid+m) oa oa,EJ (n:=mid+m-1) oa oa];have N:Z1 (kG slf (b,m,e,mid,mid+m,decide (mid<m))) λr:Int×Int=>0<=r.1/\b<=r.1/\mid+m-e<=r.1/\r.1<=r.2/\r.2<=m/\r.2<=mid+m/\mid+m-1-r.1<d.length:=by
   unfold kG;dsimp only;refine DR.2 ⟨λl=>DQ.2 ?_,λl=>DQ.2 ?_⟩
   .have l:=AC l;grind[EJ]
   .grind
  refine DP.2 (N.mono λQ a=>?_);obtain⟨f1,Y,Z,H,f5,f6,I⟩:=a;refine DP.2 ((AMK slf _ ⟨h0,f1,H,oc,oc,I,z⟩).mono λj a=>?_);dsimp only at a;obtain⟨G,W,X⟩:=a;rw[EJ (n:=mid+m-j.2) oa oa];refine DP.2 ((AML slf _ ⟨oc,λl=>?_⟩).mono λB a=>?_)
  .grind
  dsimp only at a;rw[G]at a;obtain⟨J,C⟩:=a;have A:Z1 (kI slf (B,b,s,mid,j.2,decide (b<j.2)&&decide (j.2<mid))) λr:KX E1=>r.length=d.length/\∀q∈r,q∈d:=by unfold kI;dsimp only;refine DR.2 ⟨λl=>?_,λ_=>DQ.2 ⟨J,C⟩⟩;rw[A7,B3,B3]at l;refine DP.2 ((E _ ⟨h0,w,oc,oc,oc,oc⟩ oc).mono λR a=>DQ.2 ?_);dsimp only at a;exact⟨oa,λq A=>C q (a.2 q A)⟩
  refine DP.2 (A.mono λT a=>?_);obtain⟨k1,O⟩:=a;refine DR.2 ⟨λl=>?_,λ_=>DQ.2 ⟨k1,O⟩⟩;rw[A7,B3,B3]at l;refine DP.2 ((E _ ⟨h0,oc,oc,oc,oc,oc⟩ oc).mono λU a=>DQ.2 ?_);grind
theorem AMN:∀(n:Nat) (x:(KX E1)×Int×Int×Int×HX) (h:(∀p,Z1 (x.2.2.2.2 p) λ_=>True)/\0<=x.2.1/\x.2.1<x.2.2.1/\x.2.2.1<x.2.2.2.1/\x.2.2.2.1<=x.1.length/\x.1.length<=1048576) (a:x.2.2.2.1-x.2.1<=2 ^ n),Z1 (MO n x) (λr:KX E1=>r.length=x.1.length/\∀q∈r,q∈x.1):=by
 intro n;induction n with
 |zero=>omega
 |succ n d=>intro x h a;refine AMM (MO n) (2 ^ n) (λy b hk=>d y b hk) x h ?_;omega
instance A7r:t6 aT (λx=>(∀p,Z1 (x.2.2.2.2 p) λ_=>True)/\0<=x.2.1/\x.2.1<x.2.2.1/\x.2.2.1<x.2.2.2.1/\x.2.2.2.1<=x.1.length/\x.1.length<=1048576) (λx r=>r.length=x.1.length/\∀q∈r,q∈x.1):=⟨λx h=>by unfold aT;grind[AMN]⟩
theorem A7s:∀(x y:DO),Op.bytesLess x y=decide (x<y):=by
 intro x;induction x with
 |nil=>intro y;cases y<;>simp[Op.bytesLess]
 |cons a x j=>
  intro y;cases y with
  |nil=>simp[Op.bytesLess]
  |cons b y=>rw[Op.bytesLess,j y];simp only[List.cons_lt_cons_iff];by_cases h:a<b<;>by_cases d:a=b<;>by_cases e:x<y<;>simp[h,d,e]
theorem MR(a:DO):¬a<a:=List.lt_irrefl a
def bY{a b c:DO}(h:a<b)(d:b<c):a<c:=List.lt_trans h d
theorem pG(a b:DO):a<b\/a=b\/b<a:=by
 by_cases h:a<b
 .exact Or.inl h
 .by_cases d:b<a
  .exact Or.inr (Or.inr d)
  .exact Or.inr (Or.inl (List.le_antisymm (List.not_lt.1 d) (List.not_lt.1 h)))
def A7t{a b c:DO}(j:¬a<b)(e:¬b<c):¬a<c:=by
 intro h;rcases pG a b with d|d|d
 .exact j d
 .subst d;exact e h
 .exact e (bY d h)
theorem pH{a b:DO}(h:a<b):¬b<a:=λd=>MR a (bY h d)
def JM(a b:DO):Int:=if a<b then -1 else if a=b then 0 else 1
theorem bZ(a b:DO):M4 (a,b)=some (JM a b):=by
 unfold M4 WH JM;have e:∀s:DO,DU s s=true:=λs=>by rw[E3];simp
 simp only[e,B7,A0,A8,A7s,E3];by_cases h:a=b
 .subst h;simp[MR]
 .by_cases d:a<b<;>simp[d,h]
theorem XH(a b:DO):JM a b<0<->a<b:=by
 unfold JM;by_cases h:a=b
 .subst h;simp[MR]
 .by_cases d:a<b<;>simp[d,h]
def OF(a b:Int):Int:=if a<b then -1 else if b<a then 1 else 0
theorem pI(a b:Int):QK (a,b)=some (OF a b):=by
 unfold QK gT OF;have e:∀s:Int,DT s s=true:=λs=>by rw[DX];simp
 simp only[e,B7,A0,A8];by_cases h:a<b<;>by_cases d:b<a<;>simp[h,d]
section
variable{T:Type}
theorem A0l(xs:KX T)(F:T×T->X1 Int)(h:TY xs F):Z1 (O9 xs F) (λr=>r.Perm xs/\r.Pairwise (λa b=>∀c,F (b,a)=some c->0<=c)):=by
 unfold O9;split
 .rename_i h0;unfold I_;rw[A6 h];refine DQ.2 ?_
  letI:Inhabited (Fin xs.length):=⟨⟨0,h0⟩⟩
  have E:Sort.SWO (IU xs F):=⟨h.2.1,h.2.2.1,h.2.2.2⟩;have y:=Sort.pdq_sorts (IU xs F) E (Array.ofFn id) 0 xs.length (Lib.bitLen xs.length) true true (AT _) oh (Or.inl rfl);have e:LD xs F h0=Sort.pdq (IU xs F) (Array.ofFn id) 0 xs.length (Lib.bitLen xs.length) true true:=A4H xs F h0;rw[e];generalize Sort.pdq (IU xs F) (Array.ofFn id) 0 xs.length (Lib.bitLen xs.length) true true=d at y;obtain⟨⟨s,_,w⟩,C⟩:=y;have l:d.size=xs.length:=by rw[s];simp
  have z:d.extract 0 xs.length=d:=by have:=Array.extract_size (xs:=d);rwa[l]at this
  have A:(Array.ofFn (id:Fin xs.length->Fin xs.length)).extract 0 xs.length=Array.ofFn id:=by have:=Array.extract_size (xs:=Array.ofFn (id:Fin xs.length->Fin xs.length));rwa[Array.size_ofFn]at this
  rw[z,A]at w;constructor
  .have D:=w.map xs.get;have B:(Array.ofFn (id:Fin xs.length->Fin xs.length)).toList.map xs.get=xs:=by
    rw[Array.toList_ofFn,List.map_ofFn];apply List.ext_getElem
    .simp
    .intro i s G;simp
   rwa[B]at D
  .rw[List.pairwise_map,BS];intro i j hi H p c x;have I:d.toList.length=xs.length:=by rw[BD];exact l
   have m:=C i j (AT _) p oa;rw[getElem!_pos d i oa,getElem!_pos d j oa]at m;unfold IU O8 at m;rw[Array.getElem_toList,Array.getElem_toList]at x;rw[x]at m;simpa using m
 .rename_i h0;have:xs=[]:=List.length_eq_zero_iff.1 oa;subst this;exact DQ.2 ⟨List.Perm.refl _,List.Pairwise.nil⟩
def AMO(xs:KX T)(F:T×T->X1 Int)(key:T->DO)(h:∀a b,F (a,b)=some (JM (key a) (key b))):TY xs F:=by
 have e:∀i j,IU xs F i j=decide (key (xs.get i)<key (xs.get j)):=by intro i j;unfold IU O8;rw[h];simp[XH]
 refine⟨λi j=>by rw[h];rfl,λi=>?_,λi j k=>?_,λi j k=>?_⟩
 .rw[e];simp[MR]
 .rw[e,e,e];simp only[B3];exact bY
 .rw[e,e,e];simp only[CZ];exact A7t
def A7u(xs:KX T)(F:T×T->X1 Int)(key:T->DO)(e:∀a b,F (a,b)=some (JM (key a) (key b))):
 Z1 (O9 xs F) (λr=>r.Perm xs/\r.Pairwise (λa b=>¬key b<key a)):=
 (A0l xs F (AMO xs F key e)).mono λr j=>⟨j.1,j.2.imp λ{a b} h d=>by have:=h _ (e b a);have:=(XH (key b) (key a)).2 d;omega⟩
end
abbrev Edge:=Int×DO×X5×DO
abbrev JD:=Edge×Edge
def eo(a b:Edge):Int:=if a.1≠b.1\/a.1≠0 then OF a.1 b.1 else if JM a.2.1 b.2.1≠0\/a.2.2.1=b.2.2.1 then JM a.2.1 b.2.1 else if a.2.2.1 then 1 else -1
theorem A7v(a b:Edge):NJ (a,b)=some (eo a b):=by
 unfold NJ eo;dsimp only;rw[pI,bZ];simp only[A0,DX];by_cases h:a.1=b.1
 .by_cases d:a.1=0
  .have l:IE a.2.2.1 b.2.2.1=decide (a.2.2.1=b.2.2.1):=by cases a.2.2.1<;>cases b.2.2.1<;>rfl
   rw[l];by_cases e:JM a.2.1 b.2.1=0<;>by_cases j:a.2.2.1=b.2.2.1<;>simp[<-h,d,e,j]<;>(cases a.2.2.1<;>simp)
  .simp[<-h,d]
 .simp[h]
def LH(a b:Edge):Prop:=a.1<b.1\/(a.1=b.1/\a.1=0/\(a.2.1<b.2.1\/(a.2.1=b.2.1/\a.2.2.1=false/\b.2.2.1=true)))
def A7w(a b:Edge):eo a b<0<->LH a b:=by
 unfold eo LH OF;by_cases d:a.1=b.1
 .by_cases l:a.1=0
  .have j:b.1=0:=oa;have m:¬(a.1≠b.1\/a.1≠0):=oa;rw[if_neg m];rcases pG a.2.1 b.2.1 with h|h|h
   .have:JM a.2.1 b.2.1= -1:=by unfold JM;rw[if_pos h]
    rw[this];simp[d,j,h]
   .have:JM a.2.1 b.2.1=0:=by unfold JM;rw[if_neg (by rw[h];exact MR _),if_pos h]
    rw[this,h];cases s:a.2.2.1<;>cases p:b.2.2.1<;>simp[d,j,MR]
   .have e:¬a.2.1=b.2.1:=λe=>by rw[e]at h;exact MR _ h
    have:JM a.2.1 b.2.1=1:=by unfold JM;rw[if_neg (pH h),if_neg e]
    rw[this];simp[d,j,pH h,e]
  .have j:¬b.1=0:=oa;simp[d,j]
 .simp only[ne_eq,d,not_false_eq_true,true_or,if_true,DE,or_false];by_cases l:a.1<b.1
  .simp[l]
  .by_cases h:b.1<a.1
   .simp[l,h]
   .omega
instance(a b:Edge):Decidable (LH a b):=by unfold LH;infer_instance
def AMP(a:Edge):¬LH a a:=by
 rintro(h|⟨_,_,h|⟨_,d,b⟩⟩)
 .omega
 .exact MR _ h
 .rw[d]at b;cases b
def AMQ{a b c:Edge}(j:LH a b)(h:LH b c):LH a c:=by
 unfold LH at *;rcases j with j|⟨y,l,p⟩
 .rcases h with h|⟨s,w,d⟩<;>exact Or.inl oa
 .rcases h with h|⟨s,w,d⟩
  .exact Or.inl oa
  .refine Or.inr ⟨oa,l,?_⟩;rcases p with p|⟨p,z,m⟩
   .rcases d with d|⟨d,e,x⟩
    .exact Or.inl (bY p d)
    .exact Or.inl (d▸p)
   .rcases d with d|⟨d,e,x⟩
    .exact Or.inl (p▸d)
    .rw[m]at e;cases e
def AMR{a b c:Edge}(j:¬LH a b)(l:¬LH b c):¬LH a c:=by
 intro h;unfold LH at *;simp only[not_or,not_and]at j l;obtain⟨E,m⟩:=j;obtain⟨G,w⟩:=l;rcases h with h|⟨I,B,p⟩
 .omega
 .have y:a.1=b.1:=oa;have z:b.1=c.1:=oa;have⟨d,s⟩:=m y B;have⟨e,x⟩:=w z oa;rcases p with p|⟨p,C,D⟩
  .exact A7t d e p
  .rcases pG a.2.1 b.2.1 with g|g|g
   .exact d g
   .have A:b.2.1=c.2.1:=g▸p;have:=s g C;have:=x A (by cases H:b.2.2.1<;>simp_all);exact this D
   .exact e (p▸g)
def AMS(xs:KX JD):Z1 (vG (xs,λx=>(QR x).bind λr=>some r)) (λr=>r.Perm xs/\r.Pairwise λa b=>¬LH b.1 a.1):=by
 have d:∀a b:JD,(QR (a,b)).bind (λr=>some r)=some (eo a.1 b.1):=by intro a b;unfold QR;dsimp only;rw[A7v];rfl
 have e:∀i j,IU xs (λx=>(QR x).bind λr=>some r) i j=decide (LH (xs.get i).1 (xs.get j).1):=by intro i j;unfold IU O8;show decide ((((QR (xs.get i,xs.get j)).bind λr=>some r).getD 0)<0)=_;rw[d];simp only[C5];exact decide_eq_decide.2 (A7w _ _)
 have p:TY xs (λx=>(QR x).bind λr=>some r):=by
  refine⟨λi j=>by show((QR (xs.get i,xs.get j)).bind λr=>some r).isSome=true;rw[d];rfl,λi=>?_,λi j k=>?_,λi j k=>?_⟩
  .rw[e];simp[AMP]
  .rw[e,e,e];simp only[B3];exact AMQ
  .rw[e,e,e];simp only[CZ];exact AMR
 refine(A0l xs _ p).mono λr m=>⟨m.1,m.2.imp λ{a b} h l=>?_⟩;have:=h _ (d b a);have:=(A7w b.1 a.1).2 l;omega
abbrev Af:=DO×Int×JS×(KX DO)×(KX DO)
abbrev FG:=DO×(KX DO)×DO×Int×X5×DO×(KX Af)
abbrev Bnd:=X5×X5×DO
abbrev b_:=Bnd×Bnd
def P9(a:Af):Prop:=a.1.length<=1048576/\a.2.2.1.length<=1048576/\(∀v∈a.2.2.1,v.2.length<=1048576)/\a.2.2.2.1.length<=1048576/\(∀s∈a.2.2.2.1,s.length<=1048576)/\a.2.2.2.2.length<=1048576/\(∀s∈a.2.2.2.2,s.length<=1048576)
def AfK(a:Af):Prop:=a.2.2.1.length<=100/\(∀v∈a.2.2.1,1<=v.1/\v.1<=3)/\a.2.2.2.1.length<=500
def LI(a:FG):Prop:=a.1.length<=1048576/\a.2.1.length<=1048576/\(∀s∈a.2.1,s.length<=1048576)/\a.2.2.1.length<=1048576/\a.2.2.2.2.2.1.length<=1048576/\a.2.2.2.2.2.2.length<=1048576/\∀x∈a.2.2.2.2.2.2,P9 x
abbrev H1(s:b_):Prop:=s.1.2.2.length<=100/\s.2.2.2.length<=100
abbrev H_(s:JD):Prop:=s.1.2.2.2.length<=100/\s.2.2.2.2.length<=100
def PK{α:Type}{l:KX α}{i:Nat}{x:α}(h:l[i]?=some x):x∈l:=AE h
instance AMT:t6 QK (λ_=>True) (λ_ _=>True):=⟨λx h=>⟨_,pI x.1 x.2,trivial⟩⟩
instance UQ:t6 NJ (λ_=>True) (λ_ _=>True):=⟨λx h=>⟨_,A7v x.1 x.2,trivial⟩⟩
def qN{p:Prop}(h:p:=by grind[E8,E7,EB,E3,DX,EA,E9,E6,EC,ED,EN,EM,EP,EO,EQ,ER,ES]):p:=h
def tp{p:Prop}(h:p:=by
 intros;try dsimp only at *
 repeat' first
  |(with_reducible first|refine DR.2 ⟨λ_=>?_,λ_=>?_⟩|refine DP.2 ?_|refine DQ.2 ?_|refine EL.2 ⟨?_,λ_ _=>?_⟩|refine EY.2 ⟨?_,?_⟩|refine HY.2 ⟨?_,?_⟩|refine FX.2 ⟨?_,?_⟩|refine FF.2 ⟨?_,?_⟩|refine t7 ?_ λ_ _=>?_|refine⟨λ_=>?_,?_⟩)
  |split
  |dsimp only
 all_goals grind[E8,E7,EB,E3,DX,EA,E9,E6,EC,ED,EN,EM,EP,EO,EQ,ER,ES]):p:=h
instance pJ:t6 U7 (λx=>x.length<=1048576) (λ_ r=>0<=r.1/\r.1<=999999999999999999):=⟨by unfold U7;exact tp⟩
instance:t6 iR (λ_=>True) (λ_ _=>True):=⟨by unfold iR;exact tp⟩
instance:t6 wX (λx=>tl x.2.2 x.2.1 x.1.length/\∀s∈x.1,s.length<=1000) (λ_ r=>∀y,r=.inr y->y.1=[]/\y.2=false):=ti (λ_ _=>True) (λy=>(y.2.1-y.2.2).toNat) (by unfold A50;exact tp)
instance:t6 aC (λx=>x.length<=1000) (λ_ r=>LS r.1):=⟨by unfold aC;exact tp⟩
instance:t6 wY (λx=>tl x.2.2 x.2.1 x.1.length/\∀s∈x.1,s.length<=1000) (λ_ r=>∀y,r=.inr y->y.1=[]/\y.2=false):=ti (λ_ _=>True) (λy=>(y.2.1-y.2.2).toNat) (by unfold A51;exact tp)
instance:t6 iS (λx=>x.length<=1000) (λ_ r=>LS r.1):=⟨by unfold iS;exact tp⟩
instance AMX:t6 iT (λx=>x.length<=1000) (λ_ r=>LS r.1):=⟨by unfold iT;exact tp⟩
instance:t6 iU (λx=>0<=x.2.1/\x.2.1<=x.1.length/\x.1.length<=1000) (λx r=>(∀y,r=.inl y->0<=y/\y<=x.1.length)/\∀y,r=.inr y->y.2=false):=⟨by unfold iU;exact tp⟩
instance AMZ:t6 wZ (λx=>0<=x.2.2.2/\x.2.2.2<=3/\0<=x.2.2.1/\x.2.2.1<=x.1.length/\x.1.length<=1000/\x.2.1.1.length=3/\(∀n∈x.2.1.1,0<=n/\n<=999999999999999999)) (λx r=>(∀y,r=.inl y->y.1.1.length=3/\(∀n∈y.1.1,0<=n/\n<=999999999999999999)/\0<=y.2/\y.2<=x.1.length)/\∀y,r=.inr y->y.2=false):=ti (λx y=>y.1=x.1) (λy=>(3-y.2.2.2).toNat) (by unfold A52;exact tp)
instance AM_:t6 iV (λx=>x.length<=1000) (λ_ r=>r.2=true->MQ r.1):=⟨λx h=>by
 unfold iV
 repeat' first
  |(with_reducible first|refine DP.2 ?_|refine DQ.2 ?_|refine HY.2 ⟨?_,?_⟩|refine(AMZ.1 _ ?_).mono λ_ _=>?_|refine(AMX.1 _ ?_).mono λ_ _=>?_)
  |split
  |dsimp only
 all_goals grind[E8,E7,EB,E3,DX,EA,E9,E6,EC,ED,EN,EM,EP,EO,EQ,ER,ES,AM3]⟩
instance A7z:t6 iW (λ_=>True) (λ_ _=>True):=⟨by unfold iW;exact tp⟩
instance AMa:t6 w_ (λx=>0<=x.2/\x.2<=x.1.length/\x.1.length<=1000) (λ_ r=>True):=⟨λx h=>by
 refine EV (R:=λr:Sum (Unit) (Bool)=>True) (λy:DO×Int=>(0<=y.2/\y.2<=y.1.length/\y.1.length<=1000)/\y.1=x.1) (λy:DO×Int=>(y.1.length-y.2:Int).toNat) ?_ _ _ oc (by unfold fuel;grind);rintro next ⟨s,a⟩ h hn
 try dsimp only at h hn
 unfold A53
 repeat' first
  |(with_reducible first|refine DR.2 ⟨λ_=>?_,λ_=>?_⟩|refine DP.2 ?_|refine DQ.2 ?_|refine(HZ.1 _ ?_).mono λ_ _=>?_|refine(OE _ ?_ ?_).mono λ_ _=>?_)
  |exact λc=>clo (HZ.1 c trivial)
  |exact λc=>clo (JW.1 c trivial)
  |with_reducible refine hn _ ?_ ?_
  |dsimp only
 all_goals grind[E8,E7,EB,E3,DX,EA,E9,E6,EC,ED,EN,EM,EP,EO,EQ,ER,ES,YM]⟩
instance AMb:t6 iX (λx=>x.length<=1000) (λ_ _=>True):=⟨by unfold iX;exact tp⟩
instance AMc:t6 iY (λx=>x.1.length<=1000/\x.2.2.2.1.length<=1000/\x.2.2.1.length<=1000/\x.2.1.1=0) (λx r=>(∀y,r=.inl y->y.1.length<=1000/\0<=y.2.1/\y.2.1<=999999999999999999/\y.2.2=x.2.1.2)/\∀y,r=.inr y->y.2=false):=⟨by unfold iY;exact tp⟩
instance AMd:t6 iZ (λx=>x.length<=1000) (λ_ r=>r.2=true->MQ r.1):=⟨λx h=>by
 unfold iZ
 repeat' first
  |(with_reducible first|refine DR.2 ⟨λ_=>?_,λ_=>?_⟩|refine DP.2 ?_|refine DQ.2 ?_|refine EL.2 ⟨?_,λ_ _=>?_⟩|refine HY.2 ⟨?_,?_⟩|refine(A7l.1 _ ?_).mono λ_ _=>?_|refine(AMc.1 _ ?_).mono λ_ _=>?_|refine(HZ.1 _ ?_).mono λ_ _=>?_|refine(A7z.1 _ ?_).mono λ_ _=>?_|refine(AMb.1 _ ?_).mono λ_ _=>?_|refine(ALr _ ?_).mono λ_ _=>?_|refine(bT.1 _ ?_).mono λ_ _=>?_|refine(OE _ ?_ ?_).mono λ_ _=>?_)
  |exact λc=>clo (HZ.1 c trivial)
  |exact λc=>clo (JW.1 c trivial)
  |exact λc=>clo (A7z.1 c trivial)
  |split
  |dsimp only
 all_goals grind[E8,E7,EB,E3,DX,EA,E9,E6,EC,ED,EN,EM,EP,EO,EQ,ER,ES,AM4]⟩
instance:t6 x6 (λx=>x.1.length<=1000/\x.2.length+x.1.length<=1001/\(∀n∈x.2,0<=n/\n<=999999999999999999)) (λ_ r=>NS r.1/\r.2.1.length<=1000):=ti (λ_ _=>True) (λy=>y.1.length) (by unfold A54;exact tp)
instance AMf:t6 i_ (λx=>x.length<=1000) (λ_ r=>NS r.1/\r.2.1.length<=1000):=⟨by unfold i_;exact tp⟩
def AMg(x:DO×NF)(h:∀c,Z1 (x.2 c) λ_=>True):Z1 (aD x) (λr:Int=>0<=r/\r<=1/\r<=x.1.length):=by
 obtain⟨s,a⟩:=x;try dsimp only at h ⊢
 unfold aD
 repeat' first
  |(with_reducible first|refine DR.2 ⟨λ_=>?_,λ_=>?_⟩|refine DP.2 ?_|refine DQ.2 ?_|refine EL.2 ⟨?_,λ_ _=>?_⟩|refine(AMA _ ?_).mono λ_ _=>?_|refine(h _).mono λ_ _=>?_)
  |dsimp only
 all_goals exact qN
instance:t6 x8 (λx=>tl x.2.2.2.2 x.2.2.2.1 x.2.2.1.length/\x.2.1=[]) (λx r=>r.length<=x.1.length):=ti (λx y=>y.1=x.1/\y.2.1=x.2.1) (λy=>(y.2.2.2.1-y.2.2.2.2).toNat) (by unfold A55;exact tp)
instance:t6 j7 (λ_=>True) (λ_ _=>True):=⟨by unfold j7;exact tp⟩
instance:t6 j8 (λ_=>True) (λ_ _=>True):=⟨by unfold j8;exact tp⟩
instance:t6 j9 (λ_=>True) (λ_ _=>True):=⟨by unfold j9;exact tp⟩
instance AMl:t6 jA (λ_=>True) (λx r=>x.length<=281474976710656->r.1.length<=x.length/\(r.1≠[]->1<=r.2.1)/\r.2.1<=3/\0<=r.2.2/\r.2.2<=3):=⟨by unfold jA;exact tp⟩
instance AMm:t6 jB (λx=>0<=x.2.2.1/\x.2.2.1<=x.1.length/\x.1.length<=1000/\0<=x.2.1/\x.2.1<=999999999999999999) (λx r=>(∀y,r=.inl y->y.1.length<=x.1.length/\0<=y.2/\y.2<=999999999999999999)/\∀y,r=.inr y->y.2=false/\y.1=[]):=⟨by unfold jB;exact tp⟩
instance AMn:t6 x9 (λx=>x.2.1.length<=1000/\0<=x.2.2/\x.2.2<=3/\P8 x.1) (λ_ r=>P8 r.1/\r.2.1.length<=1000):=⟨λx h=>by
 refine EV (R:=λr:GC×DO×Bool=>P8 r.1/\r.2.1.length<=1000) (λy:GC×DO×Int=>(y.2.1.length<=1000/\0<=y.2.2/\y.2.2<=3/\P8 y.1)) (λy:GC×DO×Int=>(4-y.2.2).toNat) ?_ _ _ oc (by unfold fuel;grind);rintro next ⟨a,s,l⟩ h hn
 try dsimp only at h hn
 unfold A56
 repeat' first
  |(with_reducible first|refine DR.2 ⟨λ_=>?_,λ_=>?_⟩|refine DP.2 ?_|refine DQ.2 ?_|refine EL.2 ⟨?_,λ_ _=>?_⟩|refine HY.2 ⟨?_,?_⟩|refine(AMg _ ?_).mono λ_ _=>?_|refine(JW.1 _ ?_).mono λ_ _=>?_|refine(AMl.1 _ ?_).mono λ_ _=>?_|refine(HZ.1 _ ?_).mono λ_ _=>?_|refine(AMm.1 _ ?_).mono λ_ _=>?_)
  |exact λc=>clo (HZ.1 c trivial)
  |exact λc=>clo (JW.1 c trivial)
  |with_reducible refine hn _ ?_ ?_
  |split
  |dsimp only
 all_goals exact qN⟩
instance AMo:t6 jC (λx=>x.2.length<=1000/\P8 x.1) (λ_ r=>r.1.length<=1000/\P8 r.2.2):=⟨by unfold jC;exact tp⟩
instance:t6 jD (λ_=>True) (λ_ _=>True):=⟨by unfold jD;exact tp⟩
instance AMp:t6 xB (λx=>0<=x.2.2.2/\x.2.2.2<=x.2.2.1/\x.2.2.1=x.2.1.length/\x.2.2.1<=281474976710656/\0<=x.1/\x.1<=1048576+1000*x.2.2.2/\(∀s∈x.2.1,s.length<=1000)/\x.2.2.1<=1048576) (λ_ r=>∀y,r=.inr y->y.1=[]):=ti (λ_ _=>True) (λy=>(y.2.2.1-y.2.2.2).toNat) (by unfold A57;exact tp)
def AMq(x:DO)(h:x.length<=1000):Z1 (jE x) (λr:(KX DO)×X5=>LS r.1):=by
 unfold jE
 repeat' first
  |(with_reducible first|refine DP.2 ?_|refine DQ.2 ?_|refine(A7o _ ?_).mono λ_ _=>?_|refine(AMp.1 _ ?_).mono λ_ _=>?_|refine(AM2 _ ⟨?_,?_⟩).mono λ_ _=>?_)
  |exact λc=>clo (A7o c trivial)
  |split
  |dsimp only
 all_goals exact qN
instance AMr:t6 jF (λx=>x.1.length<=1000/\x.2.1.1=0/\0<=x.2.2.1/\x.2.2.1<=x.1.length/\(x.2.2.2=true->x.2.2.1<x.1.length)) (λx r=>(∀y,r=.inl y->y.1.length<=1000/\0<=y.2.1/\y.2.1<=999999999999999999/\y.2.2=x.2.1.2)/\∀y,r=.inr y->y.2=false):=⟨by unfold jF;exact tp⟩
instance AMs:t6 jG (λx=>x.length<=1000) (λ_ r=>r.2=true->MQ r.1):=⟨λx h=>by
 unfold jG
 repeat' first
  |(with_reducible first|refine DR.2 ⟨λ_=>?_,λ_=>?_⟩|refine DP.2 ?_|refine DQ.2 ?_|refine EL.2 ⟨?_,λ_ _=>?_⟩|refine(ALp _ ?_).mono λ_ _=>?_|refine(HZ.1 _ ?_).mono λ_ _=>?_|refine(AMr.1 _ ?_).mono λ_ _=>?_|refine(AMf.1 _ ?_).mono λ_ _=>?_|refine(AMo.1 _ ?_).mono λ_ _=>?_|refine(ALq _ ?_).mono λ_ _=>?_|refine(AMq _ ?_).mono λ_ _=>?_|refine(OE _ ?_ ?_).mono λ_ _=>?_)
  |exact λc=>clo (HZ.1 c trivial)
  |exact λc=>clo (JW.1 c trivial)
  |split
  |dsimp only
 all_goals grind[E8,E7,EB,E3,DX,EA,E9,E6,EC,ED,EN,EM,EP,EO,EQ,ER,ES,AM5]⟩
instance AMt:t6 jH (λx=>x.1.length<=1000) (λ_ r=>r.length<=5000):=⟨by unfold jH;exact tp⟩
instance A0m:t6 WM (λ_=>True) (λ_ _=>True):=⟨by unfold WM;exact tp⟩
instance AMu:t6 jI (λx=>0<=x.2.1/\x.2.1<x.1.length/\x.1.length<=1000) (λx r=>(∀y,r=.inl y->x.2.1<=y/\y<=x.1.length)/\∀y,r=.inr y->y.2=false):=⟨by unfold jI;exact tp⟩
def AMv(x:DO×(KX GI)×Int)(h:0<=x.2.2/\(x.1.length:Int)<=281474976710656/\x.2.2<=(x.1.length:Int)/\x.1.length<=1000/\x.2.1.length<=x.2.2/\(∀t∈x.2.1,t.2.1.length<=5000/\0<=t.2.2/\t.2.2<=999999999999999999)):Z1 (xC x) (λr:Sum (KX GI) (HJ×X5)=>(∀y,r=.inl y->TS y)/\∀y,r=.inr y->y.2=false):=by
 refine EV (R:=λr:Sum (KX GI) (HJ×X5)=>(∀y,r=.inl y->TS y)/\∀y,r=.inr y->y.2=false) (λy:DO×(KX GI)×Int=>(0<=y.2.2/\(y.1.length:Int)<=281474976710656/\y.2.2<=(y.1.length:Int)/\y.1.length<=1000/\y.2.1.length<=y.2.2/\(∀t∈y.2.1,t.2.1.length<=5000/\0<=t.2.2/\t.2.2<=999999999999999999))) (λy:DO×(KX GI)×Int=>((y.1.length:Int)-y.2.2).toNat) ?_ _ _ oc (by unfold fuel;grind);rintro next ⟨s,b,a⟩ h hn
 try dsimp only at h hn
 unfold A58
 repeat' first
  |(with_reducible first|refine DR.2 ⟨λ_=>?_,λ_=>?_⟩|refine DP.2 ?_|refine DQ.2 ?_|refine EL.2 ⟨?_,λ_ _=>?_⟩|refine HY.2 ⟨?_,?_⟩|refine FF.2 ⟨?_,?_⟩|refine(AMu.1 _ ?_).mono λ_ _=>?_|refine(HZ.1 _ ?_).mono λ_ _=>?_|refine(M8.1 _ ?_).mono λ_ _=>?_|refine(JW.1 _ ?_).mono λ_ _=>?_|refine(AMt.1 _ ?_).mono λ_ _=>?_|refine(OE _ ?_ ?_).mono λ_ _=>?_)
  |exact λc=>clo (HZ.1 c trivial)
  |exact λc=>clo (JW.1 c trivial)
  |with_reducible refine hn _ ?_ ?_
  |split
  |dsimp only
 all_goals exact qN
def AMw(x:KX GI)(h:TS x):Z1 (xD x) (λr:KX GI=>TS r):=by
 refine EV (R:=λr=>TS r) (λy=>TS y) (λy=>y.length) ?_ _ _ h (by exact zb);intro next v h d
 unfold A59;by_cases a:(0:Int)<v.length
 .rw[EJ oa oa,A6 a];simp only[A4,BU];refine DP.2 (EL.2 ⟨⟨oa,oa⟩,λb j=>?_⟩);refine DP.2 ((A0m.1 _ trivial).mono λr _=>?_);refine DR.2 ⟨λ_=>DP.2 (HY.2 ⟨⟨oa,oa,oa⟩,?_⟩),λ_=>DQ.2 h⟩;refine d _ ⟨?_,λt e=>h.2 t (EN e)⟩ ?_
  .rw[EM];omega
  .rw[EM];omega
 .rw[A9 a];simp only[A8,CU];grind[DP,DQ]
instance AMx:t6 jJ (λx=>x.length<=1000) (λ_ r=>r.2=true->MQ r.1):=⟨λx h=>by
 unfold jJ
 repeat' first
  |(with_reducible first|refine DP.2 ?_|refine DQ.2 ?_|refine(AMv _ ?_).mono λ_ _=>?_|refine(AMw _ ?_).mono λ_ _=>?_)
  |split
  |dsimp only
 all_goals grind[E8,E7,EB,E3,DX,EA,E9,E6,EC,ED,EN,EM,EP,EO,EQ,ER,ES,AM6]⟩
instance AMy:t6 jK (λx=>x.length<=1000) (λ_ r=>r.2=true->MQ r.1):=⟨λx h=>by
 unfold jK
 repeat' first
  |(with_reducible first|refine DP.2 ?_|refine DQ.2 ?_|refine(pJ.1 _ ?_).mono λ_ _=>?_)
  |dsimp only
 all_goals grind[E8,E7,EB,E3,DX,EA,E9,E6,EC,ED,EN,EM,EP,EO,EQ,ER,ES,AM7]⟩
instance UR:t6 KN (λx=>x.2.length<=1048576) (λ_ r=>r.2=0->MQ r.1):=⟨by unfold KN;exact tp⟩
instance AMz:t6 xE (λx=>0<=x.2.2.2/\x.2.2.2<=x.2.2.1/\x.2.2.1=x.2.1.length/\x.2.2.1<=281474976710656/\x.1.length<=x.2.2.2/\(∀s∈x.1,s.length<=21)/\x.2.2.1<=1002) (λ_ r=>r.length<=1002/\∀s∈r,s.length<=21):=ti (λ_ _=>True) (λy=>(y.2.2.1-y.2.2.2).toNat) (by unfold A5A;exact tp)
instance A81:t6 aF (λx=>x.length<=1002) (λ_ r=>r.length<=30000):=⟨λx h=>by unfold aF;refine DP.2 ((AMz.1 _ ⟨oh,oh,rfl,ot,oh,oh,ot⟩).mono λr a=>?_);have b:(Lib.join r [46]).length<=1002*(21+1):=pE a.2 a.1 oh;exact DP.2 ((XG _ ⟨ot,oc⟩).mono λs d=>DQ.2 oc)⟩
def A0n(x:(KX Int)×(KX DO))(h:pD x):Z1 (aG x) (λr:DO=>r.length<=1048576):=by unfold aG;obtain⟨d,e,a,b⟩:=h;have j:(Lib.join x.2 [46]).length<=1002*(1000+1):=pE b a oh;refine DP.2 (HY.2 ⟨⟨oa,oa,oa⟩,?_⟩);refine DP.2 ((A81.1 _ oc).mono λr l=>?_);refine DR.2 ⟨λ_=>?_,λ_=>DQ.2 oa⟩;refine DP.2 ((XG _ ⟨oc,oc⟩).mono λs m=>?_);grind[DP,FX,DQ]
instance:t6 xF (λx=>0<=x.2.2/\x.2.2<=x.1.length/\x.1.length<=1000/\x.2.1.length<=21*x.2.2) (λ_ r=>r.length<=21000):=ti (λx y=>y.1=x.1) (λy=>(y.1.length-y.2.2:Int).toNat) (by unfold A5B;exact tp)
instance:t6 aH (λx=>x.length<=1000) (λ_ r=>r.length<=21000):=⟨by unfold aH;exact tp⟩
instance:t6 aI (λx=>bX x) (λ_ r=>r.length<=1000):=⟨by unfold aI;exact tp⟩
instance:t6 xG (λx=>tl x.2.2.2 x.2.2.1 x.1.length/\x.2.2.1<=1000/\x.2.1.length<=x.2.2.2) (λx r=>r.length<=x.1.length):=ti (λx y=>y.1=x.1) (λy=>(y.2.2.1-y.2.2.2).toNat) (by unfold A5C;exact tp)
instance AN3:t6 jM (λx=>x.length<=1000) (λx r=>r.length<=x.length+1):=⟨by unfold jM;exact tp⟩
instance LJ:t6 KO (λx=>0<=x/\x<=999999999999999999) (λ_ r=>r.length=18):=⟨by unfold KO;exact tp⟩
instance AN4:t6 xH (λx=>x.1.length<=1000/\x.2.length+40*x.1.length<=50000) (λ_ r=>r.length<=50000):=⟨λx h=>by
 refine EV (R:=λr:List Int=>r.length<=50000) (λy:DO×(List Int)=>y.1.length<=1000/\y.2.length+40*y.1.length<=50000) (λy:DO×(List Int)=>y.1.length) ?_ _ _ h (by exact zb);rintro next ⟨s,b⟩ h hn
 dsimp only at h hn;unfold A5D;dsimp only;refine DR.2 ⟨λhc=>?_,λ_=>DQ.2 oa⟩;have hne:0<s.length:=by rw[EP]at hc;simp only[BM,CZ]at hc;omega
 have f1:∀c,Z1 ((jL c).bind λr=>some r) λ_=>True:=λc=>⟨_,rfl,trivial⟩;refine DP.2 ((pF _ ⟨AV _,oh,oc,f1⟩).mono λr1 hr1=>?_);dsimp only at hr1;obtain⟨a0,a1,_,a3⟩:=hr1;rw[Int.zero_add]at a1 a3;refine DP.2 ((pF _ ⟨a0,oa,oc,A7n⟩).mono λr2 hr2=>?_);dsimp only at hr2;obtain⟨b0,b1,_,b3⟩:=hr2;have hpos:0<r1+r2:=by
  rcases Int.lt_or_le 0 (r1+r2)with h'|h'
  .exact h'
  .exfalso;have e1:r1=0:=oa;have e2:r2=0:=oa;subst e1 e2;have g:s[(0:Int).toNat]?=some (s[0]'hne):=A1 hne;grind[jL,H3]
 rw[EJ oa oa];refine DP.2 (HY.2 ⟨⟨oa,oa,oa⟩,?_⟩);refine DP.2 ((M8.1 _ oc).mono λr4 h4=>?_);refine DP.2 (HY.2 ⟨⟨oa,oa,oa⟩,?_⟩);refine DP.2 ((AN3.1 _ oc).mono λr6 h6=>?_);rw[EM]at h6;refine DP.2 ((LJ.1 _ h4).mono λr7 h7=>?_);refine DP.2 (FX.2 ⟨oa,?_⟩);refine DP.2 ((bV.1 _ ⟨oc,oc⟩).mono λr9 h9=>?_);grind[List.length_append,DP,HY,EM]⟩
instance:t6 U8 (λx=>x.length<=1000) (λ_ r=>r.length<=50010):=⟨by unfold U8;exact tp⟩
instance:t6 jN (λx=>x.2.1.length<=1000000) (λx r=>r.1=x.1/\r.2.length<=x.2.1.length+30):=⟨by unfold jN;exact tp⟩
instance A0o:t6 aJ (λx=>bX x) (λ_ r=>r.length<=1048576):=⟨by unfold aJ;exact tp⟩
instance AN6:t6 xI (λx=>NS x) (λ_ r=>NS r):=⟨λx h=>by
 refine EV (R:=λr=>NS r) (λy=>NS y) (λy=>y.length) ?_ _ _ h (by exact zb);intro next v h d
 unfold A5E;by_cases a:(0:Int)<v.length
 .rw[EJ oa oa,A6 a];simp only[A4,BU];refine DP.2 (EL.2 ⟨⟨oa,oa⟩,λb j=>?_⟩);refine DR.2 ⟨λ_=>DP.2 (HY.2 ⟨⟨oa,oa,oa⟩,?_⟩),λ_=>DQ.2 h⟩;refine d _ ⟨?_,λt e=>h.2 t (EN e)⟩ ?_
  .rw[EM];omega
  .rw[EM];omega
 .rw[A9 a];simp only[A8,CU];grind[DP,DQ]⟩
instance A84:t6 aK (λx=>NS x) (λ_ r=>NS r):=⟨by unfold aK;exact tp⟩
instance:t6 jO (λx=>x.2.1.length<=10) (λx r=>r.1=x.1/\r.2.length<=30):=⟨by unfold jO;exact tp⟩
instance:t6 jP (λx=>x.1.length<=30/\x.2.1.length<=1002) (λ_ r=>r.length<=31000):=⟨by unfold jP;exact tp⟩
instance:t6 jQ (λx=>x.2.1.length<=31000/\0<=x.1.2.2.1/\x.1.2.2.1<=3) (λx r=>r.1=x.1/\r.2.length<=31100):=⟨by unfold jQ;exact tp⟩
instance:t6 jR (λx=>x.2.1.length<=31100) (λx r=>r.1=x.1/\r.2.length<=31200):=⟨by unfold jR;exact tp⟩
instance:t6 jS (λx=>x.2.1.length<=31200) (λx r=>r.1=x.1/\r.2.length<=31300):=⟨by unfold jS;exact tp⟩
instance:t6 jT (λ_=>True) (λx r=>r.length<=x.1.length+21):=⟨by unfold jT;exact tp⟩
instance:t6 xJ (λx=>tl x.2.2.2 x.2.2.1 x.2.1.length/\x.1.length<=40000+1030*x.2.2.2/\x.2.2.1<=1002/\∀s∈x.2.1,s.length<=1000) (λ_ r=>r.length<=10000000):=ti (λ_ _=>True) (λy=>(y.2.2.1-y.2.2.2).toNat) (by unfold A5F;exact tp)
instance A0p:t6 aL (λx=>P8 x) (λ_ r=>r.length<=10000000):=⟨by unfold aL;exact tp⟩
instance ANE:t6 xK (λx=>0<=x.2.2.2/\x.2.2.2<=x.2.2.1/\x.2.2.1=x.2.1.length/\x.2.2.1<=281474976710656/\x.1.length<=x.2.2.2/\(∀s∈x.1,s.length<=5000)/\x.2.2.1<=1002/\∀t∈x.2.1,t.2.1.length<=5000) (λ_ r=>r.length<=1002/\∀s∈r,s.length<=5000):=ti (λ_ _=>True) (λy=>(y.2.2.1-y.2.2.2).toNat) (by unfold A5G;exact tp)
def A0q(x:KX GI)(h:TS x):Z1 (aM x) (λr:DO=>r.length<=10000000):=by unfold aM;refine DP.2 ((ANE.1 _ ⟨oh,oh,rfl,oc,oh,oh,oc,λt b=>(h.2 t b).1⟩).mono λr a=>?_);have d:(Lib.join r [45]).length<=1002*(5000+1):=pE a.2 a.1 oh;refine DR.2 ⟨λ_=>DQ.2 oh,λ_=>?_⟩;exact DP.2 ((XG _ ⟨oc,oc⟩).mono λs e=>DQ.2 oc)
def A0r(x:Int)(h:True):Z1 (aN x) (λr:DO=>r.length<=10000000):=by
 unfold aN
 repeat' first
  |(with_reducible first|refine DP.2 ?_|refine DQ.2 ?_|refine(KP.1 _ ?_).mono λ_ _=>?_)
  |dsimp only
 omega
instance ANF:t6 jU (λx=>MQ x) (λ_ r=>r.1.length<=100):=⟨λx h=>by
 unfold jU;refine DP.2 (Z1.mono (P:=λr:DO=>r.length<=10000000) ?_ λd b=>?_)
 .rcases x with x|x|x|x|x|x
  .exact DP.2 ((A0n _ h).mono λ_ h=>DQ.2 oa)
  .exact DP.2 ((A0o.1 _ h).mono λ_ h=>DQ.2 oa)
  .exact DP.2 ((A0p.1 _ h).mono λ_ h=>DQ.2 h)
  .exact DP.2 ((A0q _ h).mono λ_ h=>DQ.2 h)
  .simp_all[DP,A0r,trivial,DQ]
  .exact h.elim
 .refine DR.2 ⟨λ_=>DQ.2 oh,λa=>DQ.2 ?_⟩;grind⟩
instance pK:t6 U9 (λx=>x.2.length<=1048576) (λ_ r=>r.1.length<=100):=⟨by unfold U9;exact tp⟩
instance:t6 wP (λx=>(∀p,Z1 (x.2.2.1 p) λ_=>True)/\x.2.2.2.1=20/\0<=x.2.2.2.2.1/\x.2.2.2.2.2=x.2.2.2.2.1+20/\x.2.1=x.1.length/\x.2.1<=1048576/\x.2.2.2.2.1<=x.2.1) (λx r=>r.1.length=x.1.length/\(∀q∈r.1,q∈x.1)/\0<=r.2/\r.2<=x.2.1):=ti (λx y=>y.2.1=x.2.1/\y.2.2.1=x.2.2.1/\y.2.2.2.1=x.2.2.2.1/\y.1.length=x.1.length/\∀q∈y.1,q∈x.1) (λy=>(y.2.1-y.2.2.2.2.1).toNat) (by unfold A4s;exact tp)
instance:t6 wQ (λx=>(∀p,Z1 (x.2.2.1 p) λ_=>True)/\0<x.2.2.2.1/\x.2.2.2.1<x.2.1/\0<=x.2.2.2.2.1/\x.2.2.2.2.2=x.2.2.2.2.1+2*x.2.2.2.1/\x.2.1=x.1.length/\x.2.1<=1048576/\x.2.2.2.2.1<=x.2.1) (λx r=>r.1.length=x.1.length/\(∀q∈r.1,q∈x.1)/\0<=r.2/\r.2<=x.2.1):=ti (λx y=>y.2.1=x.2.1/\y.2.2.1=x.2.2.1/\y.2.2.2.1=x.2.2.2.1/\y.1.length=x.1.length/\∀q∈y.1,q∈x.1) (λy=>(y.2.1-y.2.2.2.2.1).toNat) (by unfold A4t;exact tp)
instance:t6 wR (λx=>(∀p,Z1 (x.2.2.1 p) λ_=>True)/\0<x.2.2.2/\x.2.2.2<=2097152/\x.2.1=x.1.length/\x.2.1<=1048576) (λx r=>r.length=x.1.length/\(∀q∈r,q∈x.1)):=ti (λx y=>y.2.1=x.2.1/\y.2.2.1=x.2.2.1/\y.1.length=x.1.length/\∀q∈y.1,q∈x.1) (λy=>(2097153-y.2.2.2).toNat) (by unfold A4u;exact tp)
instance:t6 iJ (λx=>(∀p,Z1 (x.2.2 p) λ_=>True)/\x.2.1=x.1.length/\x.2.1<=1048576) (λx r=>r.length=x.1.length/\(∀q∈r,q∈x.1)):=⟨by unfold iJ;exact tp⟩
instance ANK:t6 iK (λx=>(∀p,Z1 (x.2 p) λ_=>True)/\x.1.length<=1048576) (λx r=>r.length=x.1.length/\(∀q∈r,q∈x.1)):=⟨by unfold iK;exact tp⟩
instance:t6 yB (λx=>(∀p,Z1 (x.2.2.1 p) λ_=>True)/\x.2.2.2.1=20/\0<=x.2.2.2.2.1/\x.2.2.2.2.2=x.2.2.2.2.1+20/\x.2.1=x.1.length/\x.2.1<=1048576/\x.2.2.2.2.1<=x.2.1) (λx r=>r.1.length=x.1.length/\(∀q∈r.1,q∈x.1)/\0<=r.2/\r.2<=x.2.1):=ti (λx y=>y.2.1=x.2.1/\y.2.2.1=x.2.2.1/\y.2.2.2.1=x.2.2.2.1/\y.1.length=x.1.length/\∀q∈y.1,q∈x.1) (λy=>(y.2.1-y.2.2.2.2.1).toNat) (by unfold A5X;exact tp)
instance:t6 yC (λx=>(∀p,Z1 (x.2.2.1 p) λ_=>True)/\0<x.2.2.2.1/\x.2.2.2.1<x.2.1/\0<=x.2.2.2.2.1/\x.2.2.2.2.2=x.2.2.2.2.1+2*x.2.2.2.1/\x.2.1=x.1.length/\x.2.1<=1048576/\x.2.2.2.2.1<=x.2.1) (λx r=>r.1.length=x.1.length/\(∀q∈r.1,q∈x.1)/\0<=r.2/\r.2<=x.2.1):=ti (λx y=>y.2.1=x.2.1/\y.2.2.1=x.2.2.1/\y.2.2.2.1=x.2.2.2.1/\y.1.length=x.1.length/\∀q∈y.1,q∈x.1) (λy=>(y.2.1-y.2.2.2.2.1).toNat) (by unfold A5Y;exact tp)
instance:t6 yD (λx=>(∀p,Z1 (x.2.2.1 p) λ_=>True)/\0<x.2.2.2/\x.2.2.2<=2097152/\x.2.1=x.1.length/\x.2.1<=1048576) (λx r=>r.length=x.1.length/\(∀q∈r,q∈x.1)):=ti (λx y=>y.2.1=x.2.1/\y.2.2.1=x.2.2.1/\y.1.length=x.1.length/\∀q∈y.1,q∈x.1) (λy=>(2097153-y.2.2.2).toNat) (by unfold A5Z;exact tp)
instance:t6 kJ (λx=>(∀p,Z1 (x.2.2 p) λ_=>True)/\x.2.1=x.1.length/\x.2.1<=1048576) (λx r=>r.length=x.1.length/\(∀q∈r,q∈x.1)):=⟨by unfold kJ;exact tp⟩
instance ANP:t6 kK (λx=>(∀p,Z1 (x.2 p) λ_=>True)/\x.1.length<=1048576) (λx r=>r.length=x.1.length/\(∀q∈r,q∈x.1)):=⟨by unfold kK;exact tp⟩
instance:t6 WH (λ_=>True) (λ_ _=>True):=⟨by unfold WH;exact tp⟩
instance:t6 M4 (λ_=>True) (λ_ r=>-1<=r/\r<=1):=⟨by unfold M4;exact tp⟩
instance ANR:t6 iL (λ_=>True) (λ_ _=>True):=⟨by unfold iL;exact tp⟩
def ANS(x:DO×Int×Int)(h:x.1.length<=3000/\x.2.1=0/\x.2.2= -1):Z1 (iE x) (λr:IN×EU=>r.1.2.2.2.2.1.length<=1048576):=by
 unfold iE;obtain⟨g1,g2,g3⟩:=h;refine DP.2 ((A7R.1 _ ⟨oc,oc,oc⟩).mono λr1 j=>?_);dsimp only at j;refine DR.2 ⟨λ_=>DQ.2 oh,λ_=>?_⟩;refine DP.2 ((A7U.1 _ ⟨by rw[j.1];omega,j.2.1,oc⟩).mono λl K=>?_);obtain⟨m,T,z,U,V,A⟩:=K;rw[j.1]at m z;rw[EJ oa oa];refine DP.2 (HY.2 ⟨⟨oa,oa,oa⟩,?_⟩);have hj:(Lib.join ((l.1.take ((l.1.length:Int)-1).toNat).drop (0:Int).toNat) [47]).length<=1048577*(1048576+1):=pE (λs N=>A s (EN N)) oc oh;refine DP.2 ((XG _ ⟨oc,oc⟩).mono λr4 h4=>?_);refine DP.2 (EL.2 ⟨⟨oa,oa⟩,λy5 O=>?_⟩);refine DP.2 (Z1.mono (P:=λy:Int=>y=0\/l.2.2.1<l.2.1.length) ?_ λy h6=>?_)
 .refine DR.2 ⟨λ_=>(UN.1 _ ⟨_,rfl,oa⟩).mono λr M=>?_,λ_=>DQ.2 (Or.inl rfl)⟩;simp_all
 refine DP.2 ((ALC.1 _ ⟨oc,oc,oc,λL=>?_,oh⟩).mono λr8 w=>?_)
 .simp_all[DX]
 dsimp only at w;obtain⟨p,W,B,X,Y,Z,b7,C⟩:=w;rw[m]at p B;refine DP.2 ((ALD.1 _ ⟨oc,oc,oc,?_,oh,?_⟩).mono λd a=>?_)
 .dsimp only;rw[C];simp;omega
 .simp_all
 dsimp only at a;obtain⟨D,c2,G,c4,c5,c6,c7,c8,H,E⟩:=a;rw[p]at D G;refine DP.2 (Z1.mono (P:=λe:Int=>e=0\/d.1.2.1<d.1.1.length) ?_ λe J=>?_)
 .refine DR.2 ⟨λ_=>(UN.1 _ ⟨_,rfl,oa⟩).mono λr M=>?_,λ_=>DQ.2 (Or.inl rfl)⟩;simp_all
 refine DP.2 ((ALI _ ⟨oc,oc,oc,λL=>?_,?_⟩).mono λQ b=>?_)
 .simp_all[DX]
 .grind
 dsimp only at b;obtain⟨d1,d2,d3,d4,d5,d6,d7,I,d9⟩:=b;refine DR.2 ⟨λ_=>DP.2 ((QY.1 _ trivial).mono λR _=>DQ.2 ?_),λ_=>DQ.2 ?_⟩<;>
 .dsimp only;rw[I];exact H
def ANT(x:JA×IN×Int)(h:1<=x.2.2/\x.2.1.2.2.2.2.1.length<=1048576):Z1 (wT x) (λr:Sum (JA×IN) (JA×Int×Int)=>(∀y,r=.inl y->y.2.2.2.2.2.1.length<=1048576)/\∀y,r=.inr y->y.2.2≠0):=by
 refine EV (R:=λr:Sum (JA×IN) (JA×Int×Int)=>(∀y,r=.inl y->y.2.2.2.2.2.1.length<=1048576)/\∀y,r=.inr y->y.2.2≠0)
  (λy:JA×IN×Int=>1<=y.2.2/\y.2.1.2.2.2.2.1.length<=1048576) (λy:JA×IN×Int=>(y.2.1.2.2.2.2.1.length-y.2.2:Int).toNat) ?_ _ _ h (by unfold fuel;omega)
 rintro next ⟨e,p,i⟩ h d
 dsimp only at h d;unfold A4w;dsimp only;refine DR.2 ⟨λb=>?_,λ_=>DQ.2 ⟨λy a=>oc,λy a=>by cases a⟩⟩;have b:=AC b;rw[EJ oa oa,EJ oa oa];refine DP.2 (EY.2 ⟨⟨oa,oa⟩,?_⟩);refine DP.2 (EY.2 ⟨⟨oa,oa⟩,?_⟩);refine DR.2 ⟨λ_=>DQ.2 ⟨λy a=>(by cases a),λy a=>(by cases a;simp)⟩,λ_=>?_⟩;exact d _ ⟨oc,oc⟩ oq
instance ANU:t6 aB (λx=>x.length<=1048576) (λ_ r=>r.2.2=0->r.1.2.2.2.2.1.length<=1048576):=⟨λx h=>by
 unfold aB;refine DR.2 ⟨λ_=>DQ.2 oh,λj=>?_⟩;have j:=AI j;refine DP.2 ((ANS _ ⟨oc,rfl,rfl⟩).mono λB m=>?_);refine DR.2 ⟨λ_=>DQ.2 oh,λ_=>?_⟩;refine DP.2 ((ANK.1 _ ⟨λc=>clo (ANR.1 c trivial),m⟩).mono λC A=>?_);refine DP.2 ((ANT _ ⟨oh,oc⟩).mono λz e=>?_);rcases z with y|y
 .have s:=e.1 y rfl;refine DP.2 ((bW _ s).mono λd a=>?_);refine DR.2 ⟨λb=>DQ.2 λh0=>?_,λb=>?_⟩
  .simp
  .rw[DX]at b;have h0:d=0:=by simpa using b
   have p:=a h0;refine DP.2 ((pB _ p).mono λw l=>DQ.2 λ_=>?_);grind
 .exact DQ.2 λh0=>absurd h0 (e.2 y rfl)⟩
instance ANV:t6 iQ (λx=>x.length<=1048576) (λ_ _=>True):=⟨by unfold iQ;exact tp⟩
def ANW(x:GW×JS×Int×Int)(h:0<=x.2.2.2/\x.2.2.2<=x.2.2.1/\x.2.2.1=x.2.1.length/\x.2.2.1<=281474976710656/\(∀v∈x.2.1,v.2.length<=1048576)/\(∀j:Nat,(j:Int)<x.2.2.2->∀v,x.2.1[j]?=some v->1<=v.1/\v.1<=3)):Z1 (xL x) (λr:Sum (Unit) (Int)=>(∀y,r=.inl y->∀v∈x.2.1,1<=v.1/\v.1<=3)/\∀y,r=.inr y->y≠0):=by
 refine EV (R:=λr:Sum Unit Int=>(∀y,r=.inl y->∀v∈x.2.1,1<=v.1/\v.1<=3)/\∀y,r=.inr y->y≠0)
  (λy:Af×JS×Int×Int=>0<=y.2.2.2/\y.2.2.2<=y.2.2.1/\y.2.2.1=y.2.1.length/\y.2.2.1<=281474976710656/\y.2.1=x.2.1/\(∀v∈y.2.1,v.2.length<=1048576)/\∀j:Nat,(j:Int)<y.2.2.2->∀v,y.2.1[j]?=some v->1<=v.1/\v.1<=3)
  (λy=>(y.2.2.1-y.2.2.2).toNat) ?_ _ _ ⟨h.1,h.2.1,h.2.2.1,h.2.2.2.1,rfl,h.2.2.2.2⟩ (by exact zb)
 rintro next ⟨a,l,n,i⟩ s z
 dsimp only at s z;obtain⟨i0,i1,G,H,A,B,I⟩:=s;unfold A5H;dsimp only;refine DR.2 ⟨λe=>?_,λe=>DQ.2 ⟨λy _ v p=>?_,λy b=>(by cases b)⟩⟩
 .have e:=AC e;rw[EJ oa oa];refine DP.2 (EL.2 ⟨⟨i0,oa⟩,λv p=>?_⟩);refine DR.2 ⟨λ_=>DQ.2 ⟨λy b=>(by cases b),λy b=>(by cases b;decide)⟩,λhk=>?_⟩;have hk:1<=v.1/\v.1<=3:=by have:=BQ.1 hk;have J:=AI this.1;have K:=AI this.2;omega
  have d:∀j:Nat,(j:Int)<i+1->∀v,l[j]?=some v->1<=v.1/\v.1<=3:=by
   intro j C w M;by_cases D:(j:Int)<i
   .grind
   .grind
  have m:Z1 (next (a,l,n,i+1)) (λr:Sum Unit Int=>(∀y,r=.inl y->∀v∈x.2.1,1<=v.1/\v.1<=3)/\∀y,r=.inr y->y≠0):=
   z _ ⟨oc,oc,G,H,A,B,d⟩ oc
  refine DR.2 ⟨λ_=>DR.2 ⟨λ_=>DQ.2 ⟨λy b=>(by cases b),λy b=>(by cases b;decide)⟩,λ_=>m⟩,λ_=>?_⟩;refine DP.2 ((pK.1 (a.2.1,v.2) (B v (PK p))).mono λr _=>?_);refine DR.2 ⟨λL=>DQ.2 ⟨λy b=>(by cases b),λy b=>?_⟩,λ_=>m⟩;grind[DX]
 .have e:=AI e;rw[<-A]at p;have⟨j,C,E⟩:=List.mem_iff_getElem.1 p;exact I j oa v oc
def ANX(x:DO×Int×JS×(KX DO)×(KX DO))(h:P9 x):Z1 (jV x) (λr:Int=>r=0->x.2.2.1.length<=100/\∀v∈x.2.2.1,1<=v.1/\v.1<=3):=by
 unfold jV;refine DR.2 ⟨λ_=>DQ.2 λh0=>absurd h0 oi,λa=>?_⟩;have a:=AI a;refine DP.2 ((ANW _ ⟨AV _,BE _,rfl,oc,h.2.2.1,λj d=>oc⟩).mono λr b=>?_);rcases r with r|r
 .exact DQ.2 λ_=>⟨oa,b.1 r rfl⟩
 .exact DQ.2 λh0=>absurd h0 (b.2 r rfl)
instance ANY:t6 xM (λx=>0<=x.2.2.2/\x.2.2.2<=x.2.2.1/\x.2.2.1<=281474976710656/\x.2.2.1=x.1.length/\x.2.2.1<=1048576) (λ_ _=>True):=ti (λ_ y=>(0≤y.2.2.2∧y.2.2.2≤y.2.2.1∧y.2.2.1≤281474976710656∧y.2.2.1=y.1.length∧y.2.2.1≤1048576)) (λy=>(y.2.2.1-y.2.2.2).toNat) (by unfold A5I;exact tp)
instance ANZ:t6 xN (λx=>0<=x.2.2.2/\x.2.2.2<=x.2.2.1/\x.2.2.1=x.2.1.length/\x.2.2.1<=281474976710656/\x.1=x.2.1/\∀s∈x.2.1,s.length<=1048576) (λ_ r=>∀y,r=.inr y->y≠0):=⟨λx h=>by
 refine EV (R:=λr:Sum Unit Int=>∀y,r=.inr y->y≠0)
  (λy:(List DO)×(List DO)×Int×Int=>0<=y.2.2.2/\y.2.2.2<=y.2.2.1/\y.2.2.1=y.2.1.length/\y.2.2.1<=281474976710656/\y.1=y.2.1/\∀v∈y.2.1,v.length<=1048576)
  (λy=>(y.2.2.1-y.2.2.2).toNat) ?_ _ _ h (by exact zb)
 rintro next ⟨a,l,n,i⟩ e m
 dsimp only at e m;obtain⟨i0,i1,B,C,z,A⟩:=e;subst z;unfold A5J;dsimp only;refine DR.2 ⟨λd=>?_,λd=>DQ.2 λy b=>(by cases b)⟩;have d:=AC d;rw[EJ (n:=i+1) oa oa,EJ oa oa];refine DP.2 (EL.2 ⟨⟨i0,oa⟩,λv p=>?_⟩);have w:=A v (PK p);refine DP.2 ((ANY.1 _ ⟨AV _,BE _,oc,rfl,oc⟩).mono λr _=>?_);refine DR.2 ⟨λ_=>DQ.2 λy b=>(by cases b;decide),λ_=>?_⟩;refine DP.2 (Z1.mono (P:=λ_=>True) (DR.2 ⟨λj=>?_,λ_=>DQ.2 trivial⟩) λD _=>?_)
 .have j:=AC j;exact EL.2 ⟨⟨oa,oa⟩,λ_ _=>trivial⟩
 .refine DR.2 ⟨λ_=>DQ.2 λy b=>(by cases b;decide),λ_=>?_⟩;grind⟩
instance AN_:t6 jW (λx=>∀s∈x,s.length<=1048576) (λ_ _=>True):=⟨by unfold jW;exact tp⟩
instance ANa:t6 xO (λx=>0<=x.2.2.2/\x.2.2.2<=x.2.2.1/\x.2.2.1=x.2.1.length/\x.2.2.1<=281474976710656/\∀s∈x.2.1,s.length<=1048576) (λx r=>(∀y,r=.inl y->y=x.1)/\∀y,r=.inr y->y≠0):=ti (λx y=>y.1=x.1) (λy=>(y.2.2.1-y.2.2.2).toNat) (by unfold A5K;exact tp)
def ANb(x:DO×Int×JS×(KX DO)×(KX DO))(h:P9 x):Z1 (jX x) (λr:Int=>r=0->AfK x):=by
 unfold jX;refine DP.2 ((ANV.1 _ h.1).mono λp _=>?_);refine DR.2 ⟨λ_=>DQ.2 λh0=>absurd h0 oi,λ_=>?_⟩;refine DR.2 ⟨λ_=>DQ.2 λh0=>absurd h0 oi,λ_=>?_⟩;refine DP.2 ((ANX _ h).mono λl d=>?_);refine DR.2 ⟨λb=>DQ.2 λh0=>?_,λb=>?_⟩
 .grind[DX]
 have a:l=0:=by rw[DX]at b;simpa using b
 refine DR.2 ⟨λ_=>DQ.2 λh0=>absurd h0 oi,λj=>?_⟩;have j:=AI j;refine DP.2 ((ANa.1 _ ⟨AV _,BE _,rfl,oc,h.2.2.2.2.1⟩).mono λm e=>?_);rcases m with y|y
 .have:=e.1 y rfl;subst this;exact DP.2 ((AN_.1 _ h.2.2.2.2.2.2).mono λs _=>DQ.2 λ_=>⟨(d a).1,(d a).2,oa⟩)
 .exact DQ.2 λh0=>absurd h0 (e.2 y rfl)
instance:t6 jY (λ_=>True) (λ_ r=>r.length=4):=⟨by unfold jY;exact tp⟩
def ANd(x:(Int->X1 DO)×(KX Int)×(KX Int)×Int×Int)(h:0<=x.2.2.2.2/\x.2.2.2.2<=x.2.2.2.1/\x.2.2.2.1=x.2.2.1.length/\x.2.2.2.1<=281474976710656/\(∀n∈x.2.2.1,Z1 (x.1 n) λs=>s.length<=100)/\x.2.2.2.1<=1002/\x.2.1.length<=100*x.2.2.2.2):Z1 (xP x) (λr:KX Int=>r.length<=100200):=by
 refine EV (R:=λr:KX Int=>r.length<=100200) (λy:(Int->X1 DO)×(KX Int)×(KX Int)×Int×Int=>0<=y.2.2.2.2/\y.2.2.2.2<=y.2.2.2.1/\y.2.2.2.1=y.2.2.1.length/\y.2.2.2.1<=281474976710656/\(∀n∈y.2.2.1,Z1 (y.1 n) λs=>s.length<=100)/\y.2.2.2.1<=1002/\y.2.1.length<=100*y.2.2.2.2)
  (λy=>(y.2.2.2.1-y.2.2.2.2).toNat) ?_ _ _ h (by exact zb)
 rintro next ⟨f,b,l,n,i⟩ d e
 dsimp only at d e;obtain⟨i0,i1,z,A,m,B,C⟩:=d;unfold A5L;dsimp only;refine DR.2 ⟨λa=>?_,λa=>DQ.2 oa⟩;have a:=AC a;rw[EJ oa oa];refine DP.2 (EL.2 ⟨⟨i0,oa⟩,λv j=>?_⟩);refine DP.2 ((m v (PK j)).mono λs w=>?_);refine DP.2 ((bV.1 _ ⟨oc,oc⟩).mono λD p=>?_);grind
def A86(x:(KX Int)×DO×(Int->X1 DO))(h:(∀n∈x.1,Z1 (x.2.2 n) λs=>s.length<=100)/\x.1.length<=1002/\x.2.1.length<=10):Z1 (aO x) (λr:DO=>r.length<=100210):=by obtain⟨l,e,f⟩:=x;dsimp only at h ⊢;unfold aO;obtain⟨a,b,d⟩:=h;dsimp only;refine DP.2 ((ANd _ ⟨AV _,BE _,rfl,oc,a,oc,oh⟩).mono λr j=>?_);refine DP.2 ((UO.1 _ trivial).mono λs m=>?_);grind[DP,FX,DQ,List.length_append]
def ANe(x:(DO->X1 DO)×(KX Int)×(KX DO)×Int×Int)(h:0<=x.2.2.2.2/\x.2.2.2.2<=x.2.2.2.1/\x.2.2.2.1=x.2.2.1.length/\x.2.2.2.1<=281474976710656/\(∀n∈x.2.2.1,Z1 (x.1 n) λs=>s.length<=3000)/\x.2.2.2.1<=1002/\x.2.1.length<=3000*x.2.2.2.2):Z1 (xQ x) (λr:KX Int=>r.length<=3006000):=by
 refine EV (R:=λr:KX Int=>r.length<=3006000) (λy:(DO->X1 DO)×(KX Int)×(KX DO)×Int×Int=>0<=y.2.2.2.2/\y.2.2.2.2<=y.2.2.2.1/\y.2.2.2.1=y.2.2.1.length/\y.2.2.2.1<=281474976710656/\(∀n∈y.2.2.1,Z1 (y.1 n) λs=>s.length<=3000)/\y.2.2.2.1<=1002/\y.2.1.length<=3000*y.2.2.2.2)
  (λy=>(y.2.2.2.1-y.2.2.2.2).toNat) ?_ _ _ h (by exact zb)
 rintro next ⟨f,b,l,n,i⟩ d e
 dsimp only at d e;obtain⟨i0,i1,z,A,m,B,C⟩:=d;unfold A5M;dsimp only;refine DR.2 ⟨λa=>?_,λa=>DQ.2 oa⟩;have a:=AC a;rw[EJ oa oa];refine DP.2 (EL.2 ⟨⟨i0,oa⟩,λv j=>?_⟩);refine DP.2 ((m v (PK j)).mono λs w=>?_);refine DP.2 ((bV.1 _ ⟨oc,oc⟩).mono λD p=>?_);grind
def A87(x:(KX DO)×DO×(DO->X1 DO))(h:(∀n∈x.1,Z1 (x.2.2 n) λs=>s.length<=3000)/\x.1.length<=1002/\x.2.1.length<=10):Z1 (aP x) (λr:DO=>r.length<=3006010):=by obtain⟨l,e,f⟩:=x;dsimp only at h ⊢;unfold aP;obtain⟨a,b,d⟩:=h;dsimp only;refine DP.2 ((ANe _ ⟨AV _,BE _,rfl,oc,a,oc,oh⟩).mono λr j=>?_);refine DP.2 ((UO.1 _ trivial).mono λs m=>?_);grind[DP,FX,DQ,List.length_append]
instance ANf:t6 jZ (λx=>x.length<=1000) (λ_ r=>r.length<=3000):=⟨by unfold jZ;exact tp⟩
def pL(x:(KX Int)×(KX DO))(h:pD x):Z1 (QL x) (λr:DO=>r.length<=10000000):=by unfold QL;obtain⟨w,b,d,e⟩:=h;refine DP.2 (HY.2 ⟨⟨oa,oa,oa⟩,?_⟩);refine DP.2 ((A86 _ ⟨λn j=>DP.2 ((LJ.1 n (b n (EN j))).mono λr a=>DQ.2 oa),oc,oh⟩).mono λy l=>?_);refine DR.2 ⟨λ_=>DP.2 (FX.2 ⟨ot,DQ.2 ot⟩),λ_=>?_⟩;refine DP.2 (FX.2 ⟨ot,?_⟩);refine DP.2 ((A87 _ ⟨λs p=>DP.2 ((ANf.1 s (e s p)).mono λr a=>DQ.2 a),d,oh⟩).mono λz m=>?_);grind[DP,FX,DQ]
instance pM:t6 QN (λx=>bX x) (λ_ r=>r.length<=10000000):=⟨by unfold QN;exact tp⟩
instance ANg:t6 j_ (λx=>0<=x/\x<=999999999999999999) (λ_ r=>r.length<=100):=⟨by unfold j_;exact tp⟩
instance ANh:t6 k9 (λx=>0<=x.2.2.1/\x.2.2.1<=3) (λ_ r=>0<=r/\r<=4):=⟨by unfold k9;exact tp⟩
instance ANi:t6 kA (λx=>x<=999999999999999999) (λ_ r=>r.length<=30):=⟨by unfold kA;exact tp⟩
instance ANj:t6 kB (λx=>x.length<=1000) (λ_ r=>r.length<=3000):=⟨by unfold kB;exact tp⟩
instance ANk:t6 kC (λx=>(x.2.2=true->0<=x.1.2.2.2.2.2.1/\x.1.2.2.2.2.2.1<=999999999999999999)/\x.2.1.length<=10000000) (λx r=>r.1=x.1/\r.2.length<=x.2.1.length+30):=⟨by unfold kC;exact tp⟩
def pN(x:Int×(KX Int)×Int×Int×Int×Int×(KX DO))(h:P8 x):Z1 (QO x) (λr:DO=>r.length<=10000000):=by unfold QO;obtain⟨j,l,m,p,w,y,z⟩:=h;refine DP.2 ((LJ.1 _ j).mono λM E=>?_);refine DP.2 ((A84.1 _ l).mono λN d=>?_);refine DP.2 ((A86 _ ⟨λn B=>DP.2 ((ANg.1 n (d.2 n B)).mono λr b=>DQ.2 b),d.1,oh⟩).mono λO G=>?_);refine DP.2 (FX.2 ⟨oa,?_⟩);refine DP.2 ((ANh.1 _ m).mono λQ H=>?_);refine DP.2 ((KP.1 _ trivial).mono λR I=>?_);refine DP.2 ((LJ.1 _ p).mono λT J=>?_);refine DP.2 (FX.2 ⟨oa,?_⟩);refine DP.2 ((ANi.1 _ w.2).mono λU K=>?_);refine DP.2 (FX.2 ⟨oc,?_⟩);refine DP.2 (FX.2 ⟨oc,?_⟩);refine DP.2 ((ANk.1 _ ⟨λA=>⟨AC A,y.2⟩,oc⟩).mono λC a=>?_);simp only[AL]at a;refine DR.2 ⟨λ_=>DP.2 (FX.2 ⟨ot,DQ.2 ot⟩),λ_=>?_⟩;refine DP.2 (FX.2 ⟨ot,?_⟩);refine DP.2 ((A87 _ ⟨λs L=>DP.2 ((ANj.1 s (z.2 s oc)).mono λr b=>DQ.2 b),oc,oh⟩).mono λD e=>?_);grind[DP,FX,DQ]
instance:t6 aQ (λ_=>True) (λ_ r=>r.length=5):=⟨by unfold aQ;exact tp⟩
instance:t6 kE (λx=>tl x.2.2.2 x.2.2.1 x.1.length) (λx r=>∀y,r=.inr y->0<=y/\y<x.1.length):=ti (λx y=>y.1=x.1) (λy=>(y.2.2.1-y.2.2.2).toNat) (by unfold kD;exact tp)
instance A89:t6 UA (λx=>x.1.length<=1048576) (λx r=>-1<=r/\r<x.1.length):=⟨by unfold UA;exact tp⟩
def A0s(x:(KX DO)×DO)(h:x.1.length<=1048576):Z1 (L1 x) (λr:X5=>True):=by
 obtain⟨s,a⟩:=x;try dsimp only at h ⊢
 unfold L1
 repeat' first
  |(with_reducible first|refine DP.2 ?_|refine DQ.2 ?_|refine(A89.1 _ ?_).mono λ_ _=>?_)
  |dsimp only
 assumption
instance:t6 L1 (λx=>x.1.length<=1048576) (λ_ r=>True):=⟨A0s⟩
instance:t6 WN (λ_=>True) (λ_ _=>True):=⟨by unfold WN;exact tp⟩
instance:t6 aR (λx=>x.2.1.length<=5000/\0<=x.2.2/\x.2.2<=999999999999999999) (λ_ r=>r.length<=6000):=⟨by unfold aR;exact tp⟩
instance:t6 xR (λx=>tl x.2.2.2.2 x.2.2.2.1 x.2.2.1.length/\x.1.length<=7000*x.2.2.2.2/\0<=x.2.1/\x.2.1<=x.2.2.2.2/\x.2.2.2.1<=1002/\(∀t∈x.2.2.1,t.2.1.length<=5000/\0<=t.2.2/\t.2.2<=999999999999999999)) (λ_ r=>r.length<=7014000):=ti (λ_ _=>True) (λy=>(y.2.2.2.1-y.2.2.2.2).toNat) (by unfold A5N;exact tp)
instance pO:t6 QP (λx=>TS x) (λ_ r=>r.length<=10000000):=⟨by unfold QP;exact tp⟩
instance pP:t6 QQ (λx=>0<=x/\x<=999999999999999999) (λ_ r=>r.length<=10000000):=⟨by unfold QQ;exact tp⟩
instance ANo:t6 WO (λx=>x.2.length<=1048576) (λ_ r=>r.1.length<=10000000):=⟨λx h=>by
 unfold WO;refine DP.2 ((UR.1 _ h).mono λd e=>?_);refine DR.2 ⟨λ_=>DQ.2 oh,λb=>?_⟩;have h0:d.2=0:=by rw[DX]at b;simpa using b
 have a:=e h0;revert a;generalize d.1=v;intro a;refine DP.2 (Z1.mono (P:=λr:DO=>r.length<=10000000) ?_ λl j=>DQ.2 j)
 .rcases v with x|x|x|x|x|x
  .exact DP.2 ((pL _ a).mono λ_ h=>DQ.2 oa)
  .exact DP.2 ((pM.1 _ a).mono λ_ h=>DQ.2 oa)
  .exact DP.2 ((pN _ a).mono λ_ h=>DQ.2 oa)
  .exact DP.2 ((pO.1 _ a).mono λ_ h=>DQ.2 oa)
  .exact DP.2 ((pP.1 _ a).mono λ_ h=>DQ.2 oa)
  .exact a.elim⟩
instance:t6 gV (λx=>tl x.2.2.2 x.2.2.1 x.2.1.length) (λ_ _=>True):=ti (λ_ _=>True) (λy=>(y.2.2.1-y.2.2.2).toNat) (by unfold gU;exact tp)
instance:t6 SF (λx=>x.length<=1048576) (λ_ _=>True):=⟨by unfold SF;exact tp⟩
instance ANr:t6 kL (λ_=>True) (λ_ _=>True):=⟨by unfold kL;exact tp⟩
instance ANs:t6 yE (λx=>0<=x.2.2.2.2/\x.2.2.2.2<=x.2.2.2.1/\x.2.2.2.1=x.2.2.1.length/\x.2.2.2.1<=281474976710656/\x.2.1.length<=x.2.2.2.2/\(∀m∈x.2.1,m.2.2.1.length<=100)/\(∀v∈x.2.2.1,v.2.length<=1048576/\1<=v.1/\v.1<=3)/\x.2.2.2.1<=100) (λ_ r=>r.length<=100/\∀m∈r,m.2.2.1.length<=100):=ti (λ_ _=>True) (λy=>(y.2.2.2.1-y.2.2.2.2).toNat) (by unfold A5_;exact tp)
def ANt(x:DO×Int×JS×(KX DO)×(KX DO))(h:P9 x/\AfK x):Z1 (kM x) (λr:KX E1=>r.length<=100/\∀m∈r,m.2.2.1.length<=100):=by unfold kM;obtain⟨b,j,d,l⟩:=h;refine DP.2 ((ANs.1 _ ⟨AV _,BE _,rfl,oc,oh,oh,λv a=>⟨b.2.2.1 v a,d v a⟩,oc⟩).mono λr p=>?_);refine DP.2 ((ANP.1 _ ⟨λc=>clo (ANr.1 c trivial),oc⟩).mono λs e=>DQ.2 ?_);grind
instance ANu:t6 yF (λx=>0<=x.2.2.2.2.2/\x.2.2.2.2.2<=x.2.2.2.2.1/\x.2.2.2.2.1=x.2.2.2.1.length/\x.2.2.2.2.1<=281474976710656/\x.1.length<=x.2.2.2.2.2/\(∀s∈x.1,H1 s)/\x.2.2.1.2.2.length<=100/\x.2.2.2.2.1<=100/\∀m∈x.2.2.2.1,m.2.2.1.length<=100) (λ_ r=>r.1.length<=100/\(∀s∈r.1,H1 s)/\r.2.2.2.2.length<=100):=ti (λ_ _=>True) (λy=>(y.2.2.2.2.1-y.2.2.2.2.2).toNat) (by unfold A5a;exact tp)
instance ANv:t6 kN (λx=>x.1.length<=100/\(∀s∈x.1,H1 s)/\x.2.1.2.2.length<=100) (λ_ r=>r.length<=101/\(∀s∈r,H1 s)):=⟨by unfold kN;exact tp⟩
instance ANw:t6 yG (λx=>0<=x.2.2.2.2/\x.2.2.2.2<=x.2.2.2.1/\x.2.2.2.1=x.2.2.1.length/\x.2.2.2.1<=281474976710656/\x.2.1.length<=101+x.2.2.2.2/\(∀s∈x.2.1,H1 s)/\x.2.2.2.1<=500/\∀m∈x.2.2.1,m.length<=1048576) (λ_ r=>r.length<=601/\(∀s∈r,H1 s)):=ti (λ_ _=>True) (λy=>(y.2.2.2.1-y.2.2.2.2).toNat) (by unfold A5b;exact tp)
def ANx(x:DO×Int×JS×(KX DO)×(KX DO))(h:P9 x/\AfK x):Z1 (kO x) (λr:KX (GN×GN)=>r.length<=601/\(∀s∈r,H1 s)):=by unfold kO;refine DP.2 ((ANt _ h).mono λr j=>?_);obtain⟨b,m,p,w⟩:=h;refine DP.2 ((ANu.1 _ ⟨AV _,BE _,rfl,oc,oh,oh,oh,oc,j.2⟩).mono λy d=>?_);refine DP.2 ((ANv.1 _ d).mono λz e=>?_);exact DP.2 ((ANw.1 _ ⟨AV _,BE _,rfl,oc,oc,e.2,oc,b.2.2.2.2.1⟩).mono λl a=>DQ.2 a)
instance ANy:t6 SH (λx=>x.2.2.2.length<=1048576) (λ_ r=>True):=⟨λx h=>by
 unfold SH;refine DR.2 ⟨λ_=>DR.2 ⟨λ_=>DQ.2 trivial,λ_=>DQ.2 trivial⟩,λ_=>?_⟩;refine DP.2 ((UR.1 _ h).mono λd e=>?_);refine DR.2 ⟨λ_=>DQ.2 trivial,λb=>?_⟩;have h0:d.2=0:=by rw[DX]at b;simpa using b
 have a:=e h0;revert a;generalize d.1=v;intro a;refine DP.2 (Z1.mono (P:=λr:DO=>r.length<=10000000) ?_ λl j=>?_)
 .rcases v with x|x|x|x|x|x
  .exact DP.2 ((A0n _ a).mono λ_ h=>DQ.2 oa)
  .exact DP.2 ((A0o.1 _ a).mono λ_ h=>DQ.2 oa)
  .exact DP.2 ((A0p.1 _ a).mono λ_ h=>DQ.2 oa)
  .exact DP.2 ((A0q _ a).mono λ_ h=>DQ.2 oa)
  .simp_all[DP,A0r,trivial,DQ]
  .exact a.elim
 refine DR.2 ⟨λ_=>DQ.2 trivial,λ_=>?_⟩;refine DP.2 (Z1.mono (P:=λr:DO=>r.length<=10000000) ?_ λl j=>DQ.2 trivial)
 .rcases v with x|x|x|x|x|x
  .exact DP.2 ((pL _ a).mono λ_ h=>DQ.2 oa)
  .exact DP.2 ((pM.1 _ a).mono λ_ h=>DQ.2 oa)
  .exact DP.2 ((pN _ a).mono λ_ h=>DQ.2 oa)
  .exact DP.2 ((pO.1 _ a).mono λ_ h=>DQ.2 oa)
  .exact DP.2 ((pP.1 _ a).mono λ_ h=>DQ.2 oa)
  .exact a.elim⟩
instance A8B:t6 aU (λx=>x.1.2.2.length<=100) (λ_ r=>r.2.2.2.length<=100):=⟨by unfold aU;exact tp⟩
instance A8C:t6 aV (λx=>x.1.2.2.length<=100) (λ_ r=>r.2.2.2.length<=100):=⟨by unfold aV;exact tp⟩
instance:t6 kP (λx=>x.1.1.2.2.2.length<=100/\x.2.1=0) (λx r=>r.1=x.1/\0<=r.2/\r.2<=1000000000000000000):=⟨by unfold kP;exact tp⟩
instance AO0:t6 kQ (λx=>x.1.2.2.2.length<=100/\x.2.2.2.2.length<=100) (λ_ r=>0<=r.1/\r.2.1<=999999999999999999/\(r.2.2=true->r.1<=r.2.1)):=⟨by unfold kQ;exact tp⟩
instance AO1:t6 kR (λx=>0<=x.1/\x.1<=999999999999999999/\x.2.1.2.2.2.length<=100) (λ_ r=>r.2.2.2.length<=100):=⟨by unfold kR;exact tp⟩
instance AO2:t6 yH (λx=>0<=x.2.2.2.2/\x.2.2.2.2<=x.2.2.2.1/\x.2.2.2.1=x.2.2.1.length/\x.2.2.2.1<=281474976710656/\x.1.length<=x.2.2.2.2/\(∀s∈x.1,H_ s)/\(∀s∈x.2.2.1,H_ s)/\x.2.2.2.1<=1048576/\ -2<=x.2.1/\x.2.1<=999999999999999999) (λ_ r=>r.length<=1048576/\∀s∈r,H_ s):=⟨λx h=>by
 refine EV (R:=λr:List JD=>r.length<=1048576/\∀s∈r,H_ s) (λy:(List JD)×Int×(List JD)×Int×Int=>0<=y.2.2.2.2/\y.2.2.2.2<=y.2.2.2.1/\y.2.2.2.1=y.2.2.1.length/\y.2.2.2.1<=281474976710656/\y.1.length<=y.2.2.2.2/\(∀s∈y.1,H_ s)/\(∀s∈y.2.2.1,H_ s)/\y.2.2.2.1<=1048576/\ -2<=y.2.1/\y.2.1<=999999999999999999)
  (λy=>(y.2.2.2.1-y.2.2.2.2).toNat) ?_ _ _ h (by exact zb)
 rintro next ⟨out,e,l,n,i⟩ B b
 dsimp only at B b;obtain⟨i0,i1,j,m,T,p,d,w,M,N⟩:=B;unfold A5c;dsimp only;refine DR.2 ⟨λz=>?_,λz=>DQ.2 ⟨oa,p⟩⟩;have z:=AC z;rw[EJ (n:=i+1) oa oa,EJ (n:=e+1) oa oa];refine DP.2 (EL.2 ⟨⟨i0,oa⟩,λv L=>?_⟩);have A:=d v (PK L);refine DP.2 ((AO0.1 _ A).mono λV D=>?_);obtain⟨C,U,O⟩:=D;refine DR.2 ⟨λ_=>b _ ⟨oc,oc,j,m,oc,p,d,w,M,N⟩ oc,λI=>?_⟩;have K:=O (by simpa using I);refine DP.2 (Z1.mono (P:=λr:Edge=>r.2.2.2.length<=100) ((AO1.1 _ ⟨oa,oa,oh⟩)) λW E=>?_);by_cases J:(0:Int)<out.length
 .rw[EJ (n:=(out.length:Int)-1) oa oa];refine DR.2 ⟨λ_=>?_,λ_=>?_⟩
  .refine DP.2 (EY.2 ⟨⟨oa,oa⟩,?_⟩);refine b _ ⟨oc,oc,j,m,oc,λs a=>?_,d,w,oc,oa⟩ oc;dsimp only at a;rcases ED a with a|a
   .exact p s a
   .subst a;exact⟨(p _ (EC oa)).1,E⟩
  .refine DP.2 ((LJ.1 _ ⟨C,oa⟩).mono λQ G=>?_);refine DP.2 ((KP.1 _ trivial).mono λR H=>?_);refine DP.2 (FF.2 ⟨oc,?_⟩);refine b _ ⟨oc,oc,j,m,oc,λs a=>?_,d,w,oc,oa⟩ oc;grind
 .rw[A9 J,CU];simp only[A8];refine DP.2 ((LJ.1 _ ⟨C,oa⟩).mono λQ G=>?_);refine DP.2 ((KP.1 _ trivial).mono λR H=>?_);refine DP.2 (FF.2 ⟨oc,?_⟩);refine b _ ⟨oc,oc,j,m,oc,λs a=>?_,d,w,oc,oa⟩ oc;grind⟩
instance:t6 kS (λx=>(∀s∈x,H_ s)/\x.length<=1048576) (λ_ r=>r.length<=1048576/\∀s∈r,H_ s):=⟨by unfold kS;exact tp⟩
instance AO4:t6 kT (λx=>(∀s∈x.1,H_ s)/\x.1.length<=1048576) (λ_ r=>r.length<=1048576/\∀s∈r,H_ s):=⟨by unfold kT;exact tp⟩
instance:t6 kU (λx=>H_ x.1/\H1 x.2.1) (λx r=>r.1=x.1/\H1 r.2):=⟨by unfold kU;exact tp⟩
instance AO6:t6 yI (λx=>0<=x.2.2.2/\x.2.2.2<=x.2.2.1/\x.2.2.1=x.2.1.length/\x.2.2.1<=281474976710656/\x.1.2.length<=x.2.2.2/\x.2.2.1<=200/\(∀s∈x.2.1,H_ s)/\(∀s∈x.1.2,H1 s)) (λx r=>r.1=x.1.1/\r.2.length<=200/\∀s∈r.2,H1 s):=ti (λx y=>y.1.1=x.1.1) (λy=>(y.2.2.1-y.2.2.2).toNat) (by unfold A5d;exact tp)
theorem AO7(x:Int×(KX FK))(h:(∀s∈x.2,H_ s)/\x.2.length<=1048576):Z1 (kV x) (λr:(Int×FM)×Int=>r.1.2.length<=200/\∀s∈r.1.2,H1 s):=by
 obtain⟨a,l⟩:=x;try dsimp only at h ⊢
 unfold kV
 repeat' first
  |(with_reducible first|refine DR.2 ⟨λ_=>?_,λ_=>?_⟩|refine DP.2 ?_|refine DQ.2 ?_|refine(AO4.1 _ ?_).mono λ_ _=>?_|refine(AO6.1 _ ?_).mono λ_ _=>?_)
  |dsimp only
 all_goals exact qN
instance AO8:t6 yJ (λx=>0<=x.2.2.2.2.2/\x.2.2.2.2.2<=x.2.2.2.2.1/\x.2.2.2.2.1=x.2.2.2.1.length/\x.2.2.2.2.1<=281474976710656/\x.2.2.1.length<=x.2.2.2.2.2/\(∀s∈x.2.2.1,H_ s)/\x.2.2.2.2.1<=1048576/\(∀s∈x.2.2.2.1,H1 s)) (λ_ r=>(∀y,r=.inl y->y.2.length<=1048576/\∀s∈y.2,H_ s)/\∀y,r=.inr y->y.1.2=[]):=ti (λ_ _=>True) (λy=>(y.2.2.2.2.1-y.2.2.2.2.2).toNat) (by unfold A5e;exact tp)
def AO9(x:(KX FK)×(KX FK)×Int×Int)(h:0<=x.2.2.2/\x.2.2.2<=x.2.2.1/\x.2.2.1=x.2.1.length/\x.2.2.1<=281474976710656/\x.1.length<=x.2.2.2/\(∀s∈x.1,H_ s)/\x.2.2.1<=1048576/\(∀s∈x.2.1,H_ s)):Z1 (yK x) (λr:KX FK=>r.length<=1048576/\∀s∈r,H_ s):=by
 refine EV (R:=λr:KX JD=>r.length<=1048576/\∀s∈r,H_ s) (λy:(KX JD)×(KX JD)×Int×Int=>0<=y.2.2.2/\y.2.2.2<=y.2.2.1/\y.2.2.1=y.2.1.length/\y.2.2.1<=281474976710656/\y.1.length<=y.2.2.2/\(∀s∈y.1,H_ s)/\y.2.2.1<=1048576/\(∀s∈y.2.1,H_ s))
  (λy=>(y.2.2.1-y.2.2.2).toNat) ?_ _ _ h (by exact zb)
 rintro next ⟨out,l,n,i⟩ C j
 dsimp only at C j;obtain⟨i0,i1,z,A,J,d,B,m⟩:=C;unfold A5f;dsimp only;refine DR.2 ⟨λp=>?_,λp=>DQ.2 ⟨oa,d⟩⟩;have p:=AC p;rw[EJ (n:=i+1) oa oa];refine DP.2 (EY.2 ⟨⟨i0,oa⟩,?_⟩);have E:=m _ (EC (l:=l) (i:=i.toNat) (d:=((0,(([]:DO),(false,([]:DO)))),(0,(([]:DO),(false,([]:DO)))))) oa);generalize l.getD i.toNat ((0,(([]:DO),(false,([]:DO)))),(0,(([]:DO),(false,([]:DO)))))=v at E;have b:∀(Q:KX JD->Prop),Q (out++[v])->Z1 (app? 192 out [v]) Q:=λQ G=>FF.2 ⟨oc,G⟩;have w:Z1 (next (out++[v],l,n,i+1)) (λr:KX JD=>r.length<=1048576/\∀s∈r,H_ s):=by
  refine j _ ⟨oc,oc,z,A,oc,λs a=>?_,B,m⟩ oc;dsimp only at a;rcases AX.1 a with a|a
  .exact d s a
  .grind
 by_cases D:(out.length:Int)=0
 .have e:DT (out.length:Int) 0=true:=by rw[DX];exact A6 D
  rw[e];simp only[B7,A8,Bool.true_or,A4];grind[DP,DQ]
 .have e:DT (out.length:Int) 0=false:=by rw[DX];exact A9 D
  rw[e,EJ (n:=(out.length:Int)-1) oa oa];simp only[BJ,A4,C1];refine DP.2 (EY.2 ⟨⟨oa,oa⟩,?_⟩);refine DP.2 ((UQ.1 _ trivial).mono λH _=>?_);refine DR.2 ⟨λ_=>DP.2 (b _ w),λ_=>?_⟩;refine DP.2 (EY.2 ⟨⟨oa,oa⟩,?_⟩);refine DP.2 ((UQ.1 _ trivial).mono λI _=>?_);refine DR.2 ⟨λ_=>?_,λ_=>j _ ⟨oc,oc,z,A,oc,d,B,m⟩ oc⟩;refine DP.2 (EY.2 ⟨⟨oa,oa⟩,?_⟩);refine j _ ⟨oc,oc,z,A,oc,λs a=>?_,B,m⟩ oc;dsimp only at a;rcases ED a with a|a
  .exact d s a
  .subst a;exact⟨(d _ (EC oa)).1,E.2⟩
theorem AOA(x:Int×FM)(h:(∀s∈x.2,H1 s)/\x.2.length<=1048576):Z1 (kW x) (λr:(Int×FM)×Int=>r.1.2.length<=200/\∀s∈r.1.2,H1 s):=by
 unfold kW;obtain⟨e,A⟩:=h;refine DP.2 ((AO8.1 _ ⟨AV _,BE _,rfl,oc,oh,oh,oc,e⟩).mono λr b=>?_);rcases r with y|y
 .obtain⟨z,d⟩:=b.1 y rfl;refine DP.2 ((AMS y.2).mono λp a=>?_);have m:=a.1.length_eq;refine DP.2 ((AO9 _ ⟨AV _,BE _,rfl,oc,oh,oh,oc,λs l=>d s (a.1.mem_iff.1 l)⟩).mono λw j=>?_);grind[DP,AO7,DQ]
 .have:=b.2 y rfl;grind[DQ]
instance A8D:t6 kX (λx=>P9 x) (λ_ r=>r.1.2.length<=200/\(∀s∈r.1.2,H1 s)):=⟨λx h=>by
 unfold kX;refine DP.2 ((ANb _ h).mono λd b=>?_);refine DR.2 ⟨λ_=>DQ.2 oh,λa=>?_⟩;have h0:d=0:=by rw[DX]at a;simpa using a
 refine DP.2 ((ANx _ ⟨h,b h0⟩).mono λj e=>?_);grind[DP,AOA,DQ]⟩
instance AOB:t6 vX (λx=>0<=x.2.2.2/\x.2.2.2<=x.2.2.1/\x.2.2.1=x.2.1.length/\x.2.2.1<=281474976710656/\(∀s∈x.2.1,s.length<=1048576)/\x.2.1=x.1.2.1) (λ_ r=>True):=⟨λx h=>by
 refine EV (R:=λr:Sum Unit Int=>True)
  (λy:FG×(List DO)×Int×Int=>0<=y.2.2.2/\y.2.2.2<=y.2.2.1/\y.2.2.1=y.2.1.length/\y.2.2.1<=281474976710656/\(∀v∈y.2.1,v.length<=1048576)/\y.2.1=y.1.2.1)
  (λy=>(y.2.2.1-y.2.2.2).toNat) ?_ _ _ h (by exact zb)
 rintro next ⟨a,l,n,i⟩ d j
 dsimp only at d j;obtain⟨i0,i1,z,A,w,B⟩:=d;unfold A4a;dsimp only;refine DR.2 ⟨λb=>?_,λb=>DQ.2 trivial⟩;have b:=AC b;rw[EJ (n:=i+1) oa oa,EJ oa oa];refine DP.2 (EL.2 ⟨⟨i0,oa⟩,λv m=>?_⟩);have p:=w v (PK m);refine DP.2 ((oY.1 _ oa).mono λr _=>?_);refine DR.2 ⟨λ_=>DQ.2 trivial,λ_=>?_⟩;refine DR.2 ⟨λ_=>DQ.2 trivial,λ_=>?_⟩;refine DP.2 (Z1.mono (P:=λ_=>True) (DR.2 ⟨λe=>?_,λ_=>DQ.2 trivial⟩) λC _=>?_)
 .have e:=AC e;exact EL.2 ⟨⟨oa,oc⟩,λ_ _=>trivial⟩
 .refine DR.2 ⟨λ_=>DQ.2 trivial,λ_=>?_⟩;grind⟩
instance A8E:t6 gZ (λx=>∀s∈x.2.1,s.length<=1048576) (λ_ _=>True):=⟨by unfold gZ;exact tp⟩
instance A8F:t6 g_ (λ_=>True) (λ_ r=>r.length=6):=⟨by unfold g_;exact tp⟩
instance AOC:t6 hY (λx=>0<=x.2.2.2/\x.2.2.2<=6/\x.2.2.1.length=6/\x.1.length=6) (λ_ _=>True):=ti (λ_ _=>True) (λy=>(6-y.2.2.2).toNat) (by unfold vY;exact tp)
instance A8G:t6 U4 (λ_=>True) (λ_ r=>True):=⟨λx h=>by
 unfold U4
 repeat' first
  |(with_reducible first|refine DR.2 ⟨λ_=>?_,λ_=>?_⟩|refine DP.2 ?_|refine DQ.2 ?_|refine(A8F.1 _ ?_).mono λ_ _=>?_|refine(AOC.1 _ ?_).mono λ_ _=>?_|refine o_.2 ⟨?_,?_⟩)
  |split
  |dsimp only
 all_goals exact qN⟩
instance AOD:t6 WQ (λ_=>True) (λx r=>∀y,r=.inl y->y=x.1):=⟨by unfold WQ;exact tp⟩
instance AOE:t6 WR (λx=>0<=x.2.2.2/\x.2.2.2<=x.2.2.1/\x.2.2.1=x.2.1.length/\x.2.2.1<=281474976710656/\x.2.2.1<=50/\x.1.length<=x.2.2.2/\∀z∈x.2.1,P9 z) (λ_ _=>True):=ti (λ_ _=>True) (λy=>(y.2.2.1-y.2.2.2).toNat) (by unfold yL;exact tp)
instance AOF:t6 NK (λx=>LI x) (λ_ r=>True):=⟨λx h=>by
 unfold NK
 repeat' first
  |(with_reducible first|refine DR.2 ⟨λ_=>?_,λ_=>?_⟩|refine DP.2 ?_|refine DQ.2 ?_|refine(oY.1 _ ?_).mono λ_ _=>?_|refine(A8E.1 _ ?_).mono λ_ _=>?_|refine(AOD.1 _ ?_).mono λ_ _=>?_|refine(AOE.1 _ ?_).mono λ_ _=>?_)
  |split
  |dsimp only
 all_goals grind[E8,E7,EB,E3,DX,EA,E9,E6,EC,ED,EN,EM,EP,EO,EQ,ER,ES,LI]⟩
instance AOG:t6 UB (λx=>LI x) (λ_ _=>True):=⟨by unfold UB;exact tp⟩
def GO{α:Type}{l:KX α}{i:Nat}{a:α}(h:l[i]?=some a):l.take (i+1)=l.take i++[a]:=by rw[List.take_add_one,h];rfl
abbrev Rg:=Int×(KX b_)
noncomputable def cA(v:Vr):X1 DO:=(λz=>Sum.casesOn (motive:=λ_=>X1 DO) z (λx=>(QL x).bind λr=>some r) (λz=>Sum.casesOn (motive:=λ_=>X1 DO) z (λx=>(QN x).bind λr=>some r) (λz=>Sum.casesOn (motive:=λ_=>X1 DO) z (λx=>(QO x).bind λr=>some r) (λz=>Sum.casesOn (motive:=λ_=>X1 DO) z (λx=>(QP x).bind λr=>some r) (λz=>Sum.casesOn (motive:=λ_=>X1 DO) z (λx=>(QQ x).bind λr=>some r) (λ_=>none)))))) v
def A8H{v:Vr}(a:MQ v):Z1 (cA v) (λ_=>True):=by
 unfold cA;rcases v with x|x|x|x|x|x
 .exact DP.2 ((pL _ a).mono λ_ h=>DQ.2 trivial)
 .exact DP.2 ((pM.1 _ a).mono λ_ h=>DQ.2 trivial)
 .exact DP.2 ((pN _ a).mono λ_ h=>DQ.2 trivial)
 .exact DP.2 ((pO.1 _ a).mono λ_ h=>DQ.2 trivial)
 .exact DP.2 ((pP.1 _ a).mono λ_ h=>DQ.2 trivial)
 .exact a.elim
def Vs(k:Int)(w:DO)(v:Vr)(s:DO):Prop:=KN (k,w)=some (v,0)/\cA v=some s
def AOH{k:Int}{w:DO}{v:Vr}(e:w.length<=1048576)(h:KN (k,w)=some (v,0)):∃s,Vs k w v s:=by have⟨r,a,b⟩:=UR.1 (k,w) e;rw[h]at a;cases a;have⟨s,d,_⟩:=A8H (b rfl);exact⟨s,h,d⟩
def AOI{k:Int}{w:DO}{v:Vr}{s:DO}(h:Vs k w v s):WO (k,w)=some (s,0):=by show((KN (k,w)).bind λa=>bif (!(DT a.2 (0:Int)))then some (([]:DO),a.2)else(cA a.1).bind λb=>some (b,(0:Int)))=_;rw[h.1];simp only[A0,DX,decide_true,B7,A8];rw[h.2];rfl
noncomputable def ky(k:Int)(w:DO):DO:=((WO (k,w)).getD ([],0)).1
def AOJ{k:Int}{w:DO}{v:Vr}{s:DO}(h:Vs k w v s):ky k w=s:=by unfold ky;rw[AOI h];rfl
def Ok(k:Int)(w:DO):Prop:=∃v,Vs k w v (ky k w)
def AOK{k:Int}{w:DO}{v:Vr}{s:DO}(h:Vs k w v s):Ok k w:=⟨v,by rw[AOJ h];exact h⟩
def AOL(k:Int)(w:DO)(b:w.length<=1048576):Z1 (b9 (k,w)) (λr=>r=0->Ok k w):=by unfold b9;dsimp only;have⟨⟨v,e⟩,h,j⟩:=UR.1 (k,w) b;rw[h];refine DP.2 (DQ.2 (DQ.2 λa=>?_));dsimp only at a;subst a;have⟨s,d⟩:=AOH b h;exact AOK d
def AOM(s:b_)(b:KX JD)(m:H1 s)(a:∀x∈b,H_ x)(j:b.length<=1048576):Z1 (mB (s,b)) (λ_=>True):=by unfold mB;dsimp only;refine DR.2 ⟨λ_=>DQ.2 trivial,λ_=>DR.2 ⟨λh=>?_,λ_=>DQ.2 trivial⟩⟩;have h:=AC h;rw[EJ (n:=(b.length:Int)-1) oa oa];refine DP.2 ((M8.1 _ oa).mono λr l=>DP.2 (EL.2 ⟨⟨oa,oa⟩,λy e=>?_⟩));refine DP.2 ((M8.1 _ (by have:=(a y (PK e)).2;omega)).mono λp d=>?_);simp_all[DR,DQ,trivial]
def AON(l:KX JD)(k:DO)(m:l.length<=1048576):Z1 (bB (l,k)) (λ_=>True):=by
 unfold bB zA;dsimp only;refine DP.2 (DP.2 (Z1.mono (P:=λ_=>True) ?_ λq _=>by rcases q with y|y<;>exact DQ.2 (DQ.2 trivial)));generalize b:(λx:JD=>(mC (x,(some ((0:Int),(k,(false,([]:DO))))))).bind λr=>some r)=f
 have d:∀x,Z1 (f x) λ_=>True:=by intro x;subst b;unfold mC;dsimp only;refine DP.2 (DP.2 (DQ.2 (DP.2 ((UQ.1 _ trivial).mono λA _=>?_))));refine DP.2 (Z1.mono (P:=λ_=>True) (DR.2 ⟨λ_=>DQ.2 trivial,λ_=>DQ.2 trivial⟩) λz _=>?_);exact DP.2 (Z1.mono (P:=λ_=>True) (DR.2 ⟨λ_=>UQ.1 _ trivial,λ_=>DQ.2 trivial⟩) λB _=>DQ.2 (DQ.2 trivial))
 clear b
 refine EV (R:=λ_:Sum Unit Int=>True) (λy:(KX JD)×(JD->X1 X5)×Int×Int=>y.1=l/\y.2.1=f/\y.2.2.1=l.length/\0<=y.2.2.2/\y.2.2.2<=l.length)
  (λy=>((l.length:Int)-y.2.2.2).toNat) ?_ _ _ ⟨rfl,rfl,rfl,AV _,BE _⟩ (by exact zb)
 rintro next ⟨w,j,n,i⟩ a e
 dsimp only at a e;obtain⟨rfl,rfl,rfl,i0,i1⟩:=a;unfold A6G;dsimp only;refine DR.2 ⟨λh=>?_,λh=>DQ.2 trivial⟩;have h:=AC h;rw[EJ (n:=i+1) oa oa];refine DP.2 (EL.2 ⟨⟨i0,h⟩,λs p=>?_⟩);refine DP.2 ((d s).mono λr _=>DR.2 ⟨λ_=>DQ.2 trivial,λ_=>?_⟩);grind
noncomputable def QJ(L:KX JD)(k:Int)(w:DO):X5:=decide (0<=(bB (L,ky k w)).getD 0)
abbrev Bs:=Int×(KX FG)×(KX Int)
noncomputable def MS(a:FG):Int:=(UB a).getD 1
def A8I{a:FG}(h:LI a):UB a=some (MS a):=by have⟨r,b,_⟩:=AOG.1 a h;grind[MS]
def okR(l:KX FG)(i:Nat):Prop:=∀a,l[i]?=some a->MS a=0/\(0<i->∀a',l[i-1]?=some a'->a'.1<a.1)
def XI(b:Bs)(i:Nat):Prop:=okR b.2.1 i/\∀s,b.2.2[i]?=some s->0<=s/\s<=b.1
theorem pQ(a b:DO):(Op.bytesLess a b||DU a b)= !decide (b<a):=by grind[A7s,E3,pG,pH,MR]
def AOO(b:Bs)(Z:∀a∈b.2.1,LI a)(hl:b.2.2.length=b.2.1.length)(hm:b.2.1.length<=2000):
 Z1 (yM (b,b.2.1,(b.2.1.length:Int),0)) (λr=>(∀u,r=.inl u->∀j,j<b.2.1.length->XI b j)/\∀e,r=.inr e->e≠0/\¬∀j,j<b.2.1.length->XI b j):=by
 refine EV (R:=λr:Sum Unit Int=>(∀u,r=.inl u->∀j,j<b.2.1.length->XI b j)/\∀e,r=.inr e->e≠0/\¬∀j,j<b.2.1.length->XI b j)
  (λy:Bs×(KX FG)×Int×Int=>y.1=b/\y.2.1=b.2.1/\y.2.2.1=b.2.1.length/\0<=y.2.2.2/\y.2.2.2<=b.2.1.length/\∀j:Nat,(j:Int)<y.2.2.2->XI b j)
  (λy=>((b.2.1.length:Int)-y.2.2.2).toNat) ?_ _ _ ⟨rfl,rfl,rfl,AV _,BE _,λj L=>oc⟩ (by exact zb)
 rintro next ⟨I,l,n,i⟩ R U
 dsimp only at R U;obtain⟨rfl,rfl,rfl,i0,i1,i2⟩:=R;unfold A5g;dsimp only;refine DR.2 ⟨λG=>?_,λG=>DQ.2 ⟨λu _ j L=>?_,λe m=>(by cases m)⟩⟩
 .have G:=AC G;rw[EJ (n:=i+1) oa oa,EJ oa oa];refine DP.2 (EL.2 ⟨⟨i0,G⟩,λa K=>?_⟩);rw[A8I (Z a (PK K))];refine DP.2 (DQ.2 ?_);have A:i.toNat<I.2.1.length:=oa;refine DR.2 ⟨λm=>DQ.2 ⟨λu C=>(by cases C),λe d=>?_⟩,λm=>?_⟩
  .cases d;rw[DX]at m;have m:¬MS a=0:=by simpa using m
   exact⟨m,λh=>m ((h i.toNat A).1 a K).1⟩
  have hk:MS a=0:=by rw[DX]at m;simpa using m
  refine DP.2 (Z1.mono (P:=λH:FG=>0<i->I.2.1[i.toNat-1]?=some H) (DR.2 ⟨λx=>?_,λx=>DQ.2 λh0=>absurd h0 (AI x)⟩) λH Q=>?_)
  .have x:=AC x;refine EL.2 ⟨⟨oa,oa⟩,λw hw _=>?_⟩;simp_all
  rw[pQ];refine DR.2 ⟨λp=>DQ.2 ⟨λu C=>(by cases C),λe d=>?_⟩,λp=>?_⟩
  .cases d;have O:=CY.1 p;have x:=AC O.1;have N:¬H.1<a.1:=by simpa using O.2
   exact⟨oi,λh=>N (((h i.toNat A).1 a K).2 oa H (Q x))⟩
  have T:0<i.toNat->∀E,I.2.1[i.toNat-1]?=some E->E.1<a.1:=by intro x E z;have D:0<i:=oa;rw[Q D]at z;cases z;rw[A6 D,BU]at p;simpa using p
  refine DP.2 (EL.2 ⟨⟨i0,oa⟩,λs hs=>?_⟩);refine DP.2 (Z1.mono (P:=λV:Int=>0<=s->V=s) (DR.2 ⟨λx=>EL.2 ⟨⟨i0,oa⟩,λw hw _=>?_⟩,λx=>DQ.2 λh0=>?_⟩) λV Y=>?_)
  .grind
  .grind
  refine DR.2 ⟨λB=>DQ.2 ⟨λu C=>(by cases C),λe d=>?_⟩,λB=>?_⟩
  .cases d;refine⟨oi,λh=>?_⟩;have J:=(h i.toNat A).2 s hs;grind
  .have J:=BQ.1 B;have h9:=AI J.1;have W:=AI J.2;have X:=Y oa;refine U _ ⟨rfl,rfl,rfl,oc,oc,λj L=>?_⟩ oc;dsimp only at L;by_cases M:(j:Int)<i
   .exact i2 j M
   .have:j=i.toNat:=oa;subst this;refine⟨λE z=>?_,λs' h1=>?_⟩<;>grind
 grind
def BB(b:Bs):Prop:=∀a∈b.2.1,LI a
def XJ(b:Bs):Prop:=(0<=b.1/\b.1<=1000000000)/\b.2.1.length<=2000/\b.2.2.length=b.2.1.length/\∀j,j<b.2.1.length->XI b j
def A8J(b:Bs)(p:BB b):Z1 (WS b) (λr=>r=0<->XJ b):=by
 unfold WS XJ;refine DR.2 ⟨λh=>DQ.2 ⟨λh0=>absurd h0 oi,λhk=>?_⟩,λl=>?_⟩
 .simp at h;omega
 have a:=BQ.1 l;have s:=AI a.1;have w:=AI a.2;refine DR.2 ⟨λh=>DQ.2 ⟨λh0=>absurd h0 oi,λhk=>?_⟩,λm=>?_⟩
 .grind
 have x:=AI m;refine DR.2 ⟨λh=>DQ.2 ⟨λh0=>absurd h0 oi,λhk=>?_⟩,λj=>?_⟩
 .grind[DX]
 have e:b.2.2.length=b.2.1.length:=by
  rw[DX]at j;have:((b.2.2.length:Nat):Int)=b.2.1.length:=by simpa using j
  omega
 refine DP.2 ((AOO b p e oa).mono λr d=>?_);rcases r with r|r
 .exact DQ.2 ⟨λ_=>⟨oa,oa,e,d.1 r rfl⟩,λ_=>rfl⟩
 .exact DQ.2 ⟨λh0=>absurd h0 (d.2 r rfl).1,λhk=>absurd hk.2.2.2 (d.2 r rfl).2⟩
end Go.Ev.Pv
