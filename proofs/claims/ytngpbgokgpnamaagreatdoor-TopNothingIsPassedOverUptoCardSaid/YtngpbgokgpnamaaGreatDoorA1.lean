/-
  The law as plain Lean, first part: that there are answers: names, versions, ranges, advisories.
-/
import Derived.Test.YtngpbgokgpnamaaGreatDoorD
import Derived.Sort.AssemblyPlain
set_option linter.all false
set_option maxRecDepth 1000000
set_option maxHeartbeats 16000000
open Go.IntKind hiding min max bits signed
namespace Go.Ev
theorem EL{α:Type}{a:α}{l:List α}:(a::l).length=l.length+1:=BL
theorem EN{α:Type}:([]:List α).length=0:=C4
theorem EO{α:Type}{a:α}{i:Nat}{l:List α}(h:a∈l.take i):a∈l:=List.mem_of_mem_take h
theorem EP{α:Type}{a:α}{i:Nat}{l:List α}(h:a∈l.drop i):a∈l:=List.mem_of_mem_drop h
def Tot{α:Type}(m:Option α)(Q:α->Prop):Prop:=∃x,m=some x/\Q x
section
variable{α β:Type}{m n:Option α}{P Q:α->Prop}
def Tot.mono(h:Tot m P)(k:∀x,P x->Q x):Tot m Q:=let ⟨x,h1,h2⟩:=h;⟨x,h1,k x h2⟩
theorem DN{x:α}:Tot (some x) Q<->Q x:=⟨λ⟨_,h1,a⟩=>A2 h1▸a,λh=>⟨x,rfl,h⟩⟩
theorem DM{f:α->Option β}{R:β->Prop}:Tot (m.bind f) R<->Tot m λx=>Tot (f x) R:=by
 constructor
 .rintro⟨y,h1,h⟩;have⟨x,a,b⟩:=B6.1 h1;exact⟨x,a,y,b,h⟩
 .rintro⟨x,rfl,y,h1,h⟩;exact⟨y,h1,h⟩
def DO{b:Bool}:Tot (bif b then m else n) Q<->(b=true->Tot m Q)/\(b=false->Tot n Q):=by
 cases b
 .exact⟨λh=>⟨λe=>(by cases e),λ_=>h⟩,λh=>h.2 rfl⟩
 .exact⟨λh=>⟨λ_=>h,λe=>(by cases e)⟩,λh=>h.1 rfl⟩
theorem EV{n:Nat}{i:Int}{Q:Unit->Prop}:Tot (in? n i) Q<->(0<=i/\i<n)/\Q ():=by
 unfold in? Tot;by_cases h1:0<=i<;>by_cases a:i<n<;>simp[h1,a]
 exact⟨λ⟨_,h⟩=>h,λh=>⟨(),h⟩⟩
theorem FU{a b:DL}{Q:DL->Prop}:Tot (cat? a b) Q<->a.length+b.length<=281474976710656/\Q (a++b):=by unfold cat? Tot;by_cases h:a.length+b.length<=281474976710656<;>simp[h]
theorem F6{B:Nat}{a b:List α}{Q:List α->Prop}:Tot (app? B a b) Q<->(a.length+b.length)*B<=70368744177664/\Q (a++b):=by unfold app? Tot;by_cases h:(a.length+b.length)*B<=70368744177664<;>simp[h]
theorem I8{l:List α}{lo hi:Int}{Q:List α->Prop}:Tot (cut? l lo hi) Q<->(0<=lo/\lo<=hi/\hi<=l.length)/\Q ((l.take hi.toNat).drop lo.toNat):=by unfold cut? Tot;by_cases h1:0<=lo<;>by_cases h:lo<=hi<;>by_cases a:hi<=l.length<;>simp[h1,h,a]
def AKB{l:List α}{i:Int}{Q:α->Prop}(h1:0<=i)(b:i<l.length)(a:∀x,x∈l->l[i.toNat]?=some x->Q x):Tot (at? l i) Q:=by have h:i.toNat<l.length:=oa;refine⟨l[i.toNat],?_,a _ (AL h) (A1 h)⟩;unfold at?;rw[A7 h1];exact A1 h
def EI{l:List α}{i:Int}{Q:α->Prop}:Tot (at? l i) Q<->(0<=i/\i<l.length)/\∀x,l[i.toNat]?=some x->Q x:=by
 constructor
 .rintro⟨x,h1,h⟩;unfold at? at h1;by_cases h0:0<=i
  .rw[A7 h0]at h1;have h1:l[i.toNat]?=some x:=h1;have d:=(A3.1 h1).1;exact⟨⟨h0,oa⟩,λy a=>by rw[h1]at a;cases a;exact h⟩
  .rw[A9 h0]at h1;cases h1
 .rintro⟨⟨h1,h⟩,b⟩;exact AKB h1 h λx _ e=>b x e
def IN:Tot m (λ_=>True)<->∃x,m=some x:=⟨λ⟨x,h,_⟩=>⟨x,h⟩,λ⟨x,h⟩=>⟨x,h,trivial⟩⟩
def ES{r:(α->Option β)->α->Option β}{R:β->Prop}(I:α->Prop)(a:α->Nat)(h:∀next x,I x->(∀y,I y->a y<a x->Tot (next y) R)->Tot (r next x) R):
 ∀(k:Nat) (x:α),I x->a x<k->Tot (DX r k x) R:=by
 intro k;induction k with
 |zero=>intro x _ h;omega
 |succ k e=>intro x b hk;exact h _ x b λy d j=>e y d oa
theorem EH{n:Int}(h1:-9223372036854775808<=n)(h:n<=9223372036854775807):i64.wrap n=n:=by simp only[IntKind.wrap,IntKind.bits,IntKind.signed];simp;omega
def A05{n:Int}(h1:0<=n)(h:n<=255):u8.wrap n=n:=by simp only[IntKind.wrap,IntKind.bits,IntKind.signed];simp;omega
def AKC(n:Int):0<=u8.wrap n/\u8.wrap n<=255:=by simp only[IntKind.wrap,IntKind.bits,IntKind.signed];simp;omega
end
end Go.Ev
namespace Go.Ev.Pv
theorem E5{n:Int}:-9223372036854775808<=n->n<=9223372036854775807->i64.wrap n=n:=λh1 h=>EH h1 h
theorem E3(b:UInt8):b.toNat<=255:=by have:=b.toNat_lt;omega
theorem E6{n:Int}:0<=n->n<=255->u8.wrap n=n:=λh1 h=>A05 h1 h
theorem E7(n:Int):0<=u8.wrap n/\u8.wrap n<=255:=AKC n
theorem E8(s:DL):(FY s).length=s.length:=by simp[FY]
theorem E4(s:List Int):(IR s).length=s.length:=by simp[IR]
theorem E0(s t:DL):DQ s t=decide (s=t):=by grind[DQ]
theorem DT(s t:Int):DP s t=decide (s=t):=by rfl
abbrev th(a b:Int)(n:Nat):Prop:=0<=a/\a<=b/\b=n/\b<=281474976710656
class t6{α β:Type}(f:α->Option β)(P:outParam (α->Prop))(Q:outParam (α->β->Prop)):Prop where h:∀x,P x->Tot (f x) (Q x)
theorem t7{α β:Type}{f:α->Option β}{P Q}[i:t6 f P Q]{x:α}{R:β->Prop}(h:P x)(k:∀r,Q x r->R r):Tot (f x) R:=(i.h x h).mono k
theorem td{α β:Type}{s:(α->Option β)->α->Option β}{n:Nat}{P Q}(K:α->α->Prop)(m:α->Nat)(h:∀next x y,P x->P y->K x y->[t6 next (λz=>(P z/\K x z)/\m z<m y) (λ_=>Q x)]->Tot (s next y) (Q x))(d:∀x,P x->K x x/\m x<n:=by
 intros;try dsimp only at *
 exact⟨by grind,by unfold fuel;grind⟩):t6 (DX s n) P Q:=
 ⟨λx a=>ES (λy=>P y/\K x y) m (λn y b g=>@h n x y a b.1 b.2 ⟨λz e=>g z e.1 e.2⟩) _ _ ⟨a,(d x a).1⟩ (d x a).2⟩
instance bP:t6 strings_IndexByte (λx=>x.1.length<=1048576) (λ_ r=>-1<=r):=⟨λx h=>by grind[strings_IndexByte,IT,decide_eq_true,DN,Lib.indexByte_ge]⟩
def A06(sep:DL)(m:Nat):∀x:List DL,(∀s∈x,s.length<=m)->(Lib.join x sep).length<=x.length*(m+sep.length):=by
 intro x;induction x with
 |nil=>intro _;simp[Lib.join,List.intercalate]
 |cons a r d=>intro h;have h1:=h a AE;have e:=d λs b=>h s (AN _ b);cases r<;>grind[Lib.join,List.intercalate,List.intersperse,List.length_append,EL,Nat.add_mul]
theorem AKD{xs:List DL}(h1:xs.length<=1048577)(a:∀s∈xs,s.length<=1048576):(Lib.join xs [47]).length<=1099513724929:=by have h:=A06 [47] 1048576 xs a;grind
def X0(x:(List DL)×DL)(h:x.1.length<=140737488355328/\(Lib.join x.1 x.2).length<=140737488355328):Tot (strings_Join x) (λr=>r=Lib.join x.1 x.2):=by unfold strings_Join IT;rw[A7 h];exact DN.2 rfl
def qM{p:Prop}(h:p:=by grind[E5,E4,E8,E0,DT,E7,E6,E3]):p:=h
theorem t8{p:Prop}(h:p:=by
 intros;try dsimp only at *
 repeat' first
  |(with_reducible first|refine DO.2 ⟨λ_=>?_,λ_=>?_⟩|refine DM.2 ?_|refine DN.2 ?_|refine EI.2 ⟨?_,λ_ _=>?_⟩|refine EV.2 ⟨?_,?_⟩|refine I8.2 ⟨?_,?_⟩|refine FU.2 ⟨?_,?_⟩|refine F6.2 ⟨?_,?_⟩|refine t7 ?_ λ_ _=>?_|refine⟨λ_=>?_,?_⟩)
  |split
  |dsimp only
 all_goals grind[E5,E4,E8,E0,DT,E7,E6,E3,EL,EN,EO,EP]):p:=h
instance:t6 vD (λx=>th x.2.2 x.2.1 x.1.length) (λ_ _=>True):=td (λ_ _=>True) (λy=>(y.2.1-y.2.2).toNat) (by unfold A3r;exact t8)
instance oG:t6 VU (λx=>x.length<=1048576) (λ_ _=>True):=⟨by unfold VU;exact t8⟩
instance:t6 vG (λx=>th x.2.2 x.2.1 x.1.length) (λx r=>r.length=x.1.length):=td (λx y=>y.1.length=x.1.length) (λy=>(y.2.1-y.2.2).toNat) (by unfold A3t;exact t8)
instance:t6 TO (λx=>x.length<=1048576) (λx r=>r.length=x.length):=⟨by unfold TO;exact t8⟩
instance QI:t6 N9 (λ_=>True) (λx r=>r.1=x.1.1/\r.2.1=x.1.2.1/\(0<=x.2->0<=r.2.2)):=⟨by unfold N9;exact t8⟩
instance U5:t6 L6 (λx=>∃y,x=some y/\0<=y.2.1) (λx r=>0<=r/\(r=0\/∃y,x=some y/\y.2.1<y.1.length)):=⟨λx h=>by
 unfold L6;obtain⟨y,rfl,h⟩:=h
 repeat' first
  |(with_reducible first|refine DO.2 ⟨λ_=>?_,λ_=>?_⟩|refine DM.2 ?_|refine DN.2 ?_|refine EI.2 ⟨?_,λ_ _=>?_⟩)
  |dsimp only
 all_goals exact qM⟩
instance A6e:t6 ZM (λ_=>True) (λ_ _=>True):=⟨by unfold ZM;exact t8⟩
instance:t6 vH (λx=>0<=x.2/\x.2<=(4:Int)/\(4:Int)<=281474976710656/\x.1.1.length<=1048576/\0<=x.1.2.1/\x.1.2.1<=x.1.1.length/\x.2<=x.1.1.length) (λx r=>match r with| .inl q=>q=x.1/\4<=x.1.1.length| .inr q=>q.1.1=x.1.1/\q.1.2.1=x.1.2.1/\q.2=[]):=td (λx y=>y.1=x.1) (λy=>((4:Int)-y.2).toNat) (by unfold A3u;exact t8)
instance:t6 vI (λx=>x.1.length<=1048576/\0<=x.2.1/\x.2.1<=x.1.length) (λx r=>r.1=x.1/\r.2.2=x.2.2/\x.2.1<=r.2.1/\r.2.1<=r.1.length):=td (λx y=>y.1=x.1/\y.2.2=x.2.2/\x.2.1<=y.2.1) (λy=>(y.1.length-y.2.1).toNat) (by unfold A3v;exact t8)
instance:t6 gO (λx=>x.1.1.length<=1048576/\0<=x.1.2.1/\x.1.2.1<=x.1.1.length/\(x.2=true->x.1.2.1<x.1.1.length)) (λx r=>r.1=x.1.1/\x.1.2.1<=r.2.1/\r.2.1<=r.1.length):=⟨by unfold gO;exact t8⟩
instance A6f:t6 ZN (λx=>x.1.1.length<=1048576/\0<=x.1.2.1/\x.1.2.1<=x.1.1.length) (λx r=>r.2.1=x.1.1/\0<=r.2.2.1/\r.2.2.1<=x.1.1.length/\r.1.length<=x.1.1.length):=⟨by unfold ZN;exact t8⟩
instance A6g:t6 ZJ (λx=>0<=x/\x<=255) (λ_ r=>-1<=r/\r<=15):=⟨by unfold ZJ;exact t8⟩
instance:t6 gP (λx=>x.1.1.length<=1048576/\0<=x.1.2.1/\x.1.2.1<=x.1.1.length/\1<=x.2.1/\x.2.1<=2/\x.2.2.1= -1/\(x.2.2.2=true->x.1.2.1+x.2.1<x.1.1.length)) (λx r=>r.1=x.1/\(x.2.2.2=true\/r.2= -1)):=⟨by unfold gP;exact t8⟩
instance:t6 vJ (λx=>x.1.1.length<=1048576/\0<=x.1.2.1/\x.1.2.1<=x.1.1.length/\1<=x.2.2/\x.2.2<=3/\x.1.2.1+x.2.2<=x.1.1.length) (λx r=>match r with| .inl q=>q.1=x.1/\x.1.2.1+3<=x.1.1.length| .inr q=>q.1.1=x.1.1/\q.1.2.1=x.1.2.1/\q.2.2=false):=td (λx y=>y.1=x.1) (λy=>(3-y.2.2).toNat) (by unfold A3w;exact t8)
instance A6h:t6 ZO (λx=>x.1.length<=1048576/\0<=x.2.1/\x.2.1<=x.1.length) (λx r=>r.2.2.1=x.1/\x.2.1<=r.2.2.2.1/\r.2.2.2.1<=x.1.length/\(r.2.1=true->x.2.1<r.2.2.2.1)):=⟨by unfold ZO;exact t8⟩
instance:t6 vK (λx=>x.1.1.length<=1048576/\0<=x.1.2.1/\x.1.2.1<=x.1.1.length/\x.2.length<=x.1.2.1) (λx r=>r.1.1=x.1.1/\x.1.2.1<=r.1.2.1/\r.1.2.1<=x.1.1.length/\r.2.length<=r.1.2.1):=td (λx y=>y.1.1=x.1.1/\x.1.2.1<=y.1.2.1) (λy=>(y.1.1.length-y.1.2.1).toNat) (by unfold A3x;exact t8)
instance:t6 TP (λx=>x.1.length<=1048576/\0<=x.2.1/\x.2.1<=x.1.length) (λx r=>r.2.1=x.1/\x.2.1<=r.2.2.1/\r.2.2.1<=x.1.length/\r.1.length<=x.1.length):=⟨by unfold TP;exact t8⟩
instance:t6 vL (λx=>x.1.1.length<=1048576/\0<=x.1.2.1/\x.1.2.1<=x.1.1.length/\x.2.length<=x.1.2.1+1/\∀s∈x.2,s.length<=1048576) (λx r=>r.1.1=x.1.1/\x.1.2.1<=r.1.2.1/\r.1.2.1<=x.1.1.length/\x.2.length<=r.2.length/\r.2.length<=1048577/\∀s∈r.2,s.length<=1048576):=td (λx y=>y.1.1=x.1.1/\x.1.2.1<=y.1.2.1/\x.2.length<=y.2.length) (λy=>(y.1.1.length-y.1.2.1).toNat) (by unfold A3y;exact t8)
instance A6i:t6 ZP (λx=>x.1.length<=1048576/\0<=x.2.1/\x.2.1<=x.1.length) (λx r=>r.2.1=x.1/\x.2.1<=r.2.2.1/\r.2.2.1<=x.1.length/\1<=r.1.length/\r.1.length<=1048577/\∀s∈r.1,s.length<=1048576):=⟨by unfold ZP;exact t8⟩
instance:t6 ZH (λ_=>True) (λ_ _=>True):=⟨by unfold ZH;exact t8⟩
instance:t6 vM (λx=>x.1.1.length<=1048576/\0<=x.1.2.1/\x.1.2.1<=x.1.1.length) (λx r=>r.1=x.1.1/\x.1.2.1<=r.2.1/\r.2.1<=x.1.1.length):=td (λx y=>y.1.1=x.1.1/\y.1.2.2=x.1.2.2/\x.1.2.1<=y.1.2.1) (λy=>(y.1.1.length-y.1.2.1).toNat) (by unfold A3z;exact t8)
instance:t6 gQ (λx=>x.1.length<=1048576/\0<=x.2.1/\x.2.1<=x.1.length) (λx r=>r.2.1=x.1/\x.2.1<=r.2.2.1/\r.2.2.1<=x.1.length/\r.1.1.length<=1048576/\r.1.2.length<=1048576):=⟨by unfold gQ;exact t8⟩
instance AKP:t6 gR (λx=>x.1.1.length<=1048576/\0<=x.1.2.1/\x.1.2.1<=x.1.1.length/\(x.2.2=true->x.1.2.1<x.1.1.length)/\x.2.1.2.2.2.1.length<=1048576) (λx r=>r.1.1=x.1.1/\x.1.2.1<=r.1.2.1/\r.1.2.1<=x.1.1.length/\r.2.1=x.2.1.1/\r.2.2.1=x.2.1.2.1/\r.2.2.2.1=x.2.1.2.2.1/\r.2.2.2.2.1.length<=1048576/\r.2.2.2.2.2=x.2.1.2.2.2.2):=⟨by unfold gR;exact t8⟩
instance AKQ:t6 vN (λx=>x.1.1.length<=1048576/\0<=x.1.2.1/\x.1.2.1<=x.1.1.length/\x.2.1.2.2.2.2.1.length<=x.1.2.1/\x.2.2≠0/\∀q∈x.2.1.2.2.2.2.1,q.1.length<=1048576/\q.2.length<=1048576) (λx r=>r.1.1=x.1.1/\x.1.2.1<=r.1.2.1/\r.1.2.1<=x.1.1.length/\r.2.1=x.2.1.1/\r.2.2.1=x.2.1.2.1/\r.2.2.2.1=x.2.1.2.2.1/\r.2.2.2.2.1=x.2.1.2.2.2.1/\r.2.2.2.2.2.2=x.2.1.2.2.2.2.2/\r.2.2.2.2.2.1.length<=1048576/\∀q∈r.2.2.2.2.2.1,q.1.length<=1048576/\q.2.length<=1048576):=td (λx y=>y.1.1=x.1.1/\y.2.1.1=x.2.1.1/\y.2.1.2.1=x.2.1.2.1/\y.2.1.2.2.1=x.2.1.2.2.1/\y.2.1.2.2.2.1=x.2.1.2.2.2.1/\y.2.1.2.2.2.2.2=x.2.1.2.2.2.2.2/\x.1.2.1<=y.1.2.1) (λy=>(y.1.1.length-y.1.2.1).toNat) (by unfold A40;exact t8)
def oI{k:IntKind}{a b:Int}{Q:Int->Prop}:Tot (div? k a b) Q<->b≠0/\Q (k.wrap (a.tdiv b)):=by grind[div?,Tot]
def A6k{a b:Int}{Q:Int->Prop}:Tot (mod? a b) Q<->b≠0/\Q (a.tmod b):=by grind[mod?,Tot]
def AKR{a:Int}(h0:0<=a)(h1:a<=255):0<=a.tdiv 16/\a.tdiv 16<=15:=oc
def AKS{a:Int}(h0:0<=a)(h1:a<=255):0<=a.tmod 16/\a.tmod 16<=15:=oc
def AKT(b:UInt8):0<=((b.toNat:Int)).tdiv 16/\((b.toNat:Int)).tdiv 16<=15:=AKR oa (by have:=E3 b;omega)
def AKU(b:UInt8):0<=((b.toNat:Int)).tmod 16/\((b.toNat:Int)).tmod 16<=15:=AKS oa (by have:=E3 b;omega)
theorem E9{α:Type}{l:List α}{i:Nat}{d:α}:i<l.length->l.getD i d∈l:=λh=>by grind
theorem EA{α:Type}{l:List α}{i:Nat}{a b:α}:a∈l.set i b->a∈l\/a=b:=List.mem_or_eq_of_mem_set
instance A6l:t6 strings_Split (λx=>x.1.length<4294967281/\1<=x.2.length) (λx r=>r.length<=x.1.length+2/\∀s∈r,s.length<=x.1.length):=⟨λx h=>by
 unfold strings_Split IT;rw[A7 h];refine DN.2 ⟨?_,?_⟩
 .rw[B2];have h1:=Lib.splitB_length_le ⟨x.2.toArray⟩ 0 (Lib.countB ⟨x.1.toArray⟩ ⟨x.2.toArray⟩) ⟨x.1.toArray⟩;have j:Lib.countB ⟨x.1.toArray⟩ ⟨x.2.toArray⟩<=x.1.length+1:=Lib.count_le x.1 x.2;omega
 .intro s e;obtain⟨b,d,rfl⟩:=B_.1 e;have:∀(k:Nat) (s:ByteArray),∀y∈Lib.splitB ⟨x.2.toArray⟩ 0 k s,y.size<=s.size:=by
   intro k;induction k with
   |zero=>simp_all[Lib.splitB_zero,AP,AD]
   |succ k l=>
    intro s y a;unfold Lib.splitB at a;split at a
    .grind
    .rcases A_.1 a with rfl|a
     .rw[CG];omega
     grind[ByteArray.size_extract]
  have:=this _ _ b d;assumption⟩
instance A6m:t6 fP (λ_=>True) (λx r=>r=x):=⟨λx h=>DN.2 rfl⟩
instance U6:t6 PY (λ_=>True) (λx r=>r.length=x.length):=⟨λx h=>DN.2 (E4 x)⟩
def AKV(x:EQ×IF×Bool)(h:x.1.1.length<=1048576/\0<=x.1.2.1/\x.1.2.1<=x.1.1.length/\(x.2.2=true->x.1.2.1<x.1.1.length)/\x.2.1.2.2.2.2.2.length<=1048576):Tot (gS x) (λr:EQ×IF=>r.1.1=x.1.1/\x.1.2.1<=r.1.2.1/\r.1.2.1<=x.1.1.length/\r.2.1=x.2.1.1/\r.2.2.1=x.2.1.2.1/\r.2.2.2.1=x.2.1.2.2.1/\r.2.2.2.2.1=x.2.1.2.2.2.1/\r.2.2.2.2.2.1=x.2.1.2.2.2.2.1/\r.2.2.2.2.2.2.length<=1099513724929):=by
 obtain⟨a,p,b⟩:=x;try dsimp only at h ⊢
 unfold gS
 repeat' first
  |(with_reducible first|refine DO.2 ⟨λ_=>?_,λ_=>?_⟩|refine DM.2 ?_|refine DN.2 ?_|refine(A6i.1 _ ?_).mono λ_ _=>?_|refine(X0 _ ?_).mono λ_ _=>?_)
  |dsimp only
 all_goals grind[E5,E4,E8,E0,DT,E7,E6,E3,E9,EA,AKD]
instance A6n:t6 fW (λ_=>True) (λ_ r=>r.length=5/\∀z∈r,z.1.length<=20):=⟨λx h=>⟨_,rfl,rfl,oi⟩⟩
def qS{p:Prop}(h:p:=by grind[E5,E4,E8,E0,DT,E7,E6,E3,E9,EA]):p:=h
theorem tc{p:Prop}(h:p:=by
 intros;try dsimp only at *
 repeat' first
  |(with_reducible first|refine DO.2 ⟨λ_=>?_,λ_=>?_⟩|refine DM.2 ?_|refine DN.2 ?_|refine EI.2 ⟨?_,λ_ _=>?_⟩|refine EV.2 ⟨?_,?_⟩|refine I8.2 ⟨?_,?_⟩|refine FU.2 ⟨?_,?_⟩|refine F6.2 ⟨?_,?_⟩|refine t7 ?_ λ_ _=>?_|refine⟨λ_=>?_,?_⟩)
  |split
  |dsimp only
 all_goals grind[E5,E4,E8,E0,DT,E7,E6,E3,E9,EA,EL,EN,EO,EP]):p:=h
instance:t6 uS (λx=>0<=x.2.2/\x.2.2<=(5:Int)/\x.2.1.length=(5:Int)/\(5:Int)<=281474976710656/\∀z∈x.2.1,z.1.length<=20) (λx r=>match r with| .inl _=>True| .inr r=>0<=r/\r<5/\x.1.length<=20):=td (λx y=>y.1=x.1) (λy=>((5:Int)-y.2.2).toNat) (by unfold A3c;exact tc)
instance A6o:t6 ZF (λ_=>True) (λx r=>r<5/\(0<=r->x.length<=20)):=⟨by unfold ZF;exact tc⟩
instance A6p:t6 VS (λ_=>True) (λx r=>r.2=0->x.length<=20):=⟨by unfold VS;exact tc⟩
instance AKX:t6 uT (λx=>0<=x.2.2/\x.2.2<=x.2.1/\x.2.1=x.1.length/\x.2.1<=281474976710656) (λx r=>match r with| .inl _=>(∀j:Nat,x.2.2<=j->∀s,x.1[j]?=some s->s.length<=200)| .inr r=>r=true):=td (λx y=>y.1=x.1/\(∀j:Nat,x.2.2<=j->(j:Int)<y.2.2->∀s,y.1[j]?=some s->s.length<=200)/\x.2.2<=y.2.2) (λy=>(y.2.1-y.2.2).toNat) (by unfold A3d;exact tc)
def A6q{α:Type}{l:List α}{P:α->Prop}(h:∀j:Nat,(0:Int)<=j->∀s,l[j]?=some s->P s):∀s∈l,P s:=λs a=>let ⟨j,hj⟩:=BN a;h j (B5 j) s hj
instance AKY:t6 uU (λx=>0<=x.2.2/\x.2.2<=x.2.1/\x.2.1=x.1.length/\x.2.1<=281474976710656) (λx r=>match r with| .inl _=>(∀j:Nat,x.2.2<=j->∀s,x.1[j]?=some s->s.1.length<=200/\s.2.length<=200)| .inr r=>r=true):=td (λx y=>y.1=x.1/\(∀j:Nat,x.2.2<=j->(j:Int)<y.2.2->∀s,y.1[j]?=some s->s.1.length<=200/\s.2.length<=200)/\x.2.2<=y.2.2) (λy=>(y.2.1-y.2.2).toNat) (by unfold A3e;exact tc)
def AKZ(x:DL×DL×DL×DL×DU×DL)(h:x.2.2.2.2.1.length<=1048576):Tot (fX x) (λr:Bool=>r=false->(x.2.1.length<=200/\x.2.2.1.length<=200/\x.2.2.2.1.length<=200/\x.2.2.2.2.2.length<=200/\x.2.2.2.2.1.length<=10/\∀q∈x.2.2.2.2.1,q.1.length<=200/\q.2.length<=200)):=by
 unfold fX;dsimp only;refine DM.2 ((AKX.1 _ oh).mono λr d=>?_);rcases r with r|r
 .have d:=A6q d;refine DM.2 ((AKY.1 _ oc).mono λb a=>?_);rcases b with b|b
  .have a:=A6q a;grind[DN,of_decide_eq_false]
  grind[DN]
 grind[DN]
instance oJ:t6 TN (λx=>x.length<4294967281) (λx r=>r.length<=x.length+2/\∀s∈r,s.length<=x.length):=⟨by unfold TN;exact tc⟩
instance:t6 uV (λx=>th x.2.2.2 x.2.2.1 x.2.1.length) (λ_ _=>True):=td (λ_ _=>True) (λy=>(y.2.2.1-y.2.2.2).toNat) (by unfold A3f;exact tc)
instance A6r:t6 ZG (λx=>x.1.length<=1048576) (λ_ _=>True):=⟨by unfold ZG;exact tc⟩
instance:t6 uW (λx=>th x.2.2 x.2.1 x.1.length) (λ_ _=>True):=td (λ_ _=>True) (λy=>(y.2.1-y.2.2).toNat) (by unfold A3g;exact tc)
instance AKb:t6 fY (λx=>x.length<=1048576) (λ_ _=>True):=⟨by unfold fY;exact tc⟩
instance AKc:t6 uX (λx=>0<=x.2.2.2/\x.2.2.2<=x.2.2.1/\x.2.2.1=x.2.1.length/\x.2.2.1<=281474976710656/\x.1.length=x.2.1.length/\∀q∈x.2.1,q.1.length<=1048576) (λ_ r=>True):=⟨λx h=>by
 refine ES (λx:DU×DU×Int×Int=>0<=x.2.2.2/\x.2.2.2<=x.2.2.1/\x.2.2.1=x.2.1.length/\x.2.2.1<=281474976710656/\x.1.length=x.2.1.length/\∀q∈x.2.1,q.1.length<=1048576)
  (λx=>(x.2.2.1-x.2.2.2).toNat) ?_ _ _ h (by unfold fuel;omega)
 rintro next ⟨l,z,A,B⟩ h e
 dsimp only at h e;obtain⟨h1,m,p,s,w,d⟩:=h;unfold A3h;dsimp only;refine DO.2 ⟨λa=>?_,λ_=>DN.2 trivial⟩;have a:=AB a;refine DM.2 (EI.2 ⟨⟨oa,oa⟩,λy j=>?_⟩);refine DM.2 ((AKb.1 _ (d _ (AH j))).mono λr _=>?_);refine DO.2 ⟨λ_=>DN.2 trivial,λ_=>?_⟩;refine DO.2 ⟨λ_=>DN.2 trivial,λ_=>?_⟩;refine DM.2 (Tot.mono (P:=λ_=>True) ?_ λC _=>?_)
 .refine DO.2 ⟨λb=>?_,λ_=>DN.2 trivial⟩;have b:=AB b;rw[EH oa oa];exact EI.2 ⟨⟨oa,oa⟩,λ_ _=>trivial⟩
 .refine DO.2 ⟨λ_=>DN.2 trivial,λ_=>?_⟩;grind[EH]⟩
instance AKd:t6 fZ (λx=>x.length<=1048576/\∀q∈x,q.1.length<=1048576) (λ_ _=>True):=⟨by unfold fZ;exact tc⟩
instance:t6 uY (λx=>th x.2.2 x.2.1 x.1.length) (λ_ _=>True):=td (λ_ _=>True) (λy=>(y.2.1-y.2.2).toNat) (by unfold A3i;exact tc)
instance:t6 ZI (λx=>x.length<=1048576) (λ_ _=>True):=⟨by unfold ZI;exact tc⟩
instance AKf:t6 uZ (λx=>0<=x.2.2/\x.2.2<=x.2.1/\x.2.1=x.1.length/\x.2.1<=281474976710656/\∀z∈x.1,z.length<=1048576) (λ_ r=>∀z,r=.inr z->z=8):=td (λ_ _=>True) (λy=>(y.2.1-y.2.2).toNat) (by unfold A3j;exact tc)
instance AKg:t6 u_ (λx=>0<=x.2.2/\x.2.2<=x.2.1/\x.2.1=x.1.length/\x.2.1<=281474976710656/\∀z∈x.1,z.2.length<=1048576) (λ_ r=>∀z,r=.inr z->z=8):=td (λ_ _=>True) (λy=>(y.2.1-y.2.2).toNat) (by unfold A3k;exact tc)
def A6t(x:Int)(h:True):Tot (ZS x) (λr:Bool=>True):=by
 unfold ZS
 repeat' first
  |with_reducible refine DN.2 ?_
  |dsimp only
 all_goals exact qS
instance bQ:t6 OV (λx=>x.1.length<=1048576000) (λx r=>r.2.length=x.1.length+1):=⟨by unfold OV;exact tc⟩
instance bR:t6 S3 (λx=>x.1.length<=1048576000/\x.2.length<=1048576000) (λx r=>r.2.2.length=x.1.length+x.2.length):=⟨by unfold S3;exact tc⟩
instance AKh:t6 w6 (λx=>0<=x.2.2.2/\x.2.2.2<=x.2.2.1/\x.2.2.1=x.1.length/\x.2.1.length<=x.2.2.2/\x.1.length<=1048576) (λx r=>r.length<=x.1.length):=⟨λx h=>by
 refine ES (R:=λr:List Int=>r.length<=x.1.length) (λy:DL×(List Int)×Int×Int=>y.1=x.1/\0<=y.2.2.2/\y.2.2.2<=y.2.2.1/\y.2.2.1=y.1.length/\y.2.1.length<=y.2.2.2/\y.1.length<=1048576)
  (λy=>(y.2.2.1-y.2.2.2).toNat) ?_ _ _ ⟨rfl,h⟩ (by unfold fuel;omega)
 rintro next ⟨s,j,I,e⟩ h l
 dsimp only at h l;obtain⟨h0,h1,A,B,C,D⟩:=h;unfold A4D;dsimp only;refine DO.2 ⟨λa=>?_,λa=>DN.2 ?_⟩
 .have a:=AB a;have p:i64.wrap (e+1)=e+1:=EH oa oa;rw[p];refine DM.2 (EI.2 ⟨⟨h1,oa⟩,λb _=>?_⟩);refine DM.2 ((A6t _ trivial).mono λr _=>?_);refine DO.2 ⟨λ_=>?_,λ_=>?_⟩
  .refine DM.2 (EI.2 ⟨⟨h1,oa⟩,λw _=>?_⟩);refine DM.2 ((bQ.1 _ oc).mono λE m=>?_);grind
  .refine DM.2 (Tot.mono (P:=λ_=>True) ?_ λz _=>?_)
   .refine DO.2 ⟨λd=>?_,λ_=>DN.2 trivial⟩;have d:e≠0:=by rw[DT]at d;simpa using d
    rw[EH oa oa];exact EI.2 ⟨⟨oa,oa⟩,λ_ _=>trivial⟩
   .refine DM.2 (Tot.mono (P:=λ_=>True) ?_ λG _=>?_)
    .simp_all[DO,A6t,trivial,DN]
    .refine DO.2 ⟨λ_=>?_,λ_=>?_⟩
     .refine DM.2 ((bQ.1 _ oc).mono λH m=>?_);grind
     grind
 grind⟩
instance AKi:t6 hY (λx=>x.length<=1048576) (λx r=>r.length<=x.length):=⟨by unfold hY;exact tc⟩
instance AKj:t6 hZ (λx=>x.1.2.1.length<=1048576/\x.1.2.2.1.length<=1048576) (λx r=>r.1=x.1.1/\r.2.1.length=x.1.2.1.length/\r.2.2.1.length=x.1.2.2.1.length/\r.2.2.2=x.1.2.2.2):=⟨by unfold hZ;exact tc⟩
def A6u{α:Type}{a b:List α}{Q:List α->Prop}(h1:a.length+b.length<=1099511627776)(h:Q (a++b)):Tot (app? 48 a b) Q:=F6.2 ⟨oa,h⟩
def oK(x:DL×DL×DL×DL×DU×DL)(h:x.1.length<=20/\x.2.1.length<=200/\x.2.2.1.length<=200/\x.2.2.2.1.length<=200/\x.2.2.2.2.2.length<=200/\x.2.2.2.2.1.length<=10/\(∀q∈x.2.2.2.2.1,q.1.length<=200/\q.2.length<=200)):Tot (TQ x) (λr:DL×DL×DL×DL×DU×DL=>r.1.length<=20/\r.2.1.length<=200/\r.2.2.1.length<=200/\r.2.2.2.1.length<=200/\r.2.2.2.2.2.length<=200/\r.2.2.2.2.1.length<=10/\(∀q∈r.2.2.2.2.1,q.1.length<=200/\q.2.length<=200)):=by
 obtain⟨s,D,E,w,y,z,A⟩:=h;unfold TQ;try dsimp only
 refine DM.2 ((A6p.1 _ trivial).mono λH _=>?_);refine DM.2 ((AKj.1 _ ⟨om,om⟩).mono λa b=>?_);try dsimp only at b
 obtain⟨p,B,C,e⟩:=b;have k1:a.1.length<=20:=by rw[p];exact s
 have d:a.2.2.2.1.length<=200:=by rw[e];exact w
 have j:a.2.2.2.2.1.length<=10:=by rw[e];exact z
 have l:a.2.2.2.2.2.length<=200:=by rw[e];exact y
 have m:∀q∈a.2.2.2.2.1,q.1.length<=200/\q.2.length<=200:=by rw[e];exact A
 refine DO.2 ⟨λ_=>?_,λ_=>?_⟩
 .refine DM.2 ((AKi.1 _ oa).mono λI G=>?_);refine DM.2 (A6u ot ?_);exact DN.2 ⟨k1,om,om,d,l,by simpa using j,by simpa using m⟩
 .refine DM.2 (A6u ot ?_);exact DN.2 ⟨k1,om,om,d,l,by simpa using j,by simpa using m⟩
def bT(x:DL×DL×DL×DL×DU×DL)(h:x.2.2.2.2.1.length<=1048576):Tot (KR x) (λr:Int=>r=0->(x.1.length<=20/\x.2.1.length<=200/\x.2.2.1.length<=200/\x.2.2.2.1.length<=200/\x.2.2.2.2.2.length<=200/\x.2.2.2.2.1.length<=10/\(∀q∈x.2.2.2.2.1,q.1.length<=200/\q.2.length<=200))):=by
 unfold KR;try dsimp only
 refine DM.2 ((A6p.1 _ trivial).mono λL h1=>?_);refine DO.2 ⟨λb=>DN.2 λa=>?_,λb=>?_⟩
 .rw[DT,a]at b;simp at b
 have D:x.1.length<=20:=h1 (by rw[DT]at b;simpa using b);refine DM.2 ((AKZ _ h).mono λM G=>?_);refine DO.2 ⟨λ_=>DN.2 λa=>absurd a oi,λs=>?_⟩;have⟨w,y,A,B,C,l⟩:=G s;refine DO.2 ⟨λ_=>DN.2 λa=>absurd a oi,λ_=>?_⟩;refine DM.2 ((oJ.1 _ oa).mono λN K=>?_);refine DM.2 ((A6r.1 _ (by(try dsimp only);omega)).mono λO _=>?_);refine DO.2 ⟨λ_=>DN.2 λa=>absurd a oi,λ_=>?_⟩;refine DM.2 (Tot.mono (P:=λ_=>True) (DO.2 ⟨λ_=>(bP.1 _ (by(try dsimp only);omega)).mono λ_ _=>trivial,λ_=>DN.2 trivial⟩) λQ _=>?_);refine DO.2 ⟨λ_=>DN.2 λa=>absurd a oi,λ_=>?_⟩;refine DM.2 ((AKd.1 _ ⟨oa,λq H=>by have:=l q H;omega⟩).mono λR _=>?_);refine DO.2 ⟨λb=>DN.2 λa=>?_,λ_=>?_⟩
 .rw[DT,a]at b;simp at b
 refine DM.2 ((oJ.1 _ oa).mono λI E=>?_);refine DM.2 ((A6r.1 _ (by(try dsimp only);omega)).mono λJ _=>?_);refine DO.2 ⟨λ_=>DN.2 λa=>absurd a oi,λ_=>?_⟩;refine DM.2 ((AKf.1 _ ⟨AR _,oh,rfl,oh,λz j=>?_⟩).mono λd m=>?_)
 .simp only[A_,List.not_mem_nil,or_false]at j;rcases j with rfl|rfl|rfl|rfl<;>omega
 rcases d with d|d
 .refine DM.2 ((AKg.1 _ ⟨AR _,B5 _,rfl,(by show((x.2.2.2.2.1.length:Nat):Int)<=281474976710656;omega),λz j=>by have:=l z j;omega⟩).mono λe p=>?_);rcases e with e|e
  .exact DN.2 λ_=>⟨D,w,y,A,B,C,l⟩
  .exact DN.2 λa=>by have:=p _ rfl;omega
 .exact DN.2 λa=>by have:=m _ rfl;omega
def A6v{q:Int}{Q:DL->Prop}(l:DL)(a:l.length=16)(h0:0<=q)(h1:q<=15)(h:∀s:DL,s.length=1->Q s):Tot (cut? l q (u8.wrap (q+1))) Q:=by rw[A05 oa oa];refine I8.2 ⟨⟨h0,oa,oa⟩,h _ ?_⟩;rw[C9,BQ];omega
instance AKk:t6 w8 (λx=>0<=x.2.2.2/\x.2.2.2<=x.2.2.1/\x.2.2.1=x.1.length/\x.2.1.length<=3*x.2.2.2/\x.1.length<=1048576) (λx r=>r.length<=3*x.1.length):=⟨λx h=>by
 refine ES (R:=λr:List Int=>r.length<=3*x.1.length) (λy:DL×(List Int)×Int×Int=>y.1=x.1/\0<=y.2.2.2/\y.2.2.2<=y.2.2.1/\y.2.2.1=y.1.length/\y.2.1.length<=3*y.2.2.2/\y.1.length<=1048576)
  (λy=>(y.2.2.1-y.2.2.2).toNat) ?_ _ _ ⟨rfl,h⟩ (by unfold fuel;omega)
 rintro next ⟨K,B,Q,A⟩ h m
 dsimp only at h m;obtain⟨h0,h1,L,w,M,z⟩:=h;unfold A4F;dsimp only;refine DO.2 ⟨λd=>?_,λd=>DN.2 ?_⟩
 .have d:=AB d;have E:i64.wrap (A+1)=A+1:=EH oa oa;rw[E];refine DM.2 (EI.2 ⟨⟨h1,oa⟩,λb _=>?_⟩);refine DM.2 ((A6e.1 _ trivial).mono λr _=>?_);refine DM.2 (Tot.mono (P:=λ_=>True) (DO.2 ⟨λ_=>(bP.1 _ (by show 4<=1048576;decide)).mono λ_ _=>trivial,λ_=>DN.2 trivial⟩) λN _=>?_);refine DO.2 ⟨λ_=>?_,λ_=>?_⟩
  .refine DM.2 ((bQ.1 _ om).mono λO j=>?_);dsimp only at j;exact m _ ⟨h0,om,om,w,om,z⟩ om
  .obtain⟨p,C⟩:=AKT b;have⟨G,H⟩:=AKU b;have D:u8.wrap ((b.toNat:Int).tdiv 16)=(b.toNat:Int).tdiv 16:=A05 p oa;refine DM.2 (oI.2 ⟨oi,?_⟩);refine DM.2 (oI.2 ⟨oi,?_⟩);rw[D];refine DM.2 (A6v _ rfl p C λJ l=>?_);refine DM.2 (FU.2 ⟨by simp[l],?_⟩);refine DM.2 (A6k.2 ⟨oi,?_⟩);refine DM.2 (A6k.2 ⟨oi,?_⟩);refine DM.2 (A6v _ rfl G H λs e=>?_);refine DM.2 (FU.2 ⟨by simp[l,e],?_⟩);have a:([37]++J++s:DL).length=3:=by simp[l,e]
   refine DM.2 ((bR.1 _ ⟨om,by rw[a];decide⟩).mono λI j=>?_);rw[a]at j;dsimp only at j;exact m _ ⟨h0,om,om,w,om,z⟩ om
 .have d:=AG d;rw[<-h0];omega⟩
instance A08:t6 VX (λx=>x.length<=1048576) (λx r=>r.length<=3*x.length):=⟨by unfold VX;exact tc⟩
def AKl(x:(List DL)×(List DL)×Int×Int)(h:0<=x.2.2.2/\x.2.2.2<=x.2.2.1/\x.2.2.1=x.2.1.length/\x.2.2.1<=202/\x.1.length<=x.2.2.2/\(∀z∈x.2.1,z.length<=200)/\(∀z∈x.1,z.length<=600)):
 Tot (w9 x) (λr:List DL=>r.length<=202/\∀z∈r,z.length<=600):=by
 refine ES (R:=λr:List DL=>r.length<=202/\∀z∈r,z.length<=600) (λx:(List DL)×(List DL)×Int×Int=>0<=x.2.2.2/\x.2.2.2<=x.2.2.1/\x.2.2.1=x.2.1.length/\x.2.2.1<=202/\x.1.length<=x.2.2.2/\(∀z∈x.2.1,z.length<=200)/\(∀z∈x.1,z.length<=600))
  (λy=>(y.2.2.1-y.2.2.2).toNat) ?_ _ _ h (by unfold fuel;omega)
 rintro next ⟨A,G,H,m⟩ h j
 dsimp only at h j;obtain⟨h1,B,p,s,C,d,e⟩:=h;unfold A4G;dsimp only;refine DO.2 ⟨λb=>?_,λb=>DN.2 ⟨oa,e⟩⟩;have b:=AB b;have w:i64.wrap (m+1)=m+1:=EH oa oa;rw[w];refine DM.2 (EI.2 ⟨⟨h1,oa⟩,λI l=>?_⟩);have l:=d _ (AH l);refine DM.2 ((A08.1 _ oa).mono λE D=>?_);refine DM.2 (F6.2 ⟨ot,?_⟩);refine j _ ⟨om,om,p,s,ot,d,λz a=>?_⟩ om;rcases AZ.1 a with a|a
 .exact e z a
 .rw[AP]at a;subst a;omega
def AKm(x:DL)(h:x.length<=200):Tot (iA x) (λr:DL=>r.length<=121402):=by unfold iA;refine DM.2 ((oJ.1 _ oa).mono λj h1=>?_);refine DM.2 ((AKl _ ⟨AR _,B5 _,rfl,(by show((j.length:Nat):Int)<=202;omega),oh,(λz b=>by have:=h1.2 z b;omega),(λz b=>by cases b)⟩).mono λd a=>?_);have l:=A06 [47] 600 d a.2;have m:d.length*(600+[(47:UInt8)].length)<=202*(600+1):=Nat.mul_le_mul a.1 (AD _);refine DM.2 ((X0 _ ⟨by have:=a.1;dsimp only;omega,om⟩).mono λp e=>DN.2 ?_);rw[e];dsimp only;omega
def A6w(x:DL×DL×DL×DL×DU×DL)(h:x.1.length<=20/\x.2.1.length<=200/\x.2.2.1.length<=200/\x.2.2.2.1.length<=200/\x.2.2.2.2.2.length<=200/\x.2.2.2.2.1.length<=10/\(∀q∈x.2.2.2.2.1,q.1.length<=200/\q.2.length<=200)):Tot (iB x) (λr:DL=>r.length<=200000):=by
 obtain⟨e,a,j,l,m,p,s⟩:=h;unfold iB;refine DM.2 (FU.2 ⟨ot,?_⟩);refine DM.2 (FU.2 ⟨ot,?_⟩);refine DO.2 ⟨λ_=>?_,λ_=>?_⟩
 .refine DM.2 ((AKm _ a).mono λy w=>?_);refine DM.2 (FU.2 ⟨ot,?_⟩);refine DM.2 (FU.2 ⟨ot,?_⟩);refine DM.2 ((A08.1 _ oa).mono λd b=>?_);refine DM.2 (FU.2 ⟨ot,?_⟩);exact DN.2 ot
 .refine DM.2 ((A08.1 _ oa).mono λd b=>?_);refine DM.2 (FU.2 ⟨ot,?_⟩);exact DN.2 ot
instance AKn:t6 J4 (λx=>x.2.2.2.2.1.length<=1048576) (λ_ r=>r.1.length<=200000):=⟨λx h=>by unfold J4;refine DM.2 ((bT _ h).mono λe h1=>?_);refine DO.2 ⟨λ_=>DN.2 oh,λa=>?_⟩;have h1:=h1 (by rw[DT]at a;simpa using a);refine DM.2 ((oK _ h1).mono λj b=>?_);exact DM.2 ((A6w _ b).mono λl d=>DN.2 d)⟩
def AKo(x:DU×Int×HD×Int)(h:(∀p,Tot (x.2.2.1 p) λ_=>True)/\0<=x.2.1/\x.2.1<=x.2.2.2/\x.2.2.2<x.1.length/\x.1.length<=1048576):
 Tot (vO x) (λr:List (DL×DL)=>r.length=x.1.length/\∀q∈r,q∈x.1):=by
 refine ES (R:=λr:List (DL×DL)=>r.length=x.1.length/\∀q∈r,q∈x.1) (λy:DU×Int×HD×Int=>(∀p,Tot (y.2.2.1 p) λ_=>True)/\0<=y.2.1/\y.2.1<=y.2.2.2/\y.2.2.2<y.1.length/\y.1.length<=1048576/\y.1.length=x.1.length/\∀q∈y.1,q∈x.1)
  (λy=>y.2.2.2.toNat) ?_ _ _ ⟨h.1,h.2.1,h.2.2.1,h.2.2.2.1,h.2.2.2.2,rfl,λq a=>a⟩ (by obtain⟨_,_,_,_,_⟩:=h;unfold fuel;omega)
 rintro next ⟨d,e,l,j⟩ h w
 dsimp only at h w;obtain⟨h0,h1,A,B,C,m,b⟩:=h;unfold A41;dsimp only;by_cases s:e<j
 .have z:i64.wrap (j-1)=j-1:=EH oa oa;simp only[z,A7 s,A6,BK];refine DM.2 (EV.2 ⟨⟨oa,oa⟩,?_⟩);refine DM.2 (EV.2 ⟨⟨oa,oa⟩,?_⟩);refine DM.2 ((h0 _).mono λD _=>?_);refine DO.2 ⟨λ_=>?_,λ_=>DN.2 ⟨m,b⟩⟩;refine DM.2 (EV.2 ⟨⟨oa,oa⟩,?_⟩);refine DM.2 (EV.2 ⟨⟨oa,oa⟩,?_⟩);refine DM.2 (EV.2 ⟨⟨oa,oa⟩,?_⟩);refine DM.2 (EV.2 ⟨⟨oa,by rw[B0];omega⟩,?_⟩);refine w _ ⟨h0,h1,om,by simp only[B0];omega,by simp only[B0];omega,by simp only[B0];omega,λq a=>?_⟩ om;rcases EA a with a|rfl
  .rcases EA a with a|rfl
   .exact b q a
   .exact b _ (E9 oa)
  .exact b _ (E9 oa)
 .simp only[A9 s,A8,D0];refine DM.2 (DN.2 ?_);refine DM.2 (DN.2 ?_);refine DM.2 (DN.2 ?_);exact DN.2 ⟨m,b⟩
def AKp(x:DU×Int×Int×HD×Int)(h:(∀p,Tot (x.2.2.2.1 p) λ_=>True)/\0<=x.2.1/\x.2.1<=x.2.2.2.2/\x.2.2.1<=x.1.length/\x.2.2.2.2<=1048577/\x.1.length<=1048576):
 Tot (vP x) (λr:List (DL×DL)=>r.length=x.1.length/\∀q∈r,q∈x.1):=by
 refine ES (R:=λr:List (DL×DL)=>r.length=x.1.length/\∀q∈r,q∈x.1) (λy:DU×Int×Int×HD×Int=>(∀p,Tot (y.2.2.2.1 p) λ_=>True)/\0<=y.2.1/\y.2.1<=y.2.2.2.2/\y.2.2.1<=y.1.length/\y.2.2.2.2<=1048577/\y.1.length<=1048576/\y.1.length=x.1.length/\∀q∈y.1,q∈x.1)
  (λy=>(y.2.2.1-y.2.2.2.2).toNat) ?_ _ _ ⟨h.1,h.2.1,h.2.2.1,h.2.2.2.1,h.2.2.2.2.1,h.2.2.2.2.2,rfl,λq e=>e⟩ (by obtain⟨_,_,_,_,_,_⟩:=h;unfold fuel;omega)
 rintro next ⟨d,w,z,b,a⟩ h m
 dsimp only at h m;obtain⟨h0,h1,B,H,I,C,D,j⟩:=h;unfold A42;dsimp only;refine DO.2 ⟨λl=>?_,λ_=>DN.2 ⟨D,j⟩⟩;have l:=AB l;have E:i64.wrap (a+1)=a+1:=EH oa oa;rw[E];refine DM.2 ((AKo _ ⟨h0,h1,B,om,C⟩).mono λr s=>?_);dsimp only at s;obtain⟨G,A⟩:=s;exact m _ ⟨h0,h1,om,om,om,om,om,λq e=>j q (A q e)⟩ om
instance A6x:t6 ZQ (λx=>(∀p,Tot (x.2.2.2 p) λ_=>True)/\0<=x.2.1/\x.2.1<=1048576/\x.2.2.1<=x.1.length/\x.1.length<=1048576) (λx r=>r.length=x.1.length/\∀q∈r,q∈x.1):=⟨λx h=>by obtain⟨d,b,e,a⟩:=x;dsimp only at h;obtain⟨h0,h1,s,j,l⟩:=h;unfold ZQ;dsimp only;rw[EH oa oa];exact DM.2 ((AKp _ ⟨h0,h1,om,j,om,l⟩).mono λr m=>DN.2 m)⟩
def AKq(x:DU×Int×Int×Int×Int)(h:0<=x.2.1/\0<=x.2.2.1/\x.2.1+x.2.2.2.1<=x.1.length/\x.2.2.1+x.2.2.2.1<=x.1.length/\0<=x.2.2.2.2/\x.1.length<=1048576):
 Tot (vQ x) (λr:List (DL×DL)=>r.length=x.1.length/\∀q∈r,q∈x.1):=by
 refine ES (R:=λr:List (DL×DL)=>r.length=x.1.length/\∀q∈r,q∈x.1) (λy:DU×Int×Int×Int×Int=>0<=y.2.1/\0<=y.2.2.1/\y.2.1+y.2.2.2.1<=y.1.length/\y.2.2.1+y.2.2.2.1<=y.1.length/\0<=y.2.2.2.2/\y.1.length<=1048576/\y.1.length=x.1.length/\∀q∈y.1,q∈x.1)
  (λy=>(y.2.2.2.1-y.2.2.2.2).toNat) ?_ _ _ ⟨h.1,h.2.1,h.2.2.1,h.2.2.2.1,h.2.2.2.2.1,h.2.2.2.2.2,rfl,λq b=>b⟩ (by obtain⟨_,_,_,_,_,_⟩:=h;unfold fuel;omega)
 rintro next ⟨j,d,e,C,a⟩ h z
 dsimp only at h z;obtain⟨h1,A,D,E,G,H,B,l⟩:=h;unfold A43;dsimp only;refine DO.2 ⟨λw=>?_,λ_=>DN.2 ⟨B,l⟩⟩;have w:=AB w;have m:i64.wrap (d+a)=d+a:=EH oa oa;have p:i64.wrap (e+a)=e+a:=EH oa oa;have s:i64.wrap (a+1)=a+1:=EH oa oa;rw[m,p,s];refine DM.2 (EV.2 ⟨⟨oa,oa⟩,?_⟩);refine DM.2 (EV.2 ⟨⟨oa,oa⟩,?_⟩);refine DM.2 (EV.2 ⟨⟨oa,oa⟩,?_⟩);refine DM.2 (EV.2 ⟨⟨oa,by rw[B0];omega⟩,?_⟩);refine z _ ⟨h1,A,by simp only[B0];omega,by simp only[B0];omega,om,by simp only[B0];omega,by simp only[B0];omega,λq b=>?_⟩ om;rcases EA b with b|rfl
 .rcases EA b with b|rfl
  .exact l q b
  .exact l _ (E9 oa)
 .exact l _ (E9 oa)
def A09(x:DU×Int×Int×Int×HD)(h:0<=x.2.1/\0<=x.2.2.1/\x.2.1+x.2.2.2.1<=x.1.length/\x.2.2.1+x.2.2.2.1<=x.1.length/\x.1.length<=1048576):
 Tot (VV x) (λr:List (DL×DL)=>r.length=x.1.length/\∀q∈r,q∈x.1):=by
 obtain⟨d,b,e,w,a⟩:=x;obtain⟨h1,j,l,m,p⟩:=h;unfold VV;dsimp only;exact DM.2 ((AKq _ ⟨h1,j,l,m,AR _,p⟩).mono λr s=>DN.2 s)
def AKr(x:DU×Int×HD×Int×Int)(h:0<x.2.2.2.1/\0<x.2.2.2.2/\x.2.2.2.1<=x.2.1/\x.2.1+x.2.2.2.2<=x.1.length/\x.1.length<=1048576):
 Tot (vR x) (λr:DU×Int=>r.1.length=x.1.length/\(∀q∈r.1,q∈x.1)/\0<r.2/\r.2<=x.2.1/\x.2.1+r.2<=x.1.length):=by
 refine ES (R:=λr:DU×Int=>r.1.length=x.1.length/\(∀q∈r.1,q∈x.1)/\0<r.2/\r.2<=x.2.1/\x.2.1+r.2<=x.1.length) (λy:DU×Int×HD×Int×Int=>0<y.2.2.2.1/\0<y.2.2.2.2/\y.2.2.2.1<=y.2.1/\y.2.1+y.2.2.2.2<=y.1.length/\y.1.length<=1048576/\y.1.length=x.1.length/\(∀q∈y.1,q∈x.1)/\y.2.1=x.2.1)
  (λy=>(y.2.2.2.1+y.2.2.2.2).toNat) ?_ _ _ ⟨h.1,h.2.1,h.2.2.1,h.2.2.2.1,h.2.2.2.2,rfl,(λq e=>e),rfl⟩ (by obtain⟨_,_,_,_,_⟩:=h;unfold fuel;omega)
 rintro next ⟨p,m,s,a,j⟩ h z
 dsimp only at h z;obtain⟨h1,I,J,L,G,K,w,H⟩:=h;unfold A44;dsimp only;refine DO.2 ⟨λb=>?_,λb=>DN.2 ⟨K,w,h1,om,?_⟩⟩
 .have b:a≠j:=by rw[DT]at b;simpa using b
  have A:i64.wrap (m-a)=m-a:=EH oa oa;have B:i64.wrap (m+j)=m+j:=EH oa oa;have C:i64.wrap (m+j-a)=m+j-a:=EH oa oa;have D:i64.wrap (a-j)=a-j:=EH oa oa;have E:i64.wrap (j-a)=j-a:=EH oa oa;rw[A,B,C,D,E];refine DO.2 ⟨λd=>?_,λd=>?_⟩
  .have d:=AB d;refine DM.2 ((A09 _ ⟨om,om,om,om,G⟩).mono λr l=>?_);dsimp only at l;exact z _ ⟨om,I,om,om,om,om,λq e=>w q (l.2 q e),H⟩ om
  .have d:=AG d;refine DM.2 ((A09 _ ⟨om,om,om,om,G⟩).mono λr l=>?_);dsimp only at l;exact z _ ⟨h1,om,J,om,om,om,λq e=>w q (l.2 q e),H⟩ om
 .have b:a=j:=by rw[DT]at b;simpa using b
  omega
def AKs(x:DU×Int×Int×Int×HD)(h:0<=x.2.1/\x.2.1<x.2.2.1/\x.2.2.1<x.2.2.2.1/\x.2.2.2.1<=x.1.length/\x.1.length<=1048576):
 Tot (gU x) (λr:List (DL×DL)=>r.length=x.1.length/\∀q∈r,q∈x.1):=by
 obtain⟨d,b,m,e,j⟩:=x;dsimp only at h;obtain⟨h1,B,C,D,p⟩:=h;unfold gU;dsimp only;rw[EH (n:=m-b) oa oa,EH (n:=e-m) oa oa];refine DM.2 ((AKr _ ⟨om,om,om,om,p⟩).mono λr a=>?_);dsimp only at a;obtain⟨w,l,y,z,A⟩:=a;rw[EH (n:=m-r.2) oa oa];refine DM.2 ((A09 _ ⟨om,om,om,om,om⟩).mono λE a=>DN.2 ?_);dsimp only at a;exact⟨oa,λq s=>l q (a.2 q s)⟩
def SE{i j:Int}{Q:Int->Prop}(h1:0<=i)(d:0<=j)(l:i<=4611686018427387903)(m:j<=4611686018427387903)(h:Q ((i+j) / 2)):Tot (shr? u64 (u64.wrap (i64.wrap (i+j))) (1:Int)) Q:=by
 have e:i64.wrap (i+j)=i+j:=EH oa oa;have a:u64.wrap (i+j)=i+j:=by simp only[IntKind.wrap,IntKind.bits,IntKind.signed];simp;omega
 rw[e,a];have b:(i+j).fdiv (2 ^ min (1:Int).toNat u64.bits)=(i+j) / 2:=by have:(2:Int) ^ min (1:Int).toNat u64.bits=2:=oi;rw[this,DE _ oi]
 unfold shr?;rw[b];exact DN.2 h
def AKt(slf:DU×Int×Int×Int×HD->Option DU)(x:DU×Int×HD×Int×Int)(h:(∀p,Tot (x.2.2.1 p) λ_=>True)/\0<=x.2.1/\x.2.1<x.1.length/\0<=x.2.2.2.1/\x.2.2.2.1<=x.2.2.2.2/\x.2.2.2.2<=x.1.length/\x.1.length<=1048576):
 Tot (vS slf x) (λr:DU×Int=>r.1=x.1/\x.2.2.2.1<=r.2/\r.2<=x.2.2.2.2):=by
 refine ES (R:=λr:DU×Int=>r.1=x.1/\x.2.2.2.1<=r.2/\r.2<=x.2.2.2.2) (λy:DU×Int×HD×Int×Int=>(∀p,Tot (y.2.2.1 p) λ_=>True)/\0<=y.2.1/\y.2.1<y.1.length/\0<=y.2.2.2.1/\y.2.2.2.1<=y.2.2.2.2/\y.2.2.2.2<=y.1.length/\y.1.length<=1048576/\y.1=x.1/\x.2.2.2.1<=y.2.2.2.1/\y.2.2.2.2<=x.2.2.2.2)
  (λy=>(y.2.2.2.2-y.2.2.2.1).toNat) ?_ _ _ ⟨h.1,h.2.1,h.2.2.1,h.2.2.2.1,h.2.2.2.2.1,h.2.2.2.2.2.1,h.2.2.2.2.2.2,rfl,AR _,AR _⟩ (by obtain⟨_,_,_,_,_,_,_⟩:=h;unfold fuel;omega)
 rintro next ⟨d,C,b,a,j⟩ h m
 dsimp only at h m;obtain⟨h0,h1,z,D,H,E,A,e,B,G⟩:=h;unfold A45;dsimp only;refine DO.2 ⟨λl=>?_,λl=>DN.2 ⟨e,B,om⟩⟩;have l:=AB l;refine DM.2 (SE oa oa oa oa ?_);have s:i64.wrap ((a+j) / 2)=(a+j) / 2:=EH oa oa;have w:i64.wrap ((a+j) / 2+1)=(a+j) / 2+1:=EH oa oa;rw[s,w];refine DM.2 (EV.2 ⟨⟨oa,oa⟩,?_⟩);refine DM.2 (EV.2 ⟨⟨oa,oa⟩,?_⟩);refine DM.2 ((h0 _).mono λI _=>?_);refine DO.2 ⟨λ_=>?_,λ_=>?_⟩
 .exact m _ ⟨h0,h1,z,om,om,E,A,e,om,G⟩ om
 .exact m _ ⟨h0,h1,z,D,om,om,A,e,B,om⟩ om
def AKu(slf:DU×Int×Int×Int×HD->Option DU)(x:DU×Int×Int)(h:0<=x.2.1/\x.2.1<=x.1.length/\0<=x.2.2/\x.1.length<=1048576):
 Tot (vT slf x) (λr:List (DL×DL)=>r.length=x.1.length/\∀q∈r,q∈x.1):=by
 refine ES (R:=λr:List (DL×DL)=>r.length=x.1.length/\∀q∈r,q∈x.1) (λy:DU×Int×Int=>0<=y.2.1/\y.2.1<=y.1.length/\0<=y.2.2/\y.1.length<=1048576/\y.1.length=x.1.length/\∀q∈y.1,q∈x.1)
  (λy=>(y.2.1-y.2.2).toNat) ?_ _ _ ⟨h.1,h.2.1,h.2.2.1,h.2.2.2,rfl,λq b=>b⟩ (by obtain⟨_,_,_,_⟩:=h;unfold fuel;omega)
 rintro next ⟨e,d,a⟩ h m
 dsimp only at h m;obtain⟨h1,w,z,A,p,j⟩:=h;unfold A46;dsimp only;rw[EH (n:=d-1) oa oa];refine DO.2 ⟨λl=>?_,λl=>DN.2 ⟨p,j⟩⟩;have l:=AB l;have s:i64.wrap (a+1)=a+1:=EH oa oa;rw[s];refine DM.2 (EV.2 ⟨⟨oa,oa⟩,?_⟩);refine DM.2 (EV.2 ⟨⟨oa,oa⟩,?_⟩);refine DM.2 (EV.2 ⟨⟨oa,oa⟩,?_⟩);refine DM.2 (EV.2 ⟨⟨oa,by rw[B0];omega⟩,?_⟩);refine m _ ⟨h1,by simp only[B0];omega,om,by simp only[B0];omega,by simp only[B0];omega,λq b=>?_⟩ om;rcases EA b with b|rfl
 .rcases EA b with b|rfl
  .exact j q b
  .exact j _ (E9 oa)
 .exact j _ (E9 oa)
def AKv(slf:DU×Int×Int×Int×HD->Option DU)(x:DU×Int×Int)(h:0<=x.2.1/\x.2.2<x.1.length/\x.1.length<=1048576):
 Tot (vV slf x) (λr:List (DL×DL)=>r.length=x.1.length/\∀q∈r,q∈x.1):=by
 refine ES (R:=λr:List (DL×DL)=>r.length=x.1.length/\∀q∈r,q∈x.1) (λy:DU×Int×Int=>0<=y.2.1/\y.2.2<y.1.length/\y.1.length<=1048576/\y.1.length=x.1.length/\∀q∈y.1,q∈x.1)
  (λy=>(y.2.2-y.2.1).toNat) ?_ _ _ ⟨h.1,h.2.1,h.2.2,rfl,λq b=>b⟩ (by obtain⟨_,_,_⟩:=h;unfold fuel;omega)
 rintro next ⟨d,m,a⟩ h l
 dsimp only at h l;obtain⟨h1,w,z,p,e⟩:=h;unfold A48;dsimp only;refine DO.2 ⟨λj=>?_,λj=>DN.2 ⟨p,e⟩⟩;have j:=AB j;have s:i64.wrap (a-1)=a-1:=EH oa oa;rw[s];refine DM.2 (EV.2 ⟨⟨oa,oa⟩,?_⟩);refine DM.2 (EV.2 ⟨⟨oa,oa⟩,?_⟩);refine DM.2 (EV.2 ⟨⟨oa,oa⟩,?_⟩);refine DM.2 (EV.2 ⟨⟨oa,by rw[B0];omega⟩,?_⟩);refine l _ ⟨h1,by simp only[B0];omega,by simp only[B0];omega,by simp only[B0];omega,λq b=>?_⟩ om;rcases EA b with b|rfl
 .rcases EA b with b|rfl
  .exact e q b
  .exact e _ (E9 oa)
 .exact e _ (E9 oa)
def AKw(slf:DU×Int×Int×Int×HD->Option DU)(x:DU×Int×HD×Int×Int)(h:(∀p,Tot (x.2.2.1 p) λ_=>True)/\0<=x.2.1/\x.2.1<x.1.length/\0<=x.2.2.2.1/\x.2.2.2.1<=x.2.2.2.2/\x.2.2.2.2<=x.1.length/\x.1.length<=1048576):
 Tot (vU slf x) (λr:DU×Int=>r.1=x.1/\x.2.2.2.1<=r.2/\r.2<=x.2.2.2.2):=by
 refine ES (R:=λr:DU×Int=>r.1=x.1/\x.2.2.2.1<=r.2/\r.2<=x.2.2.2.2) (λy:DU×Int×HD×Int×Int=>(∀p,Tot (y.2.2.1 p) λ_=>True)/\0<=y.2.1/\y.2.1<y.1.length/\0<=y.2.2.2.1/\y.2.2.2.1<=y.2.2.2.2/\y.2.2.2.2<=y.1.length/\y.1.length<=1048576/\y.1=x.1/\x.2.2.2.1<=y.2.2.2.1/\y.2.2.2.2<=x.2.2.2.2)
  (λy=>(y.2.2.2.2-y.2.2.2.1).toNat) ?_ _ _ ⟨h.1,h.2.1,h.2.2.1,h.2.2.2.1,h.2.2.2.2.1,h.2.2.2.2.2.1,h.2.2.2.2.2.2,rfl,AR _,AR _⟩ (by obtain⟨_,_,_,_,_,_,_⟩:=h;unfold fuel;omega)
 rintro next ⟨d,G,b,a,j⟩ h m
 dsimp only at h m;obtain⟨h0,h1,z,C,I,D,A,e,B,E⟩:=h;unfold A47;dsimp only;refine DO.2 ⟨λl=>?_,λl=>DN.2 ⟨e,B,om⟩⟩;have l:=AB l;refine DM.2 (SE oa oa oa oa ?_);have s:i64.wrap ((a+j) / 2)=(a+j) / 2:=EH oa oa;have w:i64.wrap ((a+j) / 2+1)=(a+j) / 2+1:=EH oa oa;rw[s,w];refine DM.2 (EV.2 ⟨⟨oa,oa⟩,?_⟩);refine DM.2 (EV.2 ⟨⟨oa,oa⟩,?_⟩);refine DM.2 ((h0 _).mono λH _=>?_);refine DO.2 ⟨λ_=>?_,λ_=>?_⟩
 .exact m _ ⟨h0,h1,z,om,om,D,A,e,om,E⟩ om
 .exact m _ ⟨h0,h1,z,C,om,om,A,e,B,om⟩ om
def AKx(slf:DU×Int×Int×Int×HD->Option DU)(x:DU×HD×Int×Int×Int)(h:(∀p,Tot (x.2.1 p) λ_=>True)/\0<=x.2.2.1/\x.2.2.1<=x.2.2.2.1/\x.2.2.2.1<=x.1.length/\x.2.2.2.1-1<=x.2.2.2.2/\x.2.2.2.2-x.2.2.1<x.1.length/\x.1.length<=1048576):
 Tot (vW slf x) (λr:DU×Int=>r.1=x.1/\x.2.2.1<=r.2/\r.2<=x.2.2.2.1):=by
 refine ES (R:=λr:DU×Int=>r.1=x.1/\x.2.2.1<=r.2/\r.2<=x.2.2.2.1) (λy:DU×HD×Int×Int×Int=>(∀p,Tot (y.2.1 p) λ_=>True)/\0<=y.2.2.1/\y.2.2.1<=y.2.2.2.1/\y.2.2.2.1<=y.1.length/\y.2.2.2.1-1<=y.2.2.2.2/\y.2.2.2.2-y.2.2.1<y.1.length/\y.1.length<=1048576/\y.1=x.1/\x.2.2.1<=y.2.2.1/\y.2.2.2.1<=x.2.2.2.1)
  (λy=>(y.2.2.2.1-y.2.2.1).toNat) ?_ _ _ ⟨h.1,h.2.1,h.2.2.1,h.2.2.2.1,h.2.2.2.2.1,h.2.2.2.2.2.1,h.2.2.2.2.2.2,rfl,AR _,AR _⟩ (by obtain⟨_,_,_,_,_,_,_⟩:=h;unfold fuel;omega)
 rintro next ⟨d,e,s,a,b⟩ h m
 dsimp only at h m;obtain⟨h0,h1,I,D,E,G,B,j,C,H⟩:=h;unfold A49;dsimp only;refine DO.2 ⟨λl=>?_,λl=>DN.2 ⟨j,C,om⟩⟩;have l:=AB l;refine DM.2 (SE oa oa oa oa ?_);have w:i64.wrap ((s+a) / 2)=(s+a) / 2:=EH oa oa;have z:i64.wrap ((s+a) / 2+1)=(s+a) / 2+1:=EH oa oa;have A:i64.wrap (b-(s+a) / 2)=b-(s+a) / 2:=EH oa oa;rw[w,z,A];refine DM.2 (EV.2 ⟨⟨oa,oa⟩,?_⟩);refine DM.2 (EV.2 ⟨⟨oa,oa⟩,?_⟩);refine DM.2 ((h0 _).mono λJ _=>?_);refine DO.2 ⟨λ_=>?_,λ_=>?_⟩
 .exact m _ ⟨h0,om,om,D,E,om,B,j,om,H⟩ om
 .exact m _ ⟨h0,h1,om,om,om,G,B,j,C,om⟩ om
def AKy(slf:DU×Int×Int×Int×HD->Option DU)(x:DU×Int×HD×Int×Int×Bool)(h:x.1.length<=1048576/\(x.2.2.2.2.2=true->0<=x.2.2.2.1/\x.2.2.2.1<x.2.1/\x.2.1<x.2.2.2.2.1/\x.2.2.2.2.1<=x.1.length)):
 Tot (gW slf x) (λr:List (DL×DL)=>r.length=x.1.length/\∀q∈r,q∈x.1):=by
 obtain⟨d,z,a,s,e,b⟩:=x;dsimp only at h;unfold gW;dsimp only;refine DO.2 ⟨λp=>?_,λ_=>DN.2 ⟨rfl,λq w=>w⟩⟩;have⟨h1,j,l,m⟩:=h.2 p;exact DM.2 ((AKs _ ⟨h1,j,l,m,h.1⟩).mono λr y=>DN.2 y)
def AKz(slf:DU×Int×Int×Int×HD->Option DU)(K:Int)(H:∀y:DU×Int×Int×Int×HD,((∀p,Tot (y.2.2.2.2 p) λ_=>True)/\0<=y.2.1/\y.2.1<y.2.2.1/\y.2.2.1<y.2.2.2.1/\y.2.2.2.1<=y.1.length/\y.1.length<=1048576)->y.2.2.2.1-y.2.1<=K->Tot (slf y) (λr:List (DL×DL)=>r.length=y.1.length/\∀q∈r,q∈y.1))(x:DU×Int×Int×Int×HD)(h:(∀p,Tot (x.2.2.2.2 p) λ_=>True)/\0<=x.2.1/\x.2.1<x.2.2.1/\x.2.2.1<x.2.2.2.1/\x.2.2.2.1<=x.1.length/\x.1.length<=1048576)(O:x.2.2.2.1-x.2.1<=2*K):
 Tot (vX slf x) (λr:List (DL×DL)=>r.length=x.1.length/\∀q∈r,q∈x.1):=by
 obtain⟨d,b,m,l,w⟩:=x;dsimp only at h O;obtain⟨h0,h1,h2,h3,N,z⟩:=h;unfold vX;dsimp only;rw[EH (n:=m-b) oa oa,EH (n:=l-m) oa oa];refine DO.2 ⟨λ_=>?_,λ_=>DO.2 ⟨λ_=>?_,λ_=>?_⟩⟩
 .refine DM.2 ((AKt slf _ ⟨h0,h1,om,om,om,N,z⟩).mono λW a=>?_);dsimp only at a;obtain⟨j,C,D⟩:=a;refine DM.2 ((AKu slf _ ⟨om,by dsimp only;rw[j];omega,h1,by dsimp only;rw[j];exact z⟩).mono λX a=>DN.2 ?_);dsimp only at a;rw[j]at a;exact a
 .refine DM.2 ((AKw slf _ ⟨h0,om,om,h1,om,om,z⟩).mono λW a=>?_);dsimp only at a;obtain⟨j,C,D⟩:=a;refine DM.2 ((AKv slf _ ⟨om,by dsimp only;rw[j];omega,by dsimp only;rw[j];exact z⟩).mono λX a=>DN.2 ?_);dsimp only at a;rw[j]at a;exact a
 .refine DM.2 (SE oa oa oa oa ?_);generalize G:(b+l) / 2=mid;rw[EH (n:=mid) oa oa,EH (n:=mid+m) oa oa,EH (n:=mid+m-1) oa oa];have Q:Tot (gV slf (b,m,l,mid,mid+m,decide (mid<m))) λr:Int×Int=>0<=r.1/\b<=r.1/\mid+m-l<=r.1/\r.1<=r.2/\r.2<=m/\r.2<=mid+m/\mid+m-1-r.1<d.length:=by
   unfold gV;dsimp only;refine DO.2 ⟨λe=>DN.2 ?_,λe=>DN.2 ?_⟩
   .have e:=AB e;rw[EH oa oa];dsimp only;omega
   .have e:=AG e;dsimp only;omega
  refine DM.2 (Q.mono λR a=>?_);obtain⟨f1,Y,Z,J,f5,f6,L⟩:=a;refine DM.2 ((AKx slf _ ⟨h0,f1,J,om,om,L,z⟩).mono λs a=>?_);dsimp only at a;obtain⟨j,C,D⟩:=a;rw[EH (n:=mid+m-s.2) oa oa];refine DM.2 ((AKy slf _ ⟨by dsimp only;rw[j];exact z,λe=>?_⟩).mono λB a=>?_)
  .dsimp only at e ⊢;rw[A5,BA,BA]at e;rw[j];omega
  dsimp only at a;rw[j]at a;obtain⟨M,E⟩:=a;have A:Tot (gX slf (B,b,w,mid,s.2,decide (b<s.2)&&decide (s.2<mid))) λr:List (DL×DL)=>r.length=d.length/\∀q∈r,q∈d:=by unfold gX;dsimp only;refine DO.2 ⟨λe=>?_,λ_=>DN.2 ⟨M,E⟩⟩;rw[A5,BA,BA]at e;refine DM.2 ((H _ ⟨h0,h1,om,om,om,om⟩ om).mono λT a=>DN.2 ?_);dsimp only at a;exact⟨oa,λq A=>E q (a.2 q A)⟩
  refine DM.2 (A.mono λU a=>?_);obtain⟨k1,I⟩:=a;refine DO.2 ⟨λe=>?_,λ_=>DN.2 ⟨k1,I⟩⟩;rw[A5,BA,BA]at e;refine DM.2 ((H _ ⟨h0,om,om,om,om,om⟩ om).mono λV a=>DN.2 ?_);dsimp only at a;exact⟨oa,λq A=>I q (a.2 q A)⟩
def AL0:∀(n:Nat) (x:DU×Int×Int×Int×HD) (h:(∀p,Tot (x.2.2.2.2 p) λ_=>True)/\0<=x.2.1/\x.2.1<x.2.2.1/\x.2.2.1<x.2.2.2.1/\x.2.2.2.1<=x.1.length/\x.1.length<=1048576) (a:x.2.2.2.1-x.2.1<=2 ^ n),Tot (MF n x) (λr:List (DL×DL)=>r.length=x.1.length/\∀q∈r,q∈x.1):=by
 intro n;induction n with
 |zero=>intro x h a;obtain⟨_,h1,e,j,_,_⟩:=h;rw[Int.pow_zero]at a;omega
 |succ n d=>intro x h a;refine AKz (MF n) (2 ^ n) (λy b hk=>d y b hk) x h ?_;rw[Int.pow_succ]at a;omega
instance A6y:t6 ZR (λx=>(∀p,Tot (x.2.2.2.2 p) λ_=>True)/\0<=x.2.1/\x.2.1<x.2.2.1/\x.2.2.1<x.2.2.2.1/\x.2.2.2.1<=x.1.length/\x.1.length<=1048576) (λx r=>r.length=x.1.length/\∀q∈r,q∈x.1):=⟨λx h=>by unfold ZR;refine AL0 100 x h ?_;obtain⟨_,h1,a,b,d,e⟩:=h;have:(1048576:Int)<=2 ^ 100:=oi;omega⟩
def AL1{s p:DL}(h:Lib.hasPrefix s p=true):p.length<=s.length:=(List.isPrefixOf_iff_prefix.1 h).length_le
instance A6z:t6 strings_HasPrefix (λ_=>True) (λx r=>r=true->x.2.length<=x.1.length):=⟨λx h=>DN.2 AL1⟩
theorem oL(s p:DL):(Lib.trimPrefix s p).length<=s.length:=by
 unfold Lib.trimPrefix;split
 .rw[C9];omega
 .exact AD _
def AL2(x:DL×DL)(h:True):Tot (strings_TrimPrefix x) (λr:DL=>r.length<=x.1.length):=DN.2 (oL _ _)
def AL3(x:DL×DL)(h:True):Tot (strings_CutPrefix x) (λr:DL×Bool=>r.1.length<=x.1.length):=DN.2 (oL _ _)
instance A70:t6 strings_Cut (λx=>x.1.length<=1048576) (λx r=>r.1.length<=x.1.length/\r.2.1.length<=x.1.length):=⟨λx h=>by
 unfold strings_Cut IT;rw[A7 oa];refine DN.2 ?_;unfold Lib.cut;split
 .simp only[BQ,C9];omega
 .simp⟩
def AL4(x:DL×Int)(h:x.1.length<=1048576):Tot (strings_LastIndexByte x) (λr:Int=>-1<=r/\r<x.1.length):=by
 unfold strings_LastIndexByte IT;rw[A7 oa];refine DN.2 ?_;have a:(⟨x.1.toArray⟩:ByteArray).size=x.1.length:=by simp[ByteArray.size]
 rcases Lib.lastIndexByte_spec ⟨x.1.toArray⟩ x.2 with⟨e,_⟩|⟨i,hi,e,_⟩<;>rw[e]<;>omega
def AL5:∀(k u m:Nat),u<10 ^ m->1<=m->(N0 k u).length<=m:=by
 intro k;induction k with
 |zero=>intro u m _ _;simp[N0]
 |succ k e=>
  intro u m a d;simp only[N0];split
  .simpa using d
  .rename_i h;obtain⟨j,rfl⟩:∃j,m=j+1:=⟨m-1,oa⟩;have b:1<=j:=by
    rcases j with _|j
    .simp at a;omega
    .omega
   have:=e (u / 10) j (by rw[Nat.pow_succ]at a;omega) b;simp only[AI,BL,C4];omega
def AL6:∀(k u:Nat),1<=k->1<=(N0 k u).length:=by intro k u h;obtain⟨j,rfl⟩:∃j,k=j+1:=⟨k-1,oa⟩;simp only[N0];split<;>simp
instance KF:t6 strconv_Itoa (λ_=>True) (λx r=>1<=r.length/\r.length<=21/\(0<=x->x<=999999999999999999->r.length<=18)):=⟨λx h=>by
 refine DN.2 ⟨?_,A3Y x,?_⟩
 .unfold RV;split
  .simp
  .exact AL6 20 _ oi
 .intro h0 h1;unfold RV;rw[if_neg oa];exact AL5 20 _ 18 (by have a:(10:Nat) ^ 18=1000000000000000000:=(oi);omega) oi⟩
def U7(b:UInt8):Prop:=48<=b.toNat/\b.toNat<=57
def AL7:∀(l:DL) (a k:Nat),(∀b∈l,U7 b)->a<10 ^ k->l.length+k<=18->∃u,Lib.parseUint10 a l=.ok u/\u<10 ^ 18:=by
 intro l;induction l with
 |nil=>intro a k _ h1 h;exact⟨a,rfl,AO h1 (Nat.pow_le_pow_right oi (by simpa using h))⟩
 |cons c r p=>
  intro a k d h1 h;have s:r.length+1+k<=18:=by simpa using h
  have w:10 ^ k<=10 ^ 17:=Nat.pow_le_pow_right oi oa;have e:(10:Nat) ^ 17=100000000000000000:=oi;have m:48<=c.toNat/\c.toNat<=57:=d c AE;simp only[Lib.parseUint10];rw[if_pos m,if_neg oa,if_neg oa];exact p _ (k+1) (λb j=>d b (AN _ j)) (by rw[Nat.pow_succ];omega) oa
def A0A(s:DL)(h0:s≠[])(h:∀b∈s,U7 b)(l:s.length<=18):∃u:Nat,Lib.atoiAll s=.ok (u:Int)/\u<1000000000000000000:=by
 cases s with
 |nil=>exact absurd rfl h0
 |cons c r=>have j:=h c AE;unfold U7 at j;have⟨u,e,d⟩:=AL7 (c::r) 0 0 h oi l;have a:(10:Nat) ^ 18=1000000000000000000:=oi;rw[a]at d;refine⟨u,?_,d⟩;unfold Lib.atoiAll;simp only;rw[if_neg oa];unfold Lib.parseMag;rw[if_neg oh,e];simp only;rw[if_neg oa,if_neg oa,if_neg oa]
def AL8(x:DL)(h:x.length<=1048576):Tot (fO x) (λr:Int×Unit=>x≠[]->(∀b∈x,U7 b)->x.length<=18->0<=r.1/\r.1<=999999999999999999):=by
 unfold fO IT;rw[A7 oa];show Tot (match Lib.atoiAll x with| .ok v=>some (v,())| .range=>some (Lib.atoiSat x,())|_=>some (0,())) _;cases e:Lib.atoiAll x with
 |ok v=>refine DN.2 λh1 d j=>?_;have⟨u,a,l⟩:=A0A x h1 d j;rw[e]at a;injection a with a;subst a;dsimp only;omega
 |range=>exact DN.2 λh1 d j=>by have⟨u,a,_⟩:=A0A x h1 d j;rw[e]at a;cases a
 |_=>exact DN.2 λh1 d j=>by have⟨u,a,_⟩:=A0A x h1 d j;rw[e]at a;cases a
instance AL9:t6 strings_Repeat (λx=>x.1.length=1/\0<=x.2/\x.2<=1048576) (λx r=>(r.length:Int)=x.2):=⟨λx h=>by unfold strings_Repeat IT;rw[A7 (by rw[h.1];omega)];refine DN.2 ?_;rw[Lib.repeatL_length,h.1];omega⟩
def ALA(r:Int):(Lib.encodeRune r).length<=4:=by
 unfold Lib.encodeRune Lib.encodeRuneZ;rw[B2]
 repeat' split
 all_goals simp
def ALB(f:Int->Int):∀(n:Nat) (l:DL),(Lib.mapGoD f n l).length<=4*n:=by
 intro n;induction n with
 |zero=>intro l;simp[Lib.mapGoD]
 |succ n a=>
  intro l;simp only[Lib.mapGoD];split
  .simp
  .rw[AI];have h1:=a (l.drop (Lib.decodeL l).2);have h:(if 0<=f (Lib.decodeL l).1 then Lib.encodeRune (f (Lib.decodeL l).1)else []).length<=4:=by
    split
    .exact ALA _
    .simp
   omega
instance A71:t6 ZE (λx=>x.length<=1048576) (λx r=>r.length<=4*x.length):=⟨λx h=>by unfold ZE IT;rw[A7 oa];have h1:(Lib.toLowerD x).length<=4*x.length:=ALB _ _ _;show Tot (str? _) _;unfold str?;rw[A7 oa];exact DN.2 h1⟩
def ALC(p:Nat->Bool)(s:ByteArray):∀(f pos:Nat) (st:Option Nat) (b:List (Nat×Nat)),(Lib.spansFromP p s f pos st b).1.length<=b.length+f:=by
 intro f;induction f with
 |zero=>intro pos st b;simp[Lib.spansFromP]
 |succ f d=>
  intro pos st b;simp only[Lib.spansFromP];split
  .split
   .cases st with
    |some a=>have:=d (pos+(Utf8.decode s pos).2) none (b++[(a,pos)]);simp only[AI,BL,C4]at this ⊢;omega
    |none=>have:=d (pos+(Utf8.decode s pos).2) none b;dsimp only;omega
   .cases st with
    |some a=>have:=d (pos+(Utf8.decode s pos).2) (some a) b;dsimp only;omega
    |none=>have:=d (pos+(Utf8.decode s pos).2) (some pos) b;dsimp only;omega
  .simp
def ALD(p:Nat->Bool)(s:ByteArray):(Lib.goFieldsP p s).length<=s.size+1:=by
 unfold Lib.goFieldsP Lib.spansOfP Lib.closeSpans;rw[B2];have:=ALC p s s.size 0 none [];simp only[C4]at this;split
 .rw[AI];simp only[BL,C4];omega
 .omega
def ALE(p:Nat->Bool)(s:ByteArray):∀b∈Lib.goFieldsP p s,b.size<=s.size:=by intro b h;unfold Lib.goFieldsP at h;obtain⟨x,_,rfl⟩:=B_.1 h;rw[CG];omega
def ALF(x:DL×N7)(h:x.1.length<=1048576/\∀c,Tot (x.2 c) λ_=>True):Tot (VO x) (λr:List DL=>r.length<=x.1.length+1/\∀s∈r,s.length<=x.1.length):=by
 have d:(⟨x.1.toArray⟩:ByteArray).size=x.1.length:=by simp[ByteArray.size]
 have a:=λp=>ALD p ⟨x.1.toArray⟩;rw[d]at a;unfold VO IT;rw[@decide_eq_true _ (Classical.propDecidable _) ⟨oa,λr _=>let ⟨b,e,_⟩:=h.2 r;⟨b,e⟩,by have:=a λr=>(x.2 (r:Int)).getD false;omega⟩];refine DN.2 ⟨?_,?_⟩
 .rw[B2];exact a _
 .intro s h1;obtain⟨b,j,rfl⟩:=B_.1 h1;have:=ALE _ _ b j;rw[d]at this;have e:b.data.toList.length=b.size:=by rw[BG];rfl
  omega
abbrev Nm(n:Int):Prop:=0<=n/\n<=999999999999999999
abbrev Nm1(n:Int):Prop:=-1<=n/\n<=999999999999999999
abbrev LS(l:List DL):Prop:=l.length<=1002/\∀s∈l,s.length<=1000
abbrev NS(l:List Int):Prop:=l.length<=1002/\∀n∈l,0<=n/\n<=999999999999999999
abbrev TS(l:List LQ):Prop:=l.length<=1002/\∀t∈l,t.2.1.length<=5000/\0<=t.2.2/\t.2.2<=999999999999999999
abbrev Dt:=(List Int)×(List DL)
abbrev Rv:=Int×DL×DL×Bool
abbrev Sg:=Int×(List Int)×Int×Int×Int×Int×(List DL)
abbrev Ql:=List LQ
abbrev Vr:=Sum KP (Sum K9 (Sum FS (Sum H0 (Sum Int Unit))))
abbrev oM(v:Dt):Prop:=v.1.length=3/\(∀n∈v.1,0<=n/\n<=999999999999999999)/\v.2.length<=1002/\∀s∈v.2,s.length<=1000
abbrev bU(v:Rv):Prop:=Nm v.1/\v.2.1.length<=1000/\v.2.2.1.length<=1000
abbrev P0(v:Sg):Prop:=Nm v.1/\NS v.2.1/\(0<=v.2.2.1/\v.2.2.1<=3)/\Nm v.2.2.2.1/\Nm1 v.2.2.2.2.1/\Nm1 v.2.2.2.2.2.1/\LS v.2.2.2.2.2.2
def MI(v:Vr):Prop:=match v with
 | .inl d=>oM d
 | .inr (.inl r)=>bU r
 | .inr (.inr (.inl s))=>P0 s
 | .inr (.inr (.inr (.inl q)))=>TS q
 | .inr (.inr (.inr (.inr (.inl n))))=>Nm n
 | .inr (.inr (.inr (.inr (.inr _))))=>False
theorem ALG(d:Dt):MI (.inl d)=oM d:=rfl
theorem ALH(d:Rv):MI (.inr (.inl d))=bU d:=rfl
theorem ALI(d:Sg):MI (.inr (.inr (.inl d)))=P0 d:=rfl
theorem ALJ(d:Ql):MI (.inr (.inr (.inr (.inl d))))=TS d:=rfl
theorem ALK(d:Int):MI (.inr (.inr (.inr (.inr (.inl d)))))=Nm d:=rfl
theorem EK{α:Type}{l:List α}{i j:Nat}{a:α}:a∈(l.take i).drop j->a∈l:=λh=>List.mem_of_mem_take (List.mem_of_mem_drop h)
theorem EJ{α:Type}(l:List α)(i j:Nat):((l.take i).drop j).length=min i l.length-j:=oh
def oN{xs:List DL}{sep:DL}{m k c:Nat}:(∀s∈xs,s.length<=m)->xs.length<=k->sep.length<=c->(Lib.join xs sep).length<=k*(m+c):=λh hk a=>AM (A06 sep m xs h) (Nat.mul_le_mul hk oa)
theorem EM(s:DL):DQ s []=decide (s.length=0):=by rw[E0];cases s<;>simp
def ALL(x:DL×Int×N7×Int)(h:0<=x.2.2.2/\0<=x.2.1/\x.2.1+x.2.2.2<=x.1.length/\x.1.length<=1048576/\(∀c,Tot (x.2.2.1 c) λ_=>True)/\(∀j:Nat,x.2.1<=j->j<x.2.1+x.2.2.2->∀c,x.1[j]?=some c->x.2.2.1 (c.toNat:Int)=some true)):
 Tot (wA x) (λr:Int=>x.2.2.2<=r/\x.2.1+r<=x.1.length/\(∀j:Nat,x.2.1<=j->j<x.2.1+r->∀c,x.1[j]?=some c->x.2.2.1 (c.toNat:Int)=some true)/\∀c,x.1[(x.2.1+r).toNat]?=some c->x.2.2.1 (c.toNat:Int)=some false):=by
 obtain⟨s,at_,f,n⟩:=x;dsimp only at h ⊢
 refine ES (R:=λr:Int=>n<=r/\at_+r<=s.length/\(∀j:Nat,at_<=j->j<at_+r->∀c,s[j]?=some c->f (c.toNat:Int)=some true)/\∀c,s[(at_+r).toNat]?=some c->f (c.toNat:Int)=some false)
  (λy:DL×Int×N7×Int=>y.1=s/\y.2.1=at_/\y.2.2.1=f/\n<=y.2.2.2/\at_+y.2.2.2<=s.length/\(∀j:Nat,at_<=j->j<at_+y.2.2.2->∀c,s[j]?=some c->f (c.toNat:Int)=some true)) (λy=>(s.length-at_-y.2.2.2).toNat) ?_ _ _ ⟨rfl,rfl,rfl,AR _,h.2.2.1,h.2.2.2.2.2⟩ (by unfold fuel;dsimp only;omega)
 rintro next ⟨J,d,K,m⟩ D H
 dsimp only at D H;obtain⟨rfl,rfl,rfl,h1,C,p⟩:=D;obtain⟨L,M,N,O,I,_⟩:=h;unfold A4H;dsimp only;rw[EH oa oa];by_cases G:d+m<J.length
 .rw[A7 G];simp only[A6,BK];refine DM.2 (EI.2 ⟨⟨oa,oa⟩,λb E=>?_⟩);have⟨r,B,_⟩:=I (b.toNat:Int);rw[B];refine DM.2 (DN.2 ?_);refine DO.2 ⟨λe=>?_,λe=>DN.2 ⟨h1,C,p,λc a=>?_⟩⟩
  .subst e;rw[EH oa oa];refine H _ ⟨rfl,rfl,rfl,om,om,?_⟩ om;intro j w z c l;dsimp only at z;by_cases A:(j:Int)<d+m
   .exact p j w A c l
   .have:j=(d+m).toNat:=oa;subst this;rw[E]at l;cases l;exact B
  .subst e;rw[E]at a;cases a;exact B
 .rw[A9 G];simp only[A8,D0];refine DM.2 (DN.2 ?_);refine DM.2 (DN.2 ?_);refine DN.2 ⟨h1,C,p,λc a=>?_⟩;have:=(A3.1 a).1;omega
def oO(x:DL×Int×N7)(h:0<=x.2.1/\x.2.1<=x.1.length/\x.1.length<=1048576/\(∀c,Tot (x.2.2 c) λ_=>True)):
 Tot (J5 x) (λr:Int=>0<=r/\x.2.1+r<=x.1.length/\(∀j:Nat,x.2.1<=j->j<x.2.1+r->∀c,x.1[j]?=some c->x.2.2 (c.toNat:Int)=some true)/\∀c,x.1[(x.2.1+r).toNat]?=some c->x.2.2 (c.toNat:Int)=some false):=by
 obtain⟨s,a,f⟩:=x;dsimp only at h ⊢;unfold J5;refine DM.2 ((ALL _ ⟨AR _,h.1,om,h.2.2.1,h.2.2.2,λj h1 b=>by dsimp only at h1 b;omega⟩).mono λr d=>DN.2 ?_);exact d
def ALM(x:DL×Int×N7)(h:0<=x.2.1/\x.2.1<=x.1.length/\x.1.length<=1048576/\(∀c,Tot (x.2.2 c) λ_=>True)):
 Tot (J5 x) (λr:Int=>0<=r/\x.2.1+r<=x.1.length):=(oO x h).mono λ_ a=>⟨a.1,a.2.1⟩
def O6(x:DL×Int×N7)(a:∀c,Tot (x.2.2 c) (λ_=>True))(h:0<=x.2.1/\x.2.1<=x.1.length/\x.1.length<=1048576):
 Tot (J5 x) (λr:Int=>0<=r/\x.2.1+r<=x.1.length):=ALM x ⟨h.1,h.2.1,h.2.2,a⟩
instance:t6 J5 (λx=>(∀c,Tot (x.2.2 c) (λ_=>True))/\0<=x.2.1/\x.2.1<=x.1.length/\x.1.length<=1048576) (λx r=>0<=r/\x.2.1+r<=x.1.length):=⟨λx h=>O6 x h.1 h.2⟩
def clo{α a:Type}{f:α->Option a}{P:a->Prop}{c:α}(h:Tot (f c) P):Tot ((f c).bind λr=>some r) λ_=>True:=DM.2 (h.mono λ_ _=>DN.2 trivial)
def A72(c:Int):Tot ((H1 c).bind λr=>some r) λ_=>True:=⟨_,rfl,trivial⟩
instance HH:t6 H1 (λ_=>True) (λ_ _=>True):=⟨λc h=>⟨_,rfl,trivial⟩⟩
instance JO:t6 NA (λ_=>True) (λ_ _=>True):=⟨λc h=>⟨_,rfl,trivial⟩⟩
def ALN(c:Int)(h:True):Tot (wG c) λ_=>True:=⟨_,rfl,trivial⟩
def A73(c:Int)(h:True):Tot (wJ c) λ_=>True:=⟨_,rfl,trivial⟩
def A74(b:UInt8)(h:((H1 (b.toNat:Int)).bind λr=>some r)=some true):U7 b:=by unfold H1 at h;simp at h;unfold U7;omega
instance M0:t6 KC (λs=>s.length<=1048576) (λ_ r=>0<=r.1/\r.1<=999999999999999999):=⟨λs h=>by
 unfold KC;dsimp only;cases x:(DQ s []||decide ((18:Int)<(s.length:Int)))with
 |true=>simp only[BS,A8,Bool.true_or,A6];exact DM.2 (DN.2 (DN.2 oi))
 |false=>
  simp only[CH,A6,C0];refine DM.2 ((oO _ ⟨AR _,om,h,A72⟩).mono λr l=>?_);refine DO.2 ⟨λ_=>DN.2 oi,λe=>?_⟩;refine DM.2 ((AL8 s h).mono λz m=>DN.2 ?_);have a:=(BM.1 x);have y:r=s.length:=by simpa[DT]using e
  dsimp only at l;refine m (by simpa[E0]using a.1) (λb p=>?_) (by have:=AG a.2;omega);have⟨j,w,d⟩:=List.mem_iff_getElem.1 p;exact A74 b (l.2.2.1 j oa oa b (by rw[<-d];exact A1 w))⟩
def qP{p:Prop}(h:p:=by grind[fuel]):p:=h
def ALO(x:(List DZ)×Int×HG×Int)(h:(∀p,Tot (x.2.2.1 p) λ_=>True)/\0<=x.2.1/\x.2.1<=x.2.2.2/\x.2.2.2<x.1.length/\x.1.length<=1048576):
 Tot (x6 x) (λr:List DZ=>r.length=x.1.length/\∀q∈r,q∈x.1):=by
 refine ES (R:=λr:List DZ=>r.length=x.1.length/\∀q∈r,q∈x.1) (λy:(List DZ)×Int×HG×Int=>(∀p,Tot (y.2.2.1 p) λ_=>True)/\0<=y.2.1/\y.2.1<=y.2.2.2/\y.2.2.2<y.1.length/\y.1.length<=1048576/\y.1.length=x.1.length/\∀q∈y.1,q∈x.1)
  (λy=>y.2.2.2.toNat) ?_ _ _ ⟨h.1,h.2.1,h.2.2.1,h.2.2.2.1,h.2.2.2.2,rfl,λq a=>a⟩ (by exact qP)
 rintro next ⟨d,b,e,j⟩ h m
 dsimp only at h m;obtain⟨h0,h1,A,B,C,s,l⟩:=h;unfold A4f;dsimp only;by_cases w:b<j
 .have z:i64.wrap (j-1)=j-1:=EH oa oa;simp only[z,A7 w,A6,BK];refine DM.2 (EV.2 ⟨⟨oa,oa⟩,?_⟩);refine DM.2 (EV.2 ⟨⟨oa,oa⟩,?_⟩);refine DM.2 ((h0 _).mono λD _=>?_);refine DO.2 ⟨λ_=>?_,λ_=>DN.2 ⟨s,l⟩⟩;refine DM.2 (EV.2 ⟨⟨oa,oa⟩,?_⟩);refine DM.2 (EV.2 ⟨⟨oa,oa⟩,?_⟩);refine DM.2 (EV.2 ⟨⟨oa,oa⟩,?_⟩);refine DM.2 (EV.2 ⟨⟨oa,oc⟩,?_⟩);refine m _ ⟨h0,h1,oc,oc,oc,oc,λq a=>?_⟩ oc;rcases EA a with a|rfl
  .rcases EA a with a|rfl
   .exact l q a
   .exact l _ (E9 oa)
  grind[E9]
 simp_all[A9,A8,D0,DM,DN]
theorem ALP(x:(List DZ)×Int×Int×HG×Int)(h:(∀p,Tot (x.2.2.2.1 p) λ_=>True)/\0<=x.2.1/\x.2.1<=x.2.2.2.2/\x.2.2.1<=x.1.length/\x.2.2.2.2<=1048577/\x.1.length<=1048576):
 Tot (x7 x) (λr:List DZ=>r.length=x.1.length/\∀q∈r,q∈x.1):=by
 refine ES (R:=λr:List DZ=>r.length=x.1.length/\∀q∈r,q∈x.1) (λy:(List DZ)×Int×Int×HG×Int=>(∀p,Tot (y.2.2.2.1 p) λ_=>True)/\0<=y.2.1/\y.2.1<=y.2.2.2.2/\y.2.2.1<=y.1.length/\y.2.2.2.2<=1048577/\y.1.length<=1048576/\y.1.length=x.1.length/\∀q∈y.1,q∈x.1)
  (λy=>(y.2.2.1-y.2.2.2.2).toNat) ?_ _ _ ⟨h.1,h.2.1,h.2.2.1,h.2.2.2.1,h.2.2.2.2.1,h.2.2.2.2.2,rfl,λq B=>B⟩ (by exact qP)
 rintro next ⟨d,j,l,b,a⟩ h A
 dsimp only at h A;obtain⟨h0,h1,m,D,E,s,w,z⟩:=h;unfold A4g;dsimp only;refine DO.2 ⟨λe=>?_,λ_=>DN.2 ⟨w,z⟩⟩;have e:=AB e;have C:i64.wrap (a+1)=a+1:=EH oa oa;rw[C];refine DM.2 ((ALO _ ⟨h0,h1,m,oc,s⟩).mono λr G=>?_);grind
instance A75:t6 aI (λx=>(∀p,Tot (x.2.2.2 p) λ_=>True)/\0<=x.2.1/\x.2.1<=1048576/\x.2.2.1<=x.1.length/\x.1.length<=1048576) (λx r=>r.length=x.1.length/\∀q∈r,q∈x.1):=⟨λx h=>by grind[aI,EH,DM,ALP,DN]⟩
def ALQ(x:(List DZ)×Int×Int×Int×Int)(h:0<=x.2.1/\0<=x.2.2.1/\x.2.1+x.2.2.2.1<=x.1.length/\x.2.2.1+x.2.2.2.1<=x.1.length/\0<=x.2.2.2.2/\x.1.length<=1048576):
 Tot (x8 x) (λr:List DZ=>r.length=x.1.length/\∀q∈r,q∈x.1):=by
 refine ES (R:=λr:List DZ=>r.length=x.1.length/\∀q∈r,q∈x.1) (λy:(List DZ)×Int×Int×Int×Int=>0<=y.2.1/\0<=y.2.2.1/\y.2.1+y.2.2.2.1<=y.1.length/\y.2.2.1+y.2.2.2.1<=y.1.length/\0<=y.2.2.2.2/\y.1.length<=1048576/\y.1.length=x.1.length/\∀q∈y.1,q∈x.1)
  (λy=>(y.2.2.2.1-y.2.2.2.2).toNat) ?_ _ _ ⟨h.1,h.2.1,h.2.2.1,h.2.2.2.1,h.2.2.2.2.1,h.2.2.2.2.2,rfl,λq A=>A⟩ (by exact qP)
 rintro next ⟨e,b,d,B,a⟩ h z
 dsimp only at h z;obtain⟨h1,C,D,E,G,H,s,w⟩:=h;unfold A4h;dsimp only;refine DO.2 ⟨λp=>?_,λ_=>DN.2 ⟨s,w⟩⟩;have p:=AB p;have j:i64.wrap (b+a)=b+a:=EH oa oa;have l:i64.wrap (d+a)=d+a:=EH oa oa;have m:i64.wrap (a+1)=a+1:=EH oa oa;rw[j,l,m];refine DM.2 (EV.2 ⟨⟨oa,oa⟩,?_⟩);refine DM.2 (EV.2 ⟨⟨oa,oa⟩,?_⟩);refine DM.2 (EV.2 ⟨⟨oa,oa⟩,?_⟩);refine DM.2 (EV.2 ⟨⟨oa,oc⟩,?_⟩);grind
def A0B(x:(List DZ)×Int×Int×Int×HG)(h:0<=x.2.1/\0<=x.2.2.1/\x.2.1+x.2.2.2.1<=x.1.length/\x.2.2.1+x.2.2.2.1<=x.1.length/\x.1.length<=1048576):
 Tot (V_ x) (λr:List DZ=>r.length=x.1.length/\∀q∈r,q∈x.1):=by
 obtain⟨d,b,e,w,a⟩:=x;obtain⟨h1,j,l,m,p⟩:=h;unfold V_;dsimp only;exact DM.2 ((ALQ _ ⟨h1,j,l,m,AR _,p⟩).mono λr s=>DN.2 s)
def ALR(x:(List DZ)×Int×HG×Int×Int)(h:0<x.2.2.2.1/\0<x.2.2.2.2/\x.2.2.2.1<=x.2.1/\x.2.1+x.2.2.2.2<=x.1.length/\x.1.length<=1048576):
 Tot (x9 x) (λr:(List DZ)×Int=>r.1.length=x.1.length/\(∀q∈r.1,q∈x.1)/\0<r.2/\r.2<=x.2.1/\x.2.1+r.2<=x.1.length):=by
 refine ES (R:=λr:(List DZ)×Int=>r.1.length=x.1.length/\(∀q∈r.1,q∈x.1)/\0<r.2/\r.2<=x.2.1/\x.2.1+r.2<=x.1.length) (λy:(List DZ)×Int×HG×Int×Int=>0<y.2.2.2.1/\0<y.2.2.2.2/\y.2.2.2.1<=y.2.1/\y.2.1+y.2.2.2.2<=y.1.length/\y.1.length<=1048576/\y.1.length=x.1.length/\(∀q∈y.1,q∈x.1)/\y.2.1=x.2.1)
  (λy=>(y.2.2.2.1+y.2.2.2.2).toNat) ?_ _ _ ⟨h.1,h.2.1,h.2.2.1,h.2.2.2.1,h.2.2.2.2,rfl,(λq G=>G),rfl⟩ (by exact qP)
 rintro next ⟨d,m,l,a,j⟩ h E
 dsimp only at h E;obtain⟨h1,I,J,K,B,C,D,L⟩:=h;unfold A4i;dsimp only;refine DO.2 ⟨λe=>?_,λe=>DN.2 ⟨C,D,h1,oa,?_⟩⟩
 .have e:a≠j:=by rw[DT]at e;simpa using e
  have p:i64.wrap (m-a)=m-a:=EH oa oa;have s:i64.wrap (m+j)=m+j:=EH oa oa;have w:i64.wrap (m+j-a)=m+j-a:=EH oa oa;have z:i64.wrap (a-j)=a-j:=EH oa oa;have A:i64.wrap (j-a)=j-a:=EH oa oa;rw[p,s,w,z,A];refine DO.2 ⟨λb=>?_,λb=>?_⟩
  .have b:=AB b;refine DM.2 ((A0B _ ⟨oc,oc,oc,oa,B⟩).mono λr H=>?_);grind
  .have b:=AG b;refine DM.2 ((A0B _ ⟨oc,oc,oc,oc,B⟩).mono λr H=>?_);grind
 grind[DT]
theorem ALS(x:(List DZ)×Int×Int×Int×HG)(h:0<=x.2.1/\x.2.1<x.2.2.1/\x.2.2.1<x.2.2.2.1/\x.2.2.2.1<=x.1.length/\x.1.length<=1048576):
 Tot (jS x) (λr:List DZ=>r.length=x.1.length/\∀q∈r,q∈x.1):=by
 obtain⟨d,a,m,b,e⟩:=x;dsimp only at h;obtain⟨h1,A,B,C,l⟩:=h;unfold jS;dsimp only;rw[EH (n:=m-a) oa oa,EH (n:=b-m) oa oa];refine DM.2 ((ALR _ ⟨oc,oc,oc,oc,l⟩).mono λr j=>?_);dsimp only at j;obtain⟨p,s,w,y,z⟩:=j;rw[EH (n:=m-r.2) oa oa];refine DM.2 ((A0B _ ⟨oc,oc,oc,oc,oc⟩).mono λD j=>DN.2 ?_);grind
def ALT(slf:(List DZ)×Int×Int×Int×HG->Option (List DZ))(x:(List DZ)×Int×HG×Int×Int)(h:(∀p,Tot (x.2.2.1 p) λ_=>True)/\0<=x.2.1/\x.2.1<x.1.length/\0<=x.2.2.2.1/\x.2.2.2.1<=x.2.2.2.2/\x.2.2.2.2<=x.1.length/\x.1.length<=1048576):
 Tot (xA slf x) (λr:(List DZ)×Int=>r.1=x.1/\x.2.2.2.1<=r.2/\r.2<=x.2.2.2.2):=by
 refine ES (R:=λr:(List DZ)×Int=>r.1=x.1/\x.2.2.2.1<=r.2/\r.2<=x.2.2.2.2) (λy:(List DZ)×Int×HG×Int×Int=>(∀p,Tot (y.2.2.1 p) λ_=>True)/\0<=y.2.1/\y.2.1<y.1.length/\0<=y.2.2.2.1/\y.2.2.2.1<=y.2.2.2.2/\y.2.2.2.2<=y.1.length/\y.1.length<=1048576/\y.1=x.1/\x.2.2.2.1<=y.2.2.2.1/\y.2.2.2.2<=x.2.2.2.2)
  (λy=>(y.2.2.2.2-y.2.2.2.1).toNat) ?_ _ _ ⟨h.1,h.2.1,h.2.2.1,h.2.2.2.1,h.2.2.2.2.1,h.2.2.2.2.2.1,h.2.2.2.2.2.2,rfl,AR _,AR _⟩ (by exact qP)
 rintro next ⟨d,s,b,a,j⟩ h A
 dsimp only at h A;obtain⟨h0,h1,B,C,D,E,G,w,z,H⟩:=h;unfold A4j;dsimp only;refine DO.2 ⟨λe=>?_,λe=>DN.2 ⟨w,z,oa⟩⟩;have e:=AB e;refine DM.2 (SE oa oa oa oa ?_);have l:i64.wrap ((a+j) / 2)=(a+j) / 2:=EH oa oa;have m:i64.wrap ((a+j) / 2+1)=(a+j) / 2+1:=EH oa oa;rw[l,m];refine DM.2 (EV.2 ⟨⟨oa,oa⟩,?_⟩);refine DM.2 (EV.2 ⟨⟨oa,oa⟩,?_⟩);refine DM.2 ((h0 _).mono λI _=>?_);grind
theorem ALU(slf:(List DZ)×Int×Int×Int×HG->Option (List DZ))(x:(List DZ)×Int×Int)(h:0<=x.2.1/\x.2.1<=x.1.length/\0<=x.2.2/\x.1.length<=1048576):
 Tot (xB slf x) (λr:List DZ=>r.length=x.1.length/\∀q∈r,q∈x.1):=by
 refine ES (R:=λr:List DZ=>r.length=x.1.length/\∀q∈r,q∈x.1) (λy:(List DZ)×Int×Int=>0<=y.2.1/\y.2.1<=y.1.length/\0<=y.2.2/\y.1.length<=1048576/\y.1.length=x.1.length/\∀q∈y.1,q∈x.1)
  (λy=>(y.2.1-y.2.2).toNat) ?_ _ _ ⟨h.1,h.2.1,h.2.2.1,h.2.2.2,rfl,λq p=>p⟩ (by exact qP)
 rintro next ⟨d,b,a⟩ h m
 dsimp only at h m;obtain⟨h1,w,z,A,j,l⟩:=h;unfold A4k;dsimp only;rw[EH (n:=b-1) oa oa];refine DO.2 ⟨λe=>?_,λe=>DN.2 ⟨j,l⟩⟩;have e:=AB e;have s:i64.wrap (a+1)=a+1:=EH oa oa;rw[s];refine DM.2 (EV.2 ⟨⟨oa,oa⟩,?_⟩);refine DM.2 (EV.2 ⟨⟨oa,oa⟩,?_⟩);refine DM.2 (EV.2 ⟨⟨oa,oa⟩,?_⟩);refine DM.2 (EV.2 ⟨⟨oa,oc⟩,?_⟩);grind
theorem ALV(slf:(List DZ)×Int×Int×Int×HG->Option (List DZ))(x:(List DZ)×Int×Int)(h:0<=x.2.1/\x.2.2<x.1.length/\x.1.length<=1048576):
 Tot (xD slf x) (λr:List DZ=>r.length=x.1.length/\∀q∈r,q∈x.1):=by
 refine ES (R:=λr:List DZ=>r.length=x.1.length/\∀q∈r,q∈x.1) (λy:(List DZ)×Int×Int=>0<=y.2.1/\y.2.2<y.1.length/\y.1.length<=1048576/\y.1.length=x.1.length/\∀q∈y.1,q∈x.1)
  (λy=>(y.2.2-y.2.1).toNat) ?_ _ _ ⟨h.1,h.2.1,h.2.2,rfl,λq b=>b⟩ (by exact qP)
 rintro next ⟨d,m,a⟩ h l
 dsimp only at h l;obtain⟨h1,w,z,p,e⟩:=h;unfold A4m;dsimp only;refine DO.2 ⟨λj=>?_,λj=>DN.2 ⟨p,e⟩⟩;have j:=AB j;have s:i64.wrap (a-1)=a-1:=EH oa oa;rw[s];refine DM.2 (EV.2 ⟨⟨oa,oa⟩,?_⟩);refine DM.2 (EV.2 ⟨⟨oa,oa⟩,?_⟩);refine DM.2 (EV.2 ⟨⟨oa,oa⟩,?_⟩);refine DM.2 (EV.2 ⟨⟨oa,oc⟩,?_⟩);refine l _ ⟨h1,oc,oc,oc,λq b=>?_⟩ oc;rcases EA b with b|rfl
 .rcases EA b with b|rfl
  .exact e q b
  .exact e _ (E9 oa)
 grind[E9]
def ALW(slf:(List DZ)×Int×Int×Int×HG->Option (List DZ))(x:(List DZ)×Int×HG×Int×Int)(h:(∀p,Tot (x.2.2.1 p) λ_=>True)/\0<=x.2.1/\x.2.1<x.1.length/\0<=x.2.2.2.1/\x.2.2.2.1<=x.2.2.2.2/\x.2.2.2.2<=x.1.length/\x.1.length<=1048576):
 Tot (xC slf x) (λr:(List DZ)×Int=>r.1=x.1/\x.2.2.2.1<=r.2/\r.2<=x.2.2.2.2):=by
 refine ES (R:=λr:(List DZ)×Int=>r.1=x.1/\x.2.2.2.1<=r.2/\r.2<=x.2.2.2.2) (λy:(List DZ)×Int×HG×Int×Int=>(∀p,Tot (y.2.2.1 p) λ_=>True)/\0<=y.2.1/\y.2.1<y.1.length/\0<=y.2.2.2.1/\y.2.2.2.1<=y.2.2.2.2/\y.2.2.2.2<=y.1.length/\y.1.length<=1048576/\y.1=x.1/\x.2.2.2.1<=y.2.2.2.1/\y.2.2.2.2<=x.2.2.2.2)
  (λy=>(y.2.2.2.2-y.2.2.2.1).toNat) ?_ _ _ ⟨h.1,h.2.1,h.2.2.1,h.2.2.2.1,h.2.2.2.2.1,h.2.2.2.2.2.1,h.2.2.2.2.2.2,rfl,AR _,AR _⟩ (by exact qP)
 rintro next ⟨d,A,b,a,j⟩ h z
 dsimp only at h z;obtain⟨h0,h1,C,D,E,G,H,s,w,I⟩:=h;unfold A4l;dsimp only;refine DO.2 ⟨λe=>?_,λe=>DN.2 ⟨s,w,oa⟩⟩;have e:=AB e;refine DM.2 (SE oa oa oa oa ?_);have l:i64.wrap ((a+j) / 2)=(a+j) / 2:=EH oa oa;have m:i64.wrap ((a+j) / 2+1)=(a+j) / 2+1:=EH oa oa;rw[l,m];refine DM.2 (EV.2 ⟨⟨oa,oa⟩,?_⟩);refine DM.2 (EV.2 ⟨⟨oa,oa⟩,?_⟩);refine DM.2 ((h0 _).mono λB _=>?_);grind
def ALX(slf:(List DZ)×Int×Int×Int×HG->Option (List DZ))(x:(List DZ)×HG×Int×Int×Int)(h:(∀p,Tot (x.2.1 p) λ_=>True)/\0<=x.2.2.1/\x.2.2.1<=x.2.2.2.1/\x.2.2.2.1<=x.1.length/\x.2.2.2.1-1<=x.2.2.2.2/\x.2.2.2.2-x.2.2.1<x.1.length/\x.1.length<=1048576):
 Tot (xE slf x) (λr:(List DZ)×Int=>r.1=x.1/\x.2.2.1<=r.2/\r.2<=x.2.2.2.1):=by
 refine ES (R:=λr:(List DZ)×Int=>r.1=x.1/\x.2.2.1<=r.2/\r.2<=x.2.2.2.1) (λy:(List DZ)×HG×Int×Int×Int=>(∀p,Tot (y.2.1 p) λ_=>True)/\0<=y.2.2.1/\y.2.2.1<=y.2.2.2.1/\y.2.2.2.1<=y.1.length/\y.2.2.2.1-1<=y.2.2.2.2/\y.2.2.2.2-y.2.2.1<y.1.length/\y.1.length<=1048576/\y.1=x.1/\x.2.2.1<=y.2.2.1/\y.2.2.2.1<=x.2.2.2.1)
  (λy=>(y.2.2.2.1-y.2.2.1).toNat) ?_ _ _ ⟨h.1,h.2.1,h.2.2.1,h.2.2.2.1,h.2.2.2.2.1,h.2.2.2.2.2.1,h.2.2.2.2.2.2,rfl,AR _,AR _⟩ (by exact qP)
 rintro next ⟨d,e,s,a,b⟩ h B
 dsimp only at h B;obtain⟨h0,h1,C,D,E,G,H,z,A,I⟩:=h;unfold A4n;dsimp only;refine DO.2 ⟨λj=>?_,λj=>DN.2 ⟨z,A,oa⟩⟩;have j:=AB j;refine DM.2 (SE oa oa oa oa ?_);have l:i64.wrap ((s+a) / 2)=(s+a) / 2:=EH oa oa;have m:i64.wrap ((s+a) / 2+1)=(s+a) / 2+1:=EH oa oa;have w:i64.wrap (b-(s+a) / 2)=b-(s+a) / 2:=EH oa oa;rw[l,m,w];refine DM.2 (EV.2 ⟨⟨oa,oa⟩,?_⟩);refine DM.2 (EV.2 ⟨⟨oa,oa⟩,?_⟩);refine DM.2 ((h0 _).mono λJ _=>?_);grind
def ALY(slf:(List DZ)×Int×Int×Int×HG->Option (List DZ))(x:(List DZ)×Int×HG×Int×Int×Bool)(h:x.1.length<=1048576/\(x.2.2.2.2.2=true->0<=x.2.2.2.1/\x.2.2.2.1<x.2.1/\x.2.1<x.2.2.2.2.1/\x.2.2.2.2.1<=x.1.length)):
 Tot (jU slf x) (λr:List DZ=>r.length=x.1.length/\∀q∈r,q∈x.1):=by
 obtain⟨d,m,a,s,e,b⟩:=x;dsimp only at h;unfold jU;dsimp only;refine DO.2 ⟨λl=>?_,λ_=>DN.2 ⟨rfl,λq j=>j⟩⟩;grind[DM,ALS,DN]
def ALZ(slf:(List DZ)×Int×Int×Int×HG->Option (List DZ))(K:Int)(D:∀y:(List DZ)×Int×Int×Int×HG,((∀p,Tot (y.2.2.2.2 p) λ_=>True)/\0<=y.2.1/\y.2.1<y.2.2.1/\y.2.2.1<y.2.2.2.1/\y.2.2.2.1<=y.1.length/\y.1.length<=1048576)->y.2.2.2.1-y.2.1<=K->Tot (slf y) (λr:List DZ=>r.length=y.1.length/\∀q∈r,q∈y.1))(x:(List DZ)×Int×Int×Int×HG)(h:(∀p,Tot (x.2.2.2.2 p) λ_=>True)/\0<=x.2.1/\x.2.1<x.2.2.1/\x.2.2.1<x.2.2.2.1/\x.2.2.2.1<=x.1.length/\x.1.length<=1048576)(L:x.2.2.2.1-x.2.1<=2*K):
 Tot (xF slf x) (λr:List DZ=>r.length=x.1.length/\∀q∈r,q∈x.1):=by
 obtain⟨d,b,m,e,s⟩:=x;dsimp only at h L;obtain⟨h0,h1,h2,h3,J,w⟩:=h;unfold xF;dsimp only;rw[EH (n:=m-b) oa oa,EH (n:=e-m) oa oa];refine DO.2 ⟨λ_=>?_,λ_=>DO.2 ⟨λ_=>?_,λ_=>?_⟩⟩
 .refine DM.2 ((ALT slf _ ⟨h0,h1,oc,oc,oc,J,w⟩).mono λU a=>?_);grind[DM,ALU,DN]
 .refine DM.2 ((ALW slf _ ⟨h0,oc,oc,h1,oc,oc,w⟩).mono λU a=>?_);grind[DM,ALV,DN]
 .refine DM.2 (SE oa oa oa oa ?_);generalize C:(b+e) / 2=mid;rw[EH (n:=mid) oa oa,EH (n:=mid+m) oa oa,EH (n:=mid+m-1) oa oa];have M:Tot (jT slf (b,m,e,mid,mid+m,decide (mid<m))) λr:Int×Int=>0<=r.1/\b<=r.1/\mid+m-e<=r.1/\r.1<=r.2/\r.2<=m/\r.2<=mid+m/\mid+m-1-r.1<d.length:=by
   unfold jT;dsimp only;refine DO.2 ⟨λl=>DN.2 ?_,λl=>DN.2 ?_⟩
   .have l:=AB l;grind[EH]
   .grind
  refine DM.2 (M.mono λO a=>?_);obtain⟨f1,X,Y,G,Z,f6,H⟩:=a;refine DM.2 ((ALX slf _ ⟨h0,f1,G,oc,oc,H,w⟩).mono λj a=>?_);dsimp only at a;obtain⟨E,V,W⟩:=a;rw[EH (n:=mid+m-j.2) oa oa];refine DM.2 ((ALY slf _ ⟨oc,λl=>?_⟩).mono λA a=>?_)
  .grind
  dsimp only at a;rw[E]at a;obtain⟨I,B⟩:=a;have z:Tot (jV slf (A,b,s,mid,j.2,decide (b<j.2)&&decide (j.2<mid))) λr:List DZ=>r.length=d.length/\∀q∈r,q∈d:=by unfold jV;dsimp only;refine DO.2 ⟨λl=>?_,λ_=>DN.2 ⟨I,B⟩⟩;rw[A5,BA,BA]at l;refine DM.2 ((D _ ⟨h0,h1,oc,oc,oc,oc⟩ oc).mono λQ a=>DN.2 ?_);dsimp only at a;exact⟨oa,λq z=>B q (a.2 q z)⟩
  refine DM.2 (z.mono λR a=>?_);obtain⟨k1,N⟩:=a;refine DO.2 ⟨λl=>?_,λ_=>DN.2 ⟨k1,N⟩⟩;rw[A5,BA,BA]at l;refine DM.2 ((D _ ⟨h0,oc,oc,oc,oc,oc⟩ oc).mono λT a=>DN.2 ?_);grind
theorem AL_:∀(n:Nat) (x:(List DZ)×Int×Int×Int×HG) (h:(∀p,Tot (x.2.2.2.2 p) λ_=>True)/\0<=x.2.1/\x.2.1<x.2.2.1/\x.2.2.1<x.2.2.2.1/\x.2.2.2.1<=x.1.length/\x.1.length<=1048576) (a:x.2.2.2.1-x.2.1<=2 ^ n),Tot (MG n x) (λr:List DZ=>r.length=x.1.length/\∀q∈r,q∈x.1):=by
 intro n;induction n with
 |zero=>omega
 |succ n d=>intro x h a;refine ALZ (MG n) (2 ^ n) (λy b hk=>d y b hk) x h ?_;omega
instance A76:t6 aJ (λx=>(∀p,Tot (x.2.2.2.2 p) λ_=>True)/\0<=x.2.1/\x.2.1<x.2.2.1/\x.2.2.1<x.2.2.2.1/\x.2.2.2.1<=x.1.length/\x.1.length<=1048576) (λx r=>r.length=x.1.length/\∀q∈r,q∈x.1):=⟨λx h=>by unfold aJ;grind[AL_]⟩
theorem A77:∀(x y:DL),Op.bytesLess x y=decide (x<y):=by
 intro x;induction x with
 |nil=>intro y;cases y<;>simp[Op.bytesLess]
 |cons a x e=>
  intro y;cases y with
  |nil=>simp[Op.bytesLess]
  |cons b y=>rw[Op.bytesLess,e y];simp only[List.cons_lt_cons_iff];by_cases h1:a<b<;>by_cases h:a=b<;>by_cases d:x<y<;>simp[h1,h,d]
theorem MJ(a:DL):¬a<a:=List.lt_irrefl a
def X6{a b c:DL}(h1:a<b)(h:b<c):a<c:=List.lt_trans h1 h
theorem oP(a b:DL):a<b\/a=b\/b<a:=by
 by_cases h1:a<b
 .exact Or.inl h1
 .by_cases h:b<a
  .exact Or.inr (Or.inr h)
  .exact Or.inr (Or.inl (List.le_antisymm (List.not_lt.1 h) (List.not_lt.1 h1)))
def A78{a b c:DL}(h1:¬a<b)(e:¬b<c):¬a<c:=by
 intro h;rcases oP a b with d|d|d
 .exact h1 d
 .subst d;exact e h
 .exact e (X6 d h)
theorem oQ{a b:DL}(h1:a<b):¬b<a:=λh=>MJ a (X6 h1 h)
def JF(a b:DL):Int:=if a<b then -1 else if a=b then 0 else 1
theorem X7(a b:DL):LV (a,b)=some (JF a b):=by
 unfold LV VT JF;have e:∀s:DL,DQ s s=true:=λs=>by rw[E0];simp
 simp only[e,BS,A0,A8,A77,E0];by_cases h:a=b
 .subst h;simp[MJ]
 .by_cases h1:a<b<;>simp[h1,h]
theorem U8(a b:DL):JF a b<0<->a<b:=by
 unfold JF;by_cases h:a=b
 .subst h;simp[MJ]
 .by_cases h1:a<b<;>simp[h1,h]
def O7(a b:Int):Int:=if a<b then -1 else if b<a then 1 else 0
theorem oR(a b:Int):QC (a,b)=some (O7 a b):=by
 unfold QC gG O7;have e:∀s:Int,DP s s=true:=λs=>by rw[DT];simp
 simp only[e,BS,A0,A8];by_cases h1:a<b<;>by_cases h:b<a<;>simp[h1,h]
section
variable{T:Type}
theorem A0C(xs:List T)(F:T×T->Option Int)(h:TI xs F):Tot (NW xs F) (λr=>r.Perm xs/\r.Pairwise (λa b=>∀c,F (b,a)=some c->0<=c)):=by
 unfold NW;split
 .rename_i h0;unfold IT;rw[A7 h];refine DN.2 ?_
  letI:Inhabited (Fin xs.length):=⟨⟨0,h0⟩⟩
  have D:Sort.SWO (IL xs F):=⟨h.2.1,h.2.2.1,h.2.2.2⟩;have x:=Sort.pdq_sorts (IL xs F) D (Array.ofFn id) 0 xs.length (Lib.bitLen xs.length) true true (AS _) oh (Or.inl rfl);have e:L3 xs F h0=Sort.pdq (IL xs F) (Array.ofFn id) 0 xs.length (Lib.bitLen xs.length) true true:=A3Z xs F h0;rw[e];generalize Sort.pdq (IL xs F) (Array.ofFn id) 0 xs.length (Lib.bitLen xs.length) true true=d at x;obtain⟨⟨h1,_,s⟩,B⟩:=x;have l:d.size=xs.length:=by rw[h1];simp
  have y:d.extract 0 xs.length=d:=by have:=Array.extract_size (xs:=d);rwa[l]at this
  have z:(Array.ofFn (id:Fin xs.length->Fin xs.length)).extract 0 xs.length=Array.ofFn id:=by have:=Array.extract_size (xs:=Array.ofFn (id:Fin xs.length->Fin xs.length));rwa[Array.size_ofFn]at this
  rw[y,z]at s;constructor
  .have C:=s.map xs.get;have A:(Array.ofFn (id:Fin xs.length->Fin xs.length)).toList.map xs.get=xs:=by
    rw[Array.toList_ofFn,List.map_ofFn];apply List.ext_getElem
    .simp
    .intro i h1 E;simp
   rwa[A]at C
  .rw[List.pairwise_map,C2];intro i j hi G p c w;have H:d.toList.length=xs.length:=by rw[BG];exact l
   have m:=B i j (AS _) p oa;rw[getElem!_pos d i oa,getElem!_pos d j oa]at m;unfold IL NV at m;rw[Array.getElem_toList,Array.getElem_toList]at w;rw[w]at m;simpa using m
 .rename_i h0;have:xs=[]:=List.length_eq_zero_iff.1 oa;subst this;exact DN.2 ⟨List.Perm.refl _,List.Pairwise.nil⟩
def ALa(xs:List T)(F:T×T->Option Int)(key:T->DL)(h:∀a b,F (a,b)=some (JF (key a) (key b))):TI xs F:=by
 have e:∀i j,IL xs F i j=decide (key (xs.get i)<key (xs.get j)):=by intro i j;unfold IL NV;rw[h];simp[U8]
 refine⟨λi j=>by rw[h];rfl,λi=>?_,λi j k=>?_,λi j k=>?_⟩
 .rw[e];simp[MJ]
 .rw[e,e,e];simp only[BA];exact X6
 .rw[e,e,e];simp only[CX];exact A78
def A79(xs:List T)(F:T×T->Option Int)(key:T->DL)(e:∀a b,F (a,b)=some (JF (key a) (key b))):
 Tot (NW xs F) (λr=>r.Perm xs/\r.Pairwise (λa b=>¬key b<key a)):=
 (A0C xs F (ALa xs F key e)).mono λr j=>⟨j.1,j.2.imp λ{a b} h d=>by have:=h _ (e b a);have:=(U8 (key b) (key a)).2 d;omega⟩
end
abbrev Edge:=Int×DL×Bool×DL
abbrev I9:=Edge×Edge
def eo(a b:Edge):Int:=if a.1≠b.1\/a.1≠0 then O7 a.1 b.1 else if JF a.2.1 b.2.1≠0\/a.2.2.1=b.2.2.1 then JF a.2.1 b.2.1 else if a.2.2.1 then 1 else -1
theorem A7A(a b:Edge):NB (a,b)=some (eo a b):=by
 unfold NB eo;dsimp only;rw[oR,X7];simp only[A0,DT];by_cases h1:a.1=b.1
 .by_cases h:a.1=0
  .have j:I6 a.2.2.1 b.2.2.1=decide (a.2.2.1=b.2.2.1):=by cases a.2.2.1<;>cases b.2.2.1<;>rfl
   rw[j];by_cases d:JF a.2.1 b.2.1=0<;>by_cases e:a.2.2.1=b.2.2.1<;>simp[<-h1,h,d,e]<;>(cases a.2.2.1<;>simp)
  .simp[<-h1,h]
 .simp[h1]
def L7(a b:Edge):Prop:=a.1<b.1\/(a.1=b.1/\a.1=0/\(a.2.1<b.2.1\/(a.2.1=b.2.1/\a.2.2.1=false/\b.2.2.1=true)))
def A7B(a b:Edge):eo a b<0<->L7 a b:=by
 unfold eo L7 O7;by_cases h1:a.1=b.1
 .by_cases j:a.1=0
  .have d:b.1=0:=oa;have l:¬(a.1≠b.1\/a.1≠0):=oa;rw[if_neg l];rcases oP a.2.1 b.2.1 with h|h|h
   .have:JF a.2.1 b.2.1= -1:=by unfold JF;rw[if_pos h]
    rw[this];simp[h1,d,h]
   .have:JF a.2.1 b.2.1=0:=by unfold JF;rw[if_neg (by rw[h];exact MJ _),if_pos h]
    rw[this,h];cases p:a.2.2.1<;>cases m:b.2.2.1<;>simp[h1,d,MJ]
   .have e:¬a.2.1=b.2.1:=λe=>by rw[e]at h;exact MJ _ h
    have:JF a.2.1 b.2.1=1:=by unfold JF;rw[if_neg (oQ h),if_neg e]
    rw[this];simp[h1,d,oQ h,e]
  .have d:¬b.1=0:=oa;simp[h1,d]
 .simp only[ne_eq,h1,not_false_eq_true,true_or,if_true,DC,or_false];by_cases j:a.1<b.1
  .simp[j]
  .by_cases h:b.1<a.1
   .simp[j,h]
   .omega
instance(a b:Edge):Decidable (L7 a b):=by unfold L7;infer_instance
def ALb(a:Edge):¬L7 a a:=by
 rintro(h|⟨_,_,h|⟨_,h1,b⟩⟩)
 .omega
 .exact MJ _ h
 .rw[h1]at b;cases b
def ALc{a b c:Edge}(h1:L7 a b)(h:L7 b c):L7 a c:=by
 unfold L7 at *;rcases h1 with h1|⟨p1,j,p⟩
 .rcases h with h|⟨m,s,d⟩<;>exact Or.inl oa
 .rcases h with h|⟨m,s,d⟩
  .exact Or.inl oa
  .refine Or.inr ⟨oa,j,?_⟩;rcases p with p|⟨p,x,l⟩
   .rcases d with d|⟨d,e,w⟩
    .exact Or.inl (X6 p d)
    .exact Or.inl (d▸p)
   .rcases d with d|⟨d,e,w⟩
    .exact Or.inl (p▸d)
    .rw[l]at e;cases e
def ALd{a b c:Edge}(h1:¬L7 a b)(j:¬L7 b c):¬L7 a c:=by
 intro h;unfold L7 at *;simp only[not_or,not_and]at h1 j;obtain⟨D,l⟩:=h1;obtain⟨E,s⟩:=j;rcases h with h|⟨p1,A,p⟩
 .omega
 .have x:a.1=b.1:=oa;have y:b.1=c.1:=oa;have⟨d,m⟩:=l x A;have⟨e,w⟩:=s y oa;rcases p with p|⟨p,B,C⟩
  .exact A78 d e p
  .rcases oP a.2.1 b.2.1 with g|g|g
   .exact d g
   .have z:b.2.1=c.2.1:=g▸p;have:=m g B;have:=w z (by cases G:b.2.2.1<;>simp_all);exact this C
   .exact e (p▸g)
def A7C(xs:List I9):Tot (uQ (xs,λx=>(QE x).bind λr=>some r)) (λr=>r.Perm xs/\r.Pairwise λa b=>¬L7 b.1 a.1):=by
 have d:∀a b:I9,(QE (a,b)).bind (λr=>some r)=some (eo a.1 b.1):=by intro a b;unfold QE;dsimp only;rw[A7A];rfl
 have e:∀i j,IL xs (λx=>(QE x).bind λr=>some r) i j=decide (L7 (xs.get i).1 (xs.get j).1):=by intro i j;unfold IL NV;show decide ((((QE (xs.get i,xs.get j)).bind λr=>some r).getD 0)<0)=_;rw[d];simp only[DD];exact decide_eq_decide.2 (A7B _ _)
 have p:TI xs (λx=>(QE x).bind λr=>some r):=by
  refine⟨λi j=>by show((QE (xs.get i,xs.get j)).bind λr=>some r).isSome=true;rw[d];rfl,λi=>?_,λi j k=>?_,λi j k=>?_⟩
  .rw[e];simp[ALb]
  .rw[e,e,e];simp only[BA];exact ALc
  .rw[e,e,e];simp only[CX];exact ALd
 refine(A0C xs _ p).mono λr m=>⟨m.1,m.2.imp λ{a b} h l=>?_⟩;have:=h _ (d b a);have:=(A7B b.1 a.1).2 l;omega
abbrev Af:=DL×Int×JK×(List DL)×(List DL)
abbrev FG:=DL×(List DL)×DL×Int×Bool×DL×(List Af)
abbrev Bnd:=Bool×Bool×DL
abbrev SF:=Bnd×Bnd
def O8(a:Af):Prop:=a.1.length<=1048576/\a.2.2.1.length<=1048576/\(∀v∈a.2.2.1,v.2.length<=1048576)/\a.2.2.2.1.length<=1048576/\(∀s∈a.2.2.2.1,s.length<=1048576)/\a.2.2.2.2.length<=1048576/\(∀s∈a.2.2.2.2,s.length<=1048576)
def AfK(a:Af):Prop:=a.2.2.1.length<=100/\(∀v∈a.2.2.1,1<=v.1/\v.1<=3)/\a.2.2.2.1.length<=500
def L8(a:FG):Prop:=a.1.length<=1048576/\a.2.1.length<=1048576/\(∀s∈a.2.1,s.length<=1048576)/\a.2.2.1.length<=1048576/\a.2.2.2.2.2.1.length<=1048576/\a.2.2.2.2.2.2.length<=1048576/\∀x∈a.2.2.2.2.2.2,O8 x
abbrev GQ(s:SF):Prop:=s.1.2.2.length<=100/\s.2.2.2.length<=100
abbrev GY(s:I9):Prop:=s.1.2.2.2.length<=100/\s.2.2.2.2.length<=100
def O9{α:Type}{l:List α}{i:Nat}{x:α}(h:l[i]?=some x):x∈l:=AH h
instance ALe:t6 QC (λ_=>True) (λ_ _=>True):=⟨λx h=>⟨_,oR x.1 x.2,trivial⟩⟩
instance SG:t6 NB (λ_=>True) (λ_ _=>True):=⟨λx h=>⟨_,A7A x.1 x.2,trivial⟩⟩
def qu{p:Prop}(h:p:=by grind[E5,E4,E8,E0,DT,E7,E6,E3,E9,EA,EK,EJ,EM,EL,EN,EO,EP]):p:=h
def ti{p:Prop}(h:p:=by
 intros;try dsimp only at *
 repeat' first
  |(with_reducible first|refine DO.2 ⟨λ_=>?_,λ_=>?_⟩|refine DM.2 ?_|refine DN.2 ?_|refine EI.2 ⟨?_,λ_ _=>?_⟩|refine EV.2 ⟨?_,?_⟩|refine I8.2 ⟨?_,?_⟩|refine FU.2 ⟨?_,?_⟩|refine F6.2 ⟨?_,?_⟩|refine t7 ?_ λ_ _=>?_|refine⟨λ_=>?_,?_⟩)
  |split
  |dsimp only
 all_goals grind[E5,E4,E8,E0,DT,E7,E6,E3,E9,EA,EK,EJ,EM,EL,EN,EO,EP]):p:=h
instance oS:t6 TR (λx=>x.length<=1048576) (λ_ r=>0<=r.1/\r.1<=999999999999999999):=⟨by unfold TR;exact ti⟩
instance:t6 iD (λ_=>True) (λ_ _=>True):=⟨by unfold iD;exact ti⟩
instance:t6 wB (λx=>th x.2.2 x.2.1 x.1.length/\∀s∈x.1,s.length<=1000) (λ_ r=>∀y,r=.inr y->y.1=[]/\y.2=false):=td (λ_ _=>True) (λy=>(y.2.1-y.2.2).toNat) (by unfold A4I;exact ti)
instance:t6 ZT (λx=>x.length<=1000) (λ_ r=>LS r.1):=⟨by unfold ZT;exact ti⟩
instance:t6 wC (λx=>th x.2.2 x.2.1 x.1.length/\∀s∈x.1,s.length<=1000) (λ_ r=>∀y,r=.inr y->y.1=[]/\y.2=false):=td (λ_ _=>True) (λy=>(y.2.1-y.2.2).toNat) (by unfold A4J;exact ti)
instance:t6 iE (λx=>x.length<=1000) (λ_ r=>LS r.1):=⟨by unfold iE;exact ti⟩
instance ALi:t6 iF (λx=>x.length<=1000) (λ_ r=>LS r.1):=⟨by unfold iF;exact ti⟩
instance:t6 iG (λx=>0<=x.2.1/\x.2.1<=x.1.length/\x.1.length<=1000) (λx r=>(∀y,r=.inl y->0<=y/\y<=x.1.length)/\∀y,r=.inr y->y.2=false):=⟨by unfold iG;exact ti⟩
instance ALk:t6 wD (λx=>0<=x.2.2.2/\x.2.2.2<=3/\0<=x.2.2.1/\x.2.2.1<=x.1.length/\x.1.length<=1000/\x.2.1.1.length=3/\(∀n∈x.2.1.1,0<=n/\n<=999999999999999999)) (λx r=>(∀y,r=.inl y->y.1.1.length=3/\(∀n∈y.1.1,0<=n/\n<=999999999999999999)/\0<=y.2/\y.2<=x.1.length)/\∀y,r=.inr y->y.2=false):=td (λx y=>y.1=x.1) (λy=>(3-y.2.2.2).toNat) (by unfold A4K;exact ti)
instance ALl:t6 iH (λx=>x.length<=1000) (λ_ r=>r.2=true->MI r.1):=⟨λx h=>by
 unfold iH
 repeat' first
  |(with_reducible first|refine DM.2 ?_|refine DN.2 ?_|refine I8.2 ⟨?_,?_⟩|refine(ALk.1 _ ?_).mono λ_ _=>?_|refine(ALi.1 _ ?_).mono λ_ _=>?_)
  |split
  |dsimp only
 all_goals grind[E5,E4,E8,E0,DT,E7,E6,E3,E9,EA,EK,EJ,EM,EL,EN,EO,EP,ALG]⟩
instance A7F:t6 iI (λ_=>True) (λ_ _=>True):=⟨by unfold iI;exact ti⟩
instance ALm:t6 wE (λx=>0<=x.2/\x.2<=x.1.length/\x.1.length<=1000) (λ_ r=>True):=⟨λx h=>by
 refine ES (R:=λr:Sum (Unit) (Bool)=>True) (λy:DL×Int=>(0<=y.2/\y.2<=y.1.length/\y.1.length<=1000)/\y.1=x.1) (λy:DL×Int=>(y.1.length-y.2:Int).toNat) ?_ _ _ oc (by unfold fuel;grind);rintro next ⟨s,a⟩ h hn
 try dsimp only at h hn
 unfold A4L
 repeat' first
  |(with_reducible first|refine DO.2 ⟨λ_=>?_,λ_=>?_⟩|refine DM.2 ?_|refine DN.2 ?_|refine(HH.1 _ ?_).mono λ_ _=>?_|refine(O6 _ ?_ ?_).mono λ_ _=>?_)
  |exact λc=>clo (HH.1 c trivial)
  |exact λc=>clo (JO.1 c trivial)
  |with_reducible refine hn _ ?_ ?_
  |dsimp only
 all_goals grind[E5,E4,E8,E0,DT,E7,E6,E3,E9,EA,EK,EJ,EM,EL,EN,EO,EP,YE]⟩
instance ALn:t6 iJ (λx=>x.length<=1000) (λ_ _=>True):=⟨by unfold iJ;exact ti⟩
instance ALo:t6 iK (λx=>x.1.length<=1000/\x.2.2.2.1.length<=1000/\x.2.2.1.length<=1000/\x.2.1.1=0) (λx r=>(∀y,r=.inl y->y.1.length<=1000/\0<=y.2.1/\y.2.1<=999999999999999999/\y.2.2=x.2.1.2)/\∀y,r=.inr y->y.2=false):=⟨by unfold iK;exact ti⟩
instance ALp:t6 iL (λx=>x.length<=1000) (λ_ r=>r.2=true->MI r.1):=⟨λx h=>by
 unfold iL
 repeat' first
  |(with_reducible first|refine DO.2 ⟨λ_=>?_,λ_=>?_⟩|refine DM.2 ?_|refine DN.2 ?_|refine EI.2 ⟨?_,λ_ _=>?_⟩|refine I8.2 ⟨?_,?_⟩|refine(A70.1 _ ?_).mono λ_ _=>?_|refine(ALo.1 _ ?_).mono λ_ _=>?_|refine(HH.1 _ ?_).mono λ_ _=>?_|refine(A7F.1 _ ?_).mono λ_ _=>?_|refine(ALn.1 _ ?_).mono λ_ _=>?_|refine(AL4 _ ?_).mono λ_ _=>?_|refine(bP.1 _ ?_).mono λ_ _=>?_|refine(O6 _ ?_ ?_).mono λ_ _=>?_)
  |exact λc=>clo (HH.1 c trivial)
  |exact λc=>clo (JO.1 c trivial)
  |exact λc=>clo (A7F.1 c trivial)
  |split
  |dsimp only
 all_goals grind[E5,E4,E8,E0,DT,E7,E6,E3,E9,EA,EK,EJ,EM,EL,EN,EO,EP,ALH]⟩
instance:t6 wF (λx=>x.1.length<=1000/\x.2.length+x.1.length<=1001/\(∀n∈x.2,0<=n/\n<=999999999999999999)) (λ_ r=>NS r.1/\r.2.1.length<=1000):=td (λ_ _=>True) (λy=>y.1.length) (by unfold A4M;exact ti)
instance ALr:t6 iM (λx=>x.length<=1000) (λ_ r=>NS r.1/\r.2.1.length<=1000):=⟨by unfold iM;exact ti⟩
def ALs(x:DL×N7)(h:∀c,Tot (x.2 c) λ_=>True):Tot (ZU x) (λr:Int=>0<=r/\r<=1/\r<=x.1.length):=by
 obtain⟨s,a⟩:=x;try dsimp only at h ⊢
 unfold ZU
 repeat' first
  |(with_reducible first|refine DO.2 ⟨λ_=>?_,λ_=>?_⟩|refine DM.2 ?_|refine DN.2 ?_|refine EI.2 ⟨?_,λ_ _=>?_⟩|refine(ALN _ ?_).mono λ_ _=>?_|refine(h _).mono λ_ _=>?_)
  |dsimp only
 all_goals exact qu
instance:t6 wH (λx=>th x.2.2.2.2 x.2.2.2.1 x.2.2.1.length/\x.2.1=[]) (λx r=>r.length<=x.1.length):=td (λx y=>y.1=x.1/\y.2.1=x.2.1) (λy=>(y.2.2.2.1-y.2.2.2.2).toNat) (by unfold A4N;exact ti)
instance:t6 iN (λ_=>True) (λ_ _=>True):=⟨by unfold iN;exact ti⟩
instance:t6 iO (λ_=>True) (λ_ _=>True):=⟨by unfold iO;exact ti⟩
instance:t6 iP (λ_=>True) (λ_ _=>True):=⟨by unfold iP;exact ti⟩
instance ALx:t6 iQ (λ_=>True) (λx r=>x.length<=281474976710656->r.1.length<=x.length/\(r.1≠[]->1<=r.2.1)/\r.2.1<=3/\0<=r.2.2/\r.2.2<=3):=⟨by unfold iQ;exact ti⟩
instance ALy:t6 iR (λx=>0<=x.2.2.1/\x.2.2.1<=x.1.length/\x.1.length<=1000/\0<=x.2.1/\x.2.1<=999999999999999999) (λx r=>(∀y,r=.inl y->y.1.length<=x.1.length/\0<=y.2/\y.2<=999999999999999999)/\∀y,r=.inr y->y.2=false/\y.1=[]):=⟨by unfold iR;exact ti⟩
instance ALz:t6 wI (λx=>x.2.1.length<=1000/\0<=x.2.2/\x.2.2<=3/\P0 x.1) (λ_ r=>P0 r.1/\r.2.1.length<=1000):=⟨λx h=>by
 refine ES (R:=λr:FS×DL×Bool=>P0 r.1/\r.2.1.length<=1000) (λy:FS×DL×Int=>(y.2.1.length<=1000/\0<=y.2.2/\y.2.2<=3/\P0 y.1)) (λy:FS×DL×Int=>(4-y.2.2).toNat) ?_ _ _ oc (by unfold fuel;grind);rintro next ⟨a,s,l⟩ h hn
 try dsimp only at h hn
 unfold A4O
 repeat' first
  |(with_reducible first|refine DO.2 ⟨λ_=>?_,λ_=>?_⟩|refine DM.2 ?_|refine DN.2 ?_|refine EI.2 ⟨?_,λ_ _=>?_⟩|refine I8.2 ⟨?_,?_⟩|refine(ALs _ ?_).mono λ_ _=>?_|refine(JO.1 _ ?_).mono λ_ _=>?_|refine(ALx.1 _ ?_).mono λ_ _=>?_|refine(HH.1 _ ?_).mono λ_ _=>?_|refine(ALy.1 _ ?_).mono λ_ _=>?_)
  |exact λc=>clo (HH.1 c trivial)
  |exact λc=>clo (JO.1 c trivial)
  |with_reducible refine hn _ ?_ ?_
  |split
  |dsimp only
 all_goals exact qu⟩
instance AM0:t6 iS (λx=>x.2.length<=1000/\P0 x.1) (λ_ r=>r.1.length<=1000/\P0 r.2.2):=⟨by unfold iS;exact ti⟩
instance:t6 iT (λ_=>True) (λ_ _=>True):=⟨by unfold iT;exact ti⟩
instance AM1:t6 wK (λx=>0<=x.2.2.2/\x.2.2.2<=x.2.2.1/\x.2.2.1=x.2.1.length/\x.2.2.1<=281474976710656/\0<=x.1/\x.1<=1048576+1000*x.2.2.2/\(∀s∈x.2.1,s.length<=1000)/\x.2.2.1<=1048576) (λ_ r=>∀y,r=.inr y->y.1=[]):=td (λ_ _=>True) (λy=>(y.2.2.1-y.2.2.2).toNat) (by unfold A4P;exact ti)
def AM2(x:DL)(h:x.length<=1000):Tot (iU x) (λr:(List DL)×Bool=>LS r.1):=by
 unfold iU
 repeat' first
  |(with_reducible first|refine DM.2 ?_|refine DN.2 ?_|refine(A73 _ ?_).mono λ_ _=>?_|refine(AM1.1 _ ?_).mono λ_ _=>?_|refine(ALF _ ⟨?_,?_⟩).mono λ_ _=>?_)
  |exact λc=>clo (A73 c trivial)
  |split
  |dsimp only
 all_goals exact qu
instance AM3:t6 iV (λx=>x.1.length<=1000/\x.2.1.1=0/\0<=x.2.2.1/\x.2.2.1<=x.1.length/\(x.2.2.2=true->x.2.2.1<x.1.length)) (λx r=>(∀y,r=.inl y->y.1.length<=1000/\0<=y.2.1/\y.2.1<=999999999999999999/\y.2.2=x.2.1.2)/\∀y,r=.inr y->y.2=false):=⟨by unfold iV;exact ti⟩
instance AM4:t6 iW (λx=>x.length<=1000) (λ_ r=>r.2=true->MI r.1):=⟨λx h=>by
 unfold iW
 repeat' first
  |(with_reducible first|refine DO.2 ⟨λ_=>?_,λ_=>?_⟩|refine DM.2 ?_|refine DN.2 ?_|refine EI.2 ⟨?_,λ_ _=>?_⟩|refine(AL2 _ ?_).mono λ_ _=>?_|refine(HH.1 _ ?_).mono λ_ _=>?_|refine(AM3.1 _ ?_).mono λ_ _=>?_|refine(ALr.1 _ ?_).mono λ_ _=>?_|refine(AM0.1 _ ?_).mono λ_ _=>?_|refine(AL3 _ ?_).mono λ_ _=>?_|refine(AM2 _ ?_).mono λ_ _=>?_|refine(O6 _ ?_ ?_).mono λ_ _=>?_)
  |exact λc=>clo (HH.1 c trivial)
  |exact λc=>clo (JO.1 c trivial)
  |split
  |dsimp only
 all_goals grind[E5,E4,E8,E0,DT,E7,E6,E3,E9,EA,EK,EJ,EM,EL,EN,EO,EP,ALI]⟩
instance AM5:t6 iX (λx=>x.1.length<=1000) (λ_ r=>r.length<=5000):=⟨by unfold iX;exact ti⟩
instance A0D:t6 TT (λ_=>True) (λ_ _=>True):=⟨by unfold TT;exact ti⟩
instance AM6:t6 iY (λx=>0<=x.2.1/\x.2.1<x.1.length/\x.1.length<=1000) (λx r=>(∀y,r=.inl y->x.2.1<=y/\y<=x.1.length)/\∀y,r=.inr y->y.2=false):=⟨by unfold iY;exact ti⟩
def AM7(x:DL×H0×Int)(h:0<=x.2.2/\(x.1.length:Int)<=281474976710656/\x.2.2<=(x.1.length:Int)/\x.1.length<=1000/\x.2.1.length<=x.2.2/\(∀t∈x.2.1,t.2.1.length<=5000/\0<=t.2.2/\t.2.2<=999999999999999999)):Tot (wL x) (λr:Sum H0 (H9×Bool)=>(∀y,r=.inl y->TS y)/\∀y,r=.inr y->y.2=false):=by
 refine ES (R:=λr:Sum H0 (H9×Bool)=>(∀y,r=.inl y->TS y)/\∀y,r=.inr y->y.2=false) (λy:DL×H0×Int=>(0<=y.2.2/\(y.1.length:Int)<=281474976710656/\y.2.2<=(y.1.length:Int)/\y.1.length<=1000/\y.2.1.length<=y.2.2/\(∀t∈y.2.1,t.2.1.length<=5000/\0<=t.2.2/\t.2.2<=999999999999999999))) (λy:DL×H0×Int=>((y.1.length:Int)-y.2.2).toNat) ?_ _ _ oc (by unfold fuel;grind);rintro next ⟨s,b,a⟩ h hn
 try dsimp only at h hn
 unfold A4Q
 repeat' first
  |(with_reducible first|refine DO.2 ⟨λ_=>?_,λ_=>?_⟩|refine DM.2 ?_|refine DN.2 ?_|refine EI.2 ⟨?_,λ_ _=>?_⟩|refine I8.2 ⟨?_,?_⟩|refine F6.2 ⟨?_,?_⟩|refine(AM6.1 _ ?_).mono λ_ _=>?_|refine(HH.1 _ ?_).mono λ_ _=>?_|refine(M0.1 _ ?_).mono λ_ _=>?_|refine(JO.1 _ ?_).mono λ_ _=>?_|refine(AM5.1 _ ?_).mono λ_ _=>?_|refine(O6 _ ?_ ?_).mono λ_ _=>?_)
  |exact λc=>clo (HH.1 c trivial)
  |exact λc=>clo (JO.1 c trivial)
  |with_reducible refine hn _ ?_ ?_
  |split
  |dsimp only
 all_goals exact qu
def AM8(x:List LQ)(h:TS x):Tot (wM x) (λr:List LQ=>TS r):=by
 refine ES (R:=λr=>TS r) (λy=>TS y) (λy=>y.length) ?_ _ _ h (by exact qP);intro next v h d
 unfold A4R;by_cases a:(0:Int)<v.length
 .rw[EH oa oa,A7 a];simp only[A6,BK];refine DM.2 (EI.2 ⟨⟨oa,oa⟩,λb j=>?_⟩);refine DM.2 ((A0D.1 _ trivial).mono λr _=>?_);refine DO.2 ⟨λ_=>DM.2 (I8.2 ⟨⟨oa,oa,oa⟩,?_⟩),λ_=>DN.2 h⟩;refine d _ ⟨?_,λt e=>h.2 t (EK e)⟩ ?_
  .rw[EJ];omega
  .rw[EJ];omega
 .rw[A9 a];simp only[A8,D0];grind[DM,DN]
instance AM9:t6 iZ (λx=>x.length<=1000) (λ_ r=>r.2=true->MI r.1):=⟨λx h=>by
 unfold iZ
 repeat' first
  |(with_reducible first|refine DM.2 ?_|refine DN.2 ?_|refine(AM7 _ ?_).mono λ_ _=>?_|refine(AM8 _ ?_).mono λ_ _=>?_)
  |split
  |dsimp only
 all_goals grind[E5,E4,E8,E0,DT,E7,E6,E3,E9,EA,EK,EJ,EM,EL,EN,EO,EP,ALJ]⟩
instance AMA:t6 i_ (λx=>x.length<=1000) (λ_ r=>r.2=true->MI r.1):=⟨λx h=>by
 unfold i_
 repeat' first
  |(with_reducible first|refine DM.2 ?_|refine DN.2 ?_|refine(oS.1 _ ?_).mono λ_ _=>?_)
  |dsimp only
 all_goals grind[E5,E4,E8,E0,DT,E7,E6,E3,E9,EA,EK,EJ,EM,EL,EN,EO,EP,ALK]⟩
instance U9:t6 KD (λx=>x.2.length<=1048576) (λ_ r=>r.2=0->MI r.1):=⟨by unfold KD;exact ti⟩
instance AMB:t6 wN (λx=>0<=x.2.2.2/\x.2.2.2<=x.2.2.1/\x.2.2.1=x.2.1.length/\x.2.2.1<=281474976710656/\x.1.length<=x.2.2.2/\(∀s∈x.1,s.length<=21)/\x.2.2.1<=1002) (λ_ r=>r.length<=1002/\∀s∈r,s.length<=21):=td (λ_ _=>True) (λy=>(y.2.2.1-y.2.2.2).toNat) (by unfold A4S;exact ti)
instance A7H:t6 ZV (λx=>x.length<=1002) (λ_ r=>r.length<=30000):=⟨λx h=>by unfold ZV;refine DM.2 ((AMB.1 _ ⟨oh,oh,rfl,ot,oh,oh,ot⟩).mono λr a=>?_);have b:(Lib.join r [46]).length<=1002*(21+1):=oN a.2 a.1 oh;exact DM.2 ((X0 _ ⟨ot,oc⟩).mono λs d=>DN.2 oc)⟩
def A0E(x:(List Int)×(List DL))(h:oM x):Tot (ZW x) (λr:DL=>r.length<=1048576):=by unfold ZW;obtain⟨h1,d,a,b⟩:=h;have e:(Lib.join x.2 [46]).length<=1002*(1000+1):=oN b a oh;refine DM.2 (I8.2 ⟨⟨oa,oa,oa⟩,?_⟩);refine DM.2 ((A7H.1 _ oc).mono λr j=>?_);refine DO.2 ⟨λ_=>?_,λ_=>DN.2 oa⟩;refine DM.2 ((X0 _ ⟨oc,oc⟩).mono λs l=>?_);grind[DM,FU,DN]
instance:t6 wO (λx=>0<=x.2.2/\x.2.2<=x.1.length/\x.1.length<=1000/\x.2.1.length<=21*x.2.2) (λ_ r=>r.length<=21000):=td (λx y=>y.1=x.1) (λy=>(y.1.length-y.2.2:Int).toNat) (by unfold A4T;exact ti)
instance:t6 ZX (λx=>x.length<=1000) (λ_ r=>r.length<=21000):=⟨by unfold ZX;exact ti⟩
instance:t6 ZY (λx=>bU x) (λ_ r=>r.length<=1000):=⟨by unfold ZY;exact ti⟩
instance:t6 wP (λx=>th x.2.2.2 x.2.2.1 x.1.length/\x.2.2.1<=1000/\x.2.1.length<=x.2.2.2) (λx r=>r.length<=x.1.length):=td (λx y=>y.1=x.1) (λy=>(y.2.2.1-y.2.2.2).toNat) (by unfold A4U;exact ti)
instance AMF:t6 j7 (λx=>x.length<=1000) (λx r=>r.length<=x.length+1):=⟨by unfold j7;exact ti⟩
instance L9:t6 KE (λx=>0<=x/\x<=999999999999999999) (λ_ r=>r.length=18):=⟨by unfold KE;exact ti⟩
instance AMG:t6 wQ (λx=>x.1.length<=1000/\x.2.length+40*x.1.length<=50000) (λ_ r=>r.length<=50000):=⟨λx h=>by
 refine ES (R:=λr:List Int=>r.length<=50000) (λy:DL×(List Int)=>y.1.length<=1000/\y.2.length+40*y.1.length<=50000) (λy:DL×(List Int)=>y.1.length) ?_ _ _ h (by exact qP);rintro next ⟨s,b⟩ h hn
 dsimp only at h hn;unfold A4V;dsimp only;refine DO.2 ⟨λhc=>?_,λ_=>DN.2 oa⟩;have hne:0<s.length:=by rw[EM]at hc;simp only[BE,CX]at hc;omega
 have f1:∀c,Tot ((j6 c).bind λr=>some r) λ_=>True:=λc=>⟨_,rfl,trivial⟩;refine DM.2 ((oO _ ⟨AR _,oh,oc,f1⟩).mono λr1 hr1=>?_);dsimp only at hr1;obtain⟨a0,a1,_,a3⟩:=hr1;rw[Int.zero_add]at a1 a3;refine DM.2 ((oO _ ⟨a0,oa,oc,A72⟩).mono λr2 hr2=>?_);dsimp only at hr2;obtain⟨b0,b1,_,b3⟩:=hr2;have hpos:0<r1+r2:=by
  rcases Int.lt_or_le 0 (r1+r2)with h'|h'
  .exact h'
  .exfalso;have e1:r1=0:=oa;have e2:r2=0:=oa;subst e1 e2;have g:s[(0:Int).toNat]?=some (s[0]'hne):=A1 hne;grind[j6,H1]
 rw[EH oa oa];refine DM.2 (I8.2 ⟨⟨oa,oa,oa⟩,?_⟩);refine DM.2 ((M0.1 _ oc).mono λr4 h4=>?_);refine DM.2 (I8.2 ⟨⟨oa,oa,oa⟩,?_⟩);refine DM.2 ((AMF.1 _ oc).mono λr6 h6=>?_);rw[EJ]at h6;refine DM.2 ((L9.1 _ h4).mono λr7 h7=>?_);refine DM.2 (FU.2 ⟨oa,?_⟩);refine DM.2 ((bR.1 _ ⟨oc,oc⟩).mono λr9 h9=>?_);grind[List.length_append,DM,I8,EJ]⟩
instance:t6 QD (λx=>x.length<=1000) (λ_ r=>r.length<=50010):=⟨by unfold QD;exact ti⟩
instance:t6 j8 (λx=>x.2.1.length<=1000000) (λx r=>r.1=x.1/\r.2.length<=x.2.1.length+30):=⟨by unfold j8;exact ti⟩
instance A0F:t6 ZZ (λx=>bU x) (λ_ r=>r.length<=1048576):=⟨by unfold ZZ;exact ti⟩
instance AMI:t6 wR (λx=>NS x) (λ_ r=>NS r):=⟨λx h=>by
 refine ES (R:=λr=>NS r) (λy=>NS y) (λy=>y.length) ?_ _ _ h (by exact qP);intro next v h d
 unfold A4W;by_cases a:(0:Int)<v.length
 .rw[EH oa oa,A7 a];simp only[A6,BK];refine DM.2 (EI.2 ⟨⟨oa,oa⟩,λb j=>?_⟩);refine DO.2 ⟨λ_=>DM.2 (I8.2 ⟨⟨oa,oa,oa⟩,?_⟩),λ_=>DN.2 h⟩;refine d _ ⟨?_,λt e=>h.2 t (EK e)⟩ ?_
  .rw[EJ];omega
  .rw[EJ];omega
 .rw[A9 a];simp only[A8,D0];grind[DM,DN]⟩
instance A7K:t6 Z_ (λx=>NS x) (λ_ r=>NS r):=⟨by unfold Z_;exact ti⟩
instance:t6 j9 (λx=>x.2.1.length<=10) (λx r=>r.1=x.1/\r.2.length<=30):=⟨by unfold j9;exact ti⟩
instance:t6 jA (λx=>x.1.length<=30/\x.2.1.length<=1002) (λ_ r=>r.length<=31000):=⟨by unfold jA;exact ti⟩
instance:t6 jB (λx=>x.2.1.length<=31000/\0<=x.1.2.2.1/\x.1.2.2.1<=3) (λx r=>r.1=x.1/\r.2.length<=31100):=⟨by unfold jB;exact ti⟩
instance:t6 jC (λx=>x.2.1.length<=31100) (λx r=>r.1=x.1/\r.2.length<=31200):=⟨by unfold jC;exact ti⟩
instance:t6 jD (λx=>x.2.1.length<=31200) (λx r=>r.1=x.1/\r.2.length<=31300):=⟨by unfold jD;exact ti⟩
instance:t6 jE (λ_=>True) (λx r=>r.length<=x.1.length+21):=⟨by unfold jE;exact ti⟩
instance:t6 wS (λx=>th x.2.2.2 x.2.2.1 x.2.1.length/\x.1.length<=40000+1030*x.2.2.2/\x.2.2.1<=1002/\∀s∈x.2.1,s.length<=1000) (λ_ r=>r.length<=10000000):=td (λ_ _=>True) (λy=>(y.2.2.1-y.2.2.2).toNat) (by unfold A4X;exact ti)
instance A0G:t6 aA (λx=>P0 x) (λ_ r=>r.length<=10000000):=⟨by unfold aA;exact ti⟩
instance AMQ:t6 wT (λx=>0<=x.2.2.2/\x.2.2.2<=x.2.2.1/\x.2.2.1=x.2.1.length/\x.2.2.1<=281474976710656/\x.1.length<=x.2.2.2/\(∀s∈x.1,s.length<=5000)/\x.2.2.1<=1002/\∀t∈x.2.1,t.2.1.length<=5000) (λ_ r=>r.length<=1002/\∀s∈r,s.length<=5000):=td (λ_ _=>True) (λy=>(y.2.2.1-y.2.2.2).toNat) (by unfold A4Y;exact ti)
def A0H(x:List LQ)(h:TS x):Tot (aB x) (λr:DL=>r.length<=10000000):=by unfold aB;refine DM.2 ((AMQ.1 _ ⟨oh,oh,rfl,oc,oh,oh,oc,λt b=>(h.2 t b).1⟩).mono λr a=>?_);have d:(Lib.join r [45]).length<=1002*(5000+1):=oN a.2 a.1 oh;refine DO.2 ⟨λ_=>DN.2 oh,λ_=>?_⟩;exact DM.2 ((X0 _ ⟨oc,oc⟩).mono λs e=>DN.2 oc)
def A0I(x:Int)(h:True):Tot (aC x) (λr:DL=>r.length<=10000000):=by
 unfold aC
 repeat' first
  |(with_reducible first|refine DM.2 ?_|refine DN.2 ?_|refine(KF.1 _ ?_).mono λ_ _=>?_)
  |dsimp only
 omega
instance AMR:t6 jF (λx=>MI x) (λ_ r=>r.1.length<=100):=⟨λx h=>by
 unfold jF;refine DM.2 (Tot.mono (P:=λr:DL=>r.length<=10000000) ?_ λd b=>?_)
 .rcases x with x|x|x|x|x|x
  .exact DM.2 ((A0E _ h).mono λ_ h=>DN.2 oa)
  .exact DM.2 ((A0F.1 _ h).mono λ_ h=>DN.2 oa)
  .exact DM.2 ((A0G.1 _ h).mono λ_ h=>DN.2 h)
  .exact DM.2 ((A0H _ h).mono λ_ h=>DN.2 h)
  .simp_all[DM,A0I,trivial,DN]
  .exact h.elim
 .refine DO.2 ⟨λ_=>DN.2 oh,λa=>DN.2 ?_⟩;grind⟩
instance oT:t6 TU (λx=>x.2.length<=1048576) (λ_ r=>r.1.length<=100):=⟨by unfold TU;exact ti⟩
instance:t6 vY (λx=>(∀p,Tot (x.2.2.1 p) λ_=>True)/\x.2.2.2.1=20/\0<=x.2.2.2.2.1/\x.2.2.2.2.2=x.2.2.2.2.1+20/\x.2.1=x.1.length/\x.2.1<=1048576/\x.2.2.2.2.1<=x.2.1) (λx r=>r.1.length=x.1.length/\(∀q∈r.1,q∈x.1)/\0<=r.2/\r.2<=x.2.1):=td (λx y=>y.2.1=x.2.1/\y.2.2.1=x.2.2.1/\y.2.2.2.1=x.2.2.2.1/\y.1.length=x.1.length/\∀q∈y.1,q∈x.1) (λy=>(y.2.1-y.2.2.2.2.1).toNat) (by unfold A4A;exact ti)
instance:t6 vZ (λx=>(∀p,Tot (x.2.2.1 p) λ_=>True)/\0<x.2.2.2.1/\x.2.2.2.1<x.2.1/\0<=x.2.2.2.2.1/\x.2.2.2.2.2=x.2.2.2.2.1+2*x.2.2.2.1/\x.2.1=x.1.length/\x.2.1<=1048576/\x.2.2.2.2.1<=x.2.1) (λx r=>r.1.length=x.1.length/\(∀q∈r.1,q∈x.1)/\0<=r.2/\r.2<=x.2.1):=td (λx y=>y.2.1=x.2.1/\y.2.2.1=x.2.2.1/\y.2.2.2.1=x.2.2.2.1/\y.1.length=x.1.length/\∀q∈y.1,q∈x.1) (λy=>(y.2.1-y.2.2.2.2.1).toNat) (by unfold A4B;exact ti)
instance:t6 v_ (λx=>(∀p,Tot (x.2.2.1 p) λ_=>True)/\0<x.2.2.2/\x.2.2.2<=2097152/\x.2.1=x.1.length/\x.2.1<=1048576) (λx r=>r.length=x.1.length/\(∀q∈r,q∈x.1)):=td (λx y=>y.2.1=x.2.1/\y.2.2.1=x.2.2.1/\y.1.length=x.1.length/\∀q∈y.1,q∈x.1) (λy=>(2097153-y.2.2.2).toNat) (by unfold A4C;exact ti)
instance:t6 gY (λx=>(∀p,Tot (x.2.2 p) λ_=>True)/\x.2.1=x.1.length/\x.2.1<=1048576) (λx r=>r.length=x.1.length/\(∀q∈r,q∈x.1)):=⟨by unfold gY;exact ti⟩
instance AMW:t6 gZ (λx=>(∀p,Tot (x.2 p) λ_=>True)/\x.1.length<=1048576) (λx r=>r.length=x.1.length/\(∀q∈r,q∈x.1)):=⟨by unfold gZ;exact ti⟩
instance:t6 xG (λx=>(∀p,Tot (x.2.2.1 p) λ_=>True)/\x.2.2.2.1=20/\0<=x.2.2.2.2.1/\x.2.2.2.2.2=x.2.2.2.2.1+20/\x.2.1=x.1.length/\x.2.1<=1048576/\x.2.2.2.2.1<=x.2.1) (λx r=>r.1.length=x.1.length/\(∀q∈r.1,q∈x.1)/\0<=r.2/\r.2<=x.2.1):=td (λx y=>y.2.1=x.2.1/\y.2.2.1=x.2.2.1/\y.2.2.2.1=x.2.2.2.1/\y.1.length=x.1.length/\∀q∈y.1,q∈x.1) (λy=>(y.2.1-y.2.2.2.2.1).toNat) (by unfold A4o;exact ti)
instance:t6 xH (λx=>(∀p,Tot (x.2.2.1 p) λ_=>True)/\0<x.2.2.2.1/\x.2.2.2.1<x.2.1/\0<=x.2.2.2.2.1/\x.2.2.2.2.2=x.2.2.2.2.1+2*x.2.2.2.1/\x.2.1=x.1.length/\x.2.1<=1048576/\x.2.2.2.2.1<=x.2.1) (λx r=>r.1.length=x.1.length/\(∀q∈r.1,q∈x.1)/\0<=r.2/\r.2<=x.2.1):=td (λx y=>y.2.1=x.2.1/\y.2.2.1=x.2.2.1/\y.2.2.2.1=x.2.2.2.1/\y.1.length=x.1.length/\∀q∈y.1,q∈x.1) (λy=>(y.2.1-y.2.2.2.2.1).toNat) (by unfold A4p;exact ti)
instance:t6 xI (λx=>(∀p,Tot (x.2.2.1 p) λ_=>True)/\0<x.2.2.2/\x.2.2.2<=2097152/\x.2.1=x.1.length/\x.2.1<=1048576) (λx r=>r.length=x.1.length/\(∀q∈r,q∈x.1)):=td (λx y=>y.2.1=x.2.1/\y.2.2.1=x.2.2.1/\y.1.length=x.1.length/\∀q∈y.1,q∈x.1) (λy=>(2097153-y.2.2.2).toNat) (by unfold A4q;exact ti)
instance:t6 jW (λx=>(∀p,Tot (x.2.2 p) λ_=>True)/\x.2.1=x.1.length/\x.2.1<=1048576) (λx r=>r.length=x.1.length/\(∀q∈r,q∈x.1)):=⟨by unfold jW;exact ti⟩
instance AMa:t6 jX (λx=>(∀p,Tot (x.2 p) λ_=>True)/\x.1.length<=1048576) (λx r=>r.length=x.1.length/\(∀q∈r,q∈x.1)):=⟨by unfold jX;exact ti⟩
instance:t6 VT (λ_=>True) (λ_ _=>True):=⟨by unfold VT;exact ti⟩
instance:t6 LV (λ_=>True) (λ_ r=>-1<=r/\r<=1):=⟨by unfold LV;exact ti⟩
instance AMc:t6 g_ (λ_=>True) (λ_ _=>True):=⟨by unfold g_;exact ti⟩
def AMd(x:DL×Int×Int)(h:x.1.length<=3000/\x.2.1=0/\x.2.2= -1):Tot (gT x) (λr:IF×EQ=>r.1.2.2.2.2.1.length<=1048576):=by
 unfold gT;obtain⟨g1,g2,g3⟩:=h;refine DM.2 ((A6f.1 _ ⟨oc,oc,oc⟩).mono λr1 h1=>?_);dsimp only at h1;refine DO.2 ⟨λ_=>DN.2 oh,λ_=>?_⟩;refine DM.2 ((A6i.1 _ ⟨by rw[h1.1];omega,h1.2.1,oc⟩).mono λj J=>?_);obtain⟨l,R,y,T,U,z⟩:=J;rw[h1.1]at l y;rw[EH oa oa];refine DM.2 (I8.2 ⟨⟨oa,oa,oa⟩,?_⟩);have hj:(Lib.join ((j.1.take ((j.1.length:Int)-1).toNat).drop (0:Int).toNat) [47]).length<=1048577*(1048576+1):=oN (λs M=>z s (EK M)) oc oh;refine DM.2 ((X0 _ ⟨oc,oc⟩).mono λr4 h4=>?_);refine DM.2 (EI.2 ⟨⟨oa,oa⟩,λy5 N=>?_⟩);refine DM.2 (Tot.mono (P:=λw:Int=>w=0\/j.2.2.1<j.2.1.length) ?_ λw h6=>?_)
 .refine DO.2 ⟨λ_=>(U5.1 _ ⟨_,rfl,oa⟩).mono λr L=>?_,λ_=>DN.2 (Or.inl rfl)⟩;simp_all
 refine DM.2 ((AKP.1 _ ⟨oc,oc,oc,λK=>?_,oh⟩).mono λr8 p=>?_)
 .simp_all[DT]
 dsimp only at p;obtain⟨m,V,A,W,X,Y,Z,B⟩:=p;rw[l]at m A;refine DM.2 ((AKQ.1 _ ⟨oc,oc,oc,?_,oh,?_⟩).mono λd a=>?_)
 .dsimp only;rw[B];simp;omega
 .simp_all
 dsimp only at a;obtain⟨C,c2,E,c4,c5,c6,c7,c8,G,D⟩:=a;rw[m]at C E;refine DM.2 (Tot.mono (P:=λe:Int=>e=0\/d.1.2.1<d.1.1.length) ?_ λe I=>?_)
 .refine DO.2 ⟨λ_=>(U5.1 _ ⟨_,rfl,oa⟩).mono λr L=>?_,λ_=>DN.2 (Or.inl rfl)⟩;simp_all
 refine DM.2 ((AKV _ ⟨oc,oc,oc,λK=>?_,?_⟩).mono λO b=>?_)
 .simp_all[DT]
 .grind
 dsimp only at b;obtain⟨d1,d2,d3,d4,d5,d6,d7,H,d9⟩:=b;refine DO.2 ⟨λ_=>DM.2 ((QI.1 _ trivial).mono λQ _=>DN.2 ?_),λ_=>DN.2 ?_⟩<;>
 .dsimp only;rw[H];exact G
def AMe(x:HX×IF×Int)(h:1<=x.2.2/\x.2.1.2.2.2.2.1.length<=1048576):Tot (w7 x) (λr:Sum (HX×IF) (HX×Int×Int)=>(∀y,r=.inl y->y.2.2.2.2.2.1.length<=1048576)/\∀y,r=.inr y->y.2.2≠0):=by
 refine ES (R:=λr:Sum (HX×IF) (HX×Int×Int)=>(∀y,r=.inl y->y.2.2.2.2.2.1.length<=1048576)/\∀y,r=.inr y->y.2.2≠0)
  (λy:HX×IF×Int=>1<=y.2.2/\y.2.1.2.2.2.2.1.length<=1048576) (λy:HX×IF×Int=>(y.2.1.2.2.2.2.1.length-y.2.2:Int).toNat) ?_ _ _ h (by unfold fuel;omega)
 rintro next ⟨e,p,i⟩ h d
 dsimp only at h d;unfold A4E;dsimp only;refine DO.2 ⟨λb=>?_,λ_=>DN.2 ⟨λy a=>oc,λy a=>by cases a⟩⟩;have b:=AB b;rw[EH oa oa,EH oa oa];refine DM.2 (EV.2 ⟨⟨oa,oa⟩,?_⟩);refine DM.2 (EV.2 ⟨⟨oa,oa⟩,?_⟩);refine DO.2 ⟨λ_=>DN.2 ⟨λy a=>(by cases a),λy a=>(by cases a;simp)⟩,λ_=>?_⟩;exact d _ ⟨oc,oc⟩ om
instance AMf:t6 VW (λx=>x.length<=1048576) (λ_ r=>r.2.2=0->r.1.2.2.2.2.1.length<=1048576):=⟨λx h=>by
 unfold VW;refine DO.2 ⟨λ_=>DN.2 oh,λj=>?_⟩;have j:=AG j;refine DM.2 ((AMd _ ⟨oc,rfl,rfl⟩).mono λB m=>?_);refine DO.2 ⟨λ_=>DN.2 oh,λ_=>?_⟩;refine DM.2 ((AMW.1 _ ⟨λc=>clo (AMc.1 c trivial),m⟩).mono λC A=>?_);refine DM.2 ((AMe _ ⟨oh,oc⟩).mono λz e=>?_);rcases z with y|y
 .have s:=e.1 y rfl;refine DM.2 ((bT _ s).mono λd a=>?_);refine DO.2 ⟨λb=>DN.2 λh0=>?_,λb=>?_⟩
  .simp
  .rw[DT]at b;have h0:d=0:=by simpa using b
   have p:=a h0;refine DM.2 ((oK _ p).mono λw l=>DN.2 λ_=>?_);grind
 .exact DN.2 λh0=>absurd h0 (e.2 y rfl)⟩
instance AMg:t6 iC (λx=>x.length<=1048576) (λ_ _=>True):=⟨by unfold iC;exact ti⟩
def AMh(x:F_×JK×Int×Int)(h:0<=x.2.2.2/\x.2.2.2<=x.2.2.1/\x.2.2.1=x.2.1.length/\x.2.2.1<=281474976710656/\(∀v∈x.2.1,v.2.length<=1048576)/\(∀j:Nat,(j:Int)<x.2.2.2->∀v,x.2.1[j]?=some v->1<=v.1/\v.1<=3)):Tot (wU x) (λr:Sum (Unit) (Int)=>(∀y,r=.inl y->∀v∈x.2.1,1<=v.1/\v.1<=3)/\∀y,r=.inr y->y≠0):=by
 refine ES (R:=λr:Sum Unit Int=>(∀y,r=.inl y->∀v∈x.2.1,1<=v.1/\v.1<=3)/\∀y,r=.inr y->y≠0)
  (λy:Af×JK×Int×Int=>0<=y.2.2.2/\y.2.2.2<=y.2.2.1/\y.2.2.1=y.2.1.length/\y.2.2.1<=281474976710656/\y.2.1=x.2.1/\(∀v∈y.2.1,v.2.length<=1048576)/\∀j:Nat,(j:Int)<y.2.2.2->∀v,y.2.1[j]?=some v->1<=v.1/\v.1<=3)
  (λy=>(y.2.2.1-y.2.2.2).toNat) ?_ _ _ ⟨h.1,h.2.1,h.2.2.1,h.2.2.2.1,rfl,h.2.2.2.2⟩ (by exact qP)
 rintro next ⟨a,l,n,i⟩ s z
 dsimp only at s z;obtain⟨i0,i1,G,H,A,B,I⟩:=s;unfold A4Z;dsimp only;refine DO.2 ⟨λe=>?_,λe=>DN.2 ⟨λy _ v p=>?_,λy b=>(by cases b)⟩⟩
 .have e:=AB e;rw[EH oa oa];refine DM.2 (EI.2 ⟨⟨i0,oa⟩,λv p=>?_⟩);refine DO.2 ⟨λ_=>DN.2 ⟨λy b=>(by cases b),λy b=>(by cases b;decide)⟩,λhk=>?_⟩;have hk:1<=v.1/\v.1<=3:=by have:=BM.1 hk;have h1:=AG this.1;have J:=AG this.2;omega
  have d:∀j:Nat,(j:Int)<i+1->∀v,l[j]?=some v->1<=v.1/\v.1<=3:=by
   intro j C w L;by_cases D:(j:Int)<i
   .grind
   .grind
  have m:Tot (next (a,l,n,i+1)) (λr:Sum Unit Int=>(∀y,r=.inl y->∀v∈x.2.1,1<=v.1/\v.1<=3)/\∀y,r=.inr y->y≠0):=
   z _ ⟨oc,oc,G,H,A,B,d⟩ oc
  refine DO.2 ⟨λ_=>DO.2 ⟨λ_=>DN.2 ⟨λy b=>(by cases b),λy b=>(by cases b;decide)⟩,λ_=>m⟩,λ_=>?_⟩;refine DM.2 ((oT.1 (a.2.1,v.2) (B v (O9 p))).mono λr _=>?_);refine DO.2 ⟨λK=>DN.2 ⟨λy b=>(by cases b),λy b=>?_⟩,λ_=>m⟩;grind[DT]
 .have e:=AG e;rw[<-A]at p;have⟨j,C,E⟩:=List.mem_iff_getElem.1 p;exact I j oa v oc
def AMi(x:DL×Int×JK×(List DL)×(List DL))(h:O8 x):Tot (jG x) (λr:Int=>r=0->x.2.2.1.length<=100/\∀v∈x.2.2.1,1<=v.1/\v.1<=3):=by
 unfold jG;refine DO.2 ⟨λ_=>DN.2 λh0=>absurd h0 oi,λa=>?_⟩;have a:=AG a;refine DM.2 ((AMh _ ⟨AR _,B5 _,rfl,oc,h.2.2.1,λj d=>oc⟩).mono λr b=>?_);rcases r with r|r
 .exact DN.2 λ_=>⟨oa,b.1 r rfl⟩
 .exact DN.2 λh0=>absurd h0 (b.2 r rfl)
instance AMj:t6 wV (λx=>0<=x.2.2.2/\x.2.2.2<=x.2.2.1/\x.2.2.1<=281474976710656/\x.2.2.1=x.1.length/\x.2.2.1<=1048576) (λ_ _=>True):=td (λ_ y=>(0≤y.2.2.2∧y.2.2.2≤y.2.2.1∧y.2.2.1≤281474976710656∧y.2.2.1=y.1.length∧y.2.2.1≤1048576)) (λy=>(y.2.2.1-y.2.2.2).toNat) (by unfold A4_;exact ti)
instance AMk:t6 wW (λx=>0<=x.2.2.2/\x.2.2.2<=x.2.2.1/\x.2.2.1=x.2.1.length/\x.2.2.1<=281474976710656/\x.1=x.2.1/\∀s∈x.2.1,s.length<=1048576) (λ_ r=>∀y,r=.inr y->y≠0):=⟨λx h=>by
 refine ES (R:=λr:Sum Unit Int=>∀y,r=.inr y->y≠0)
  (λy:(List DL)×(List DL)×Int×Int=>0<=y.2.2.2/\y.2.2.2<=y.2.2.1/\y.2.2.1=y.2.1.length/\y.2.2.1<=281474976710656/\y.1=y.2.1/\∀v∈y.2.1,v.length<=1048576)
  (λy=>(y.2.2.1-y.2.2.2).toNat) ?_ _ _ h (by exact qP)
 rintro next ⟨a,l,n,i⟩ e m
 dsimp only at e m;obtain⟨i0,i1,B,C,z,A⟩:=e;subst z;unfold A4a;dsimp only;refine DO.2 ⟨λd=>?_,λd=>DN.2 λy b=>(by cases b)⟩;have d:=AB d;rw[EH (n:=i+1) oa oa,EH oa oa];refine DM.2 (EI.2 ⟨⟨i0,oa⟩,λv p=>?_⟩);have w:=A v (O9 p);refine DM.2 ((AMj.1 _ ⟨AR _,B5 _,oc,rfl,oc⟩).mono λr _=>?_);refine DO.2 ⟨λ_=>DN.2 λy b=>(by cases b;decide),λ_=>?_⟩;refine DM.2 (Tot.mono (P:=λ_=>True) (DO.2 ⟨λj=>?_,λ_=>DN.2 trivial⟩) λD _=>?_)
 .have j:=AB j;exact EI.2 ⟨⟨oa,oa⟩,λ_ _=>trivial⟩
 .refine DO.2 ⟨λ_=>DN.2 λy b=>(by cases b;decide),λ_=>?_⟩;grind⟩
instance AMl:t6 jH (λx=>∀s∈x,s.length<=1048576) (λ_ _=>True):=⟨by unfold jH;exact ti⟩
instance AMm:t6 wX (λx=>0<=x.2.2.2/\x.2.2.2<=x.2.2.1/\x.2.2.1=x.2.1.length/\x.2.2.1<=281474976710656/\∀s∈x.2.1,s.length<=1048576) (λx r=>(∀y,r=.inl y->y=x.1)/\∀y,r=.inr y->y≠0):=td (λx y=>y.1=x.1) (λy=>(y.2.2.1-y.2.2.2).toNat) (by unfold A4b;exact ti)
def A7M(x:DL×Int×JK×(List DL)×(List DL))(h:O8 x):Tot (jI x) (λr:Int=>r=0->AfK x):=by
 unfold jI;refine DM.2 ((AMg.1 _ h.1).mono λp _=>?_);refine DO.2 ⟨λ_=>DN.2 λh0=>absurd h0 oi,λ_=>?_⟩;refine DO.2 ⟨λ_=>DN.2 λh0=>absurd h0 oi,λ_=>?_⟩;refine DM.2 ((AMi _ h).mono λl d=>?_);refine DO.2 ⟨λb=>DN.2 λh0=>?_,λb=>?_⟩
 .grind[DT]
 have a:l=0:=by rw[DT]at b;simpa using b
 refine DO.2 ⟨λ_=>DN.2 λh0=>absurd h0 oi,λj=>?_⟩;have j:=AG j;refine DM.2 ((AMm.1 _ ⟨AR _,B5 _,rfl,oc,h.2.2.2.2.1⟩).mono λm e=>?_);rcases m with y|y
 .have:=e.1 y rfl;subst this;exact DM.2 ((AMl.1 _ h.2.2.2.2.2.2).mono λs _=>DN.2 λ_=>⟨(d a).1,(d a).2,oa⟩)
 .exact DN.2 λh0=>absurd h0 (e.2 y rfl)
instance:t6 jJ (λ_=>True) (λ_ r=>r.length=4):=⟨by unfold jJ;exact ti⟩
def AMo(x:(Int->Option DL)×(List Int)×(List Int)×Int×Int)(h:0<=x.2.2.2.2/\x.2.2.2.2<=x.2.2.2.1/\x.2.2.2.1=x.2.2.1.length/\x.2.2.2.1<=281474976710656/\(∀n∈x.2.2.1,Tot (x.1 n) λs=>s.length<=100)/\x.2.2.2.1<=1002/\x.2.1.length<=100*x.2.2.2.2):Tot (wY x) (λr:List Int=>r.length<=100200):=by
 refine ES (R:=λr:List Int=>r.length<=100200) (λy:(Int->Option DL)×(List Int)×(List Int)×Int×Int=>0<=y.2.2.2.2/\y.2.2.2.2<=y.2.2.2.1/\y.2.2.2.1=y.2.2.1.length/\y.2.2.2.1<=281474976710656/\(∀n∈y.2.2.1,Tot (y.1 n) λs=>s.length<=100)/\y.2.2.2.1<=1002/\y.2.1.length<=100*y.2.2.2.2)
  (λy=>(y.2.2.2.1-y.2.2.2.2).toNat) ?_ _ _ h (by exact qP)
 rintro next ⟨f,b,l,n,i⟩ d e
 dsimp only at d e;obtain⟨i0,i1,z,A,m,B,C⟩:=d;unfold A4c;dsimp only;refine DO.2 ⟨λa=>?_,λa=>DN.2 oa⟩;have a:=AB a;rw[EH oa oa];refine DM.2 (EI.2 ⟨⟨i0,oa⟩,λv j=>?_⟩);refine DM.2 ((m v (O9 j)).mono λs w=>?_);refine DM.2 ((bR.1 _ ⟨oc,oc⟩).mono λD p=>?_);grind
def A7N(x:(List Int)×DL×(Int->Option DL))(h:(∀n∈x.1,Tot (x.2.2 n) λs=>s.length<=100)/\x.1.length<=1002/\x.2.1.length<=10):Tot (aD x) (λr:DL=>r.length<=100210):=by obtain⟨l,e,f⟩:=x;dsimp only at h ⊢;unfold aD;obtain⟨h1,a,b⟩:=h;dsimp only;refine DM.2 ((AMo _ ⟨AR _,B5 _,rfl,oc,h1,oc,oh⟩).mono λr d=>?_);refine DM.2 ((U6.1 _ trivial).mono λs j=>?_);grind[DM,FU,DN,List.length_append]
def AMp(x:(DL->Option DL)×(List Int)×(List DL)×Int×Int)(h:0<=x.2.2.2.2/\x.2.2.2.2<=x.2.2.2.1/\x.2.2.2.1=x.2.2.1.length/\x.2.2.2.1<=281474976710656/\(∀n∈x.2.2.1,Tot (x.1 n) λs=>s.length<=3000)/\x.2.2.2.1<=1002/\x.2.1.length<=3000*x.2.2.2.2):Tot (wZ x) (λr:List Int=>r.length<=3006000):=by
 refine ES (R:=λr:List Int=>r.length<=3006000) (λy:(DL->Option DL)×(List Int)×(List DL)×Int×Int=>0<=y.2.2.2.2/\y.2.2.2.2<=y.2.2.2.1/\y.2.2.2.1=y.2.2.1.length/\y.2.2.2.1<=281474976710656/\(∀n∈y.2.2.1,Tot (y.1 n) λs=>s.length<=3000)/\y.2.2.2.1<=1002/\y.2.1.length<=3000*y.2.2.2.2)
  (λy=>(y.2.2.2.1-y.2.2.2.2).toNat) ?_ _ _ h (by exact qP)
 rintro next ⟨f,b,l,n,i⟩ d e
 dsimp only at d e;obtain⟨i0,i1,z,A,m,B,C⟩:=d;unfold A4d;dsimp only;refine DO.2 ⟨λa=>?_,λa=>DN.2 oa⟩;have a:=AB a;rw[EH oa oa];refine DM.2 (EI.2 ⟨⟨i0,oa⟩,λv j=>?_⟩);refine DM.2 ((m v (O9 j)).mono λs w=>?_);refine DM.2 ((bR.1 _ ⟨oc,oc⟩).mono λD p=>?_);grind
def A7O(x:(List DL)×DL×(DL->Option DL))(h:(∀n∈x.1,Tot (x.2.2 n) λs=>s.length<=3000)/\x.1.length<=1002/\x.2.1.length<=10):Tot (aF x) (λr:DL=>r.length<=3006010):=by obtain⟨l,e,f⟩:=x;dsimp only at h ⊢;unfold aF;obtain⟨h1,a,b⟩:=h;dsimp only;refine DM.2 ((AMp _ ⟨AR _,B5 _,rfl,oc,h1,oc,oh⟩).mono λr d=>?_);refine DM.2 ((U6.1 _ trivial).mono λs j=>?_);grind[DM,FU,DN,List.length_append]
instance AMq:t6 jK (λx=>x.length<=1000) (λ_ r=>r.length<=3000):=⟨by unfold jK;exact ti⟩
def oU(x:(List Int)×(List DL))(h:oM x):Tot (NY x) (λr:DL=>r.length<=10000000):=by unfold NY;obtain⟨h1,b,d,e⟩:=h;refine DM.2 (I8.2 ⟨⟨oa,oa,oa⟩,?_⟩);refine DM.2 ((A7N _ ⟨λn j=>DM.2 ((L9.1 n (b n (EK j))).mono λr a=>DN.2 oa),oc,oh⟩).mono λw l=>?_);refine DO.2 ⟨λ_=>DM.2 (FU.2 ⟨ot,DN.2 ot⟩),λ_=>?_⟩;refine DM.2 (FU.2 ⟨ot,?_⟩);refine DM.2 ((A7O _ ⟨λs p=>DM.2 ((AMq.1 s (e s p)).mono λr a=>DN.2 a),d,oh⟩).mono λy m=>?_);grind[DM,FU,DN]
instance oV:t6 NZ (λx=>bU x) (λ_ r=>r.length<=10000000):=⟨by unfold NZ;exact ti⟩
instance AMr:t6 jL (λx=>0<=x/\x<=999999999999999999) (λ_ r=>r.length<=100):=⟨by unfold jL;exact ti⟩
instance AMs:t6 jM (λx=>0<=x.2.2.1/\x.2.2.1<=3) (λ_ r=>0<=r/\r<=4):=⟨by unfold jM;exact ti⟩
instance AMt:t6 jN (λx=>x<=999999999999999999) (λ_ r=>r.length<=30):=⟨by unfold jN;exact ti⟩
instance AMu:t6 jO (λx=>x.length<=1000) (λ_ r=>r.length<=3000):=⟨by unfold jO;exact ti⟩
instance AMv:t6 jP (λx=>(x.2.2=true->0<=x.1.2.2.2.2.2.1/\x.1.2.2.2.2.2.1<=999999999999999999)/\x.2.1.length<=10000000) (λx r=>r.1=x.1/\r.2.length<=x.2.1.length+30):=⟨by unfold jP;exact ti⟩
def oW(x:Int×(List Int)×Int×Int×Int×Int×(List DL))(h:P0 x):Tot (N_ x) (λr:DL=>r.length<=10000000):=by unfold N_;obtain⟨h1,j,l,m,p,w,y⟩:=h;refine DM.2 ((L9.1 _ h1).mono λL D=>?_);refine DM.2 ((A7K.1 _ j).mono λM d=>?_);refine DM.2 ((A7N _ ⟨λn A=>DM.2 ((AMr.1 n (d.2 n A)).mono λr b=>DN.2 b),d.1,oh⟩).mono λN E=>?_);refine DM.2 (FU.2 ⟨oa,?_⟩);refine DM.2 ((AMs.1 _ l).mono λO G=>?_);refine DM.2 ((KF.1 _ trivial).mono λQ H=>?_);refine DM.2 ((L9.1 _ m).mono λR I=>?_);refine DM.2 (FU.2 ⟨oa,?_⟩);refine DM.2 ((AMt.1 _ p.2).mono λT J=>?_);refine DM.2 (FU.2 ⟨oc,?_⟩);refine DM.2 (FU.2 ⟨oc,?_⟩);refine DM.2 ((AMv.1 _ ⟨λz=>⟨AB z,w.2⟩,oc⟩).mono λB a=>?_);simp only[AI]at a;refine DO.2 ⟨λ_=>DM.2 (FU.2 ⟨ot,DN.2 ot⟩),λ_=>?_⟩;refine DM.2 (FU.2 ⟨ot,?_⟩);refine DM.2 ((A7O _ ⟨λs K=>DM.2 ((AMu.1 s (y.2 s oc)).mono λr b=>DN.2 b),oc,oh⟩).mono λC e=>?_);grind[DM,FU,DN]
instance:t6 aG (λ_=>True) (λ_ r=>r.length=5):=⟨by unfold aG;exact ti⟩
instance:t6 jR (λx=>th x.2.2.2 x.2.2.1 x.1.length) (λx r=>∀y,r=.inr y->0<=y/\y<x.1.length):=td (λx y=>y.1=x.1) (λy=>(y.2.2.1-y.2.2.2).toNat) (by unfold jQ;exact ti)
instance A7Q:t6 TV (λx=>x.1.length<=1048576) (λx r=>-1<=r/\r<x.1.length):=⟨by unfold TV;exact ti⟩
def oX(x:(List DL)×DL)(h:x.1.length<=1048576):Tot (KS x) (λr:Bool=>True):=by
 obtain⟨s,a⟩:=x;try dsimp only at h ⊢
 unfold KS
 repeat' first
  |(with_reducible first|refine DM.2 ?_|refine DN.2 ?_|refine(A7Q.1 _ ?_).mono λ_ _=>?_)
  |dsimp only
 assumption
instance:t6 KS (λx=>x.1.length<=1048576) (λ_ r=>True):=⟨oX⟩
instance:t6 VY (λ_=>True) (λ_ _=>True):=⟨by unfold VY;exact ti⟩
instance:t6 aH (λx=>x.2.1.length<=5000/\0<=x.2.2/\x.2.2<=999999999999999999) (λ_ r=>r.length<=6000):=⟨by unfold aH;exact ti⟩
instance:t6 w_ (λx=>th x.2.2.2.2 x.2.2.2.1 x.2.2.1.length/\x.1.length<=7000*x.2.2.2.2/\0<=x.2.1/\x.2.1<=x.2.2.2.2/\x.2.2.2.1<=1002/\(∀t∈x.2.2.1,t.2.1.length<=5000/\0<=t.2.2/\t.2.2<=999999999999999999)) (λ_ r=>r.length<=7014000):=td (λ_ _=>True) (λy=>(y.2.2.2.1-y.2.2.2.2).toNat) (by unfold A4e;exact ti)
instance oY:t6 O0 (λx=>TS x) (λ_ r=>r.length<=10000000):=⟨by unfold O0;exact ti⟩
instance oZ:t6 O1 (λx=>0<=x/\x<=999999999999999999) (λ_ r=>r.length<=10000000):=⟨by unfold O1;exact ti⟩
instance AMz:t6 VZ (λx=>x.2.length<=1048576) (λ_ r=>r.1.length<=10000000):=⟨λx h=>by
 unfold VZ;refine DM.2 ((U9.1 _ h).mono λd h1=>?_);refine DO.2 ⟨λ_=>DN.2 oh,λb=>?_⟩;have h0:d.2=0:=by rw[DT]at b;simpa using b
 have a:=h1 h0;revert a;generalize d.1=v;intro a;refine DM.2 (Tot.mono (P:=λr:DL=>r.length<=10000000) ?_ λj e=>DN.2 e)
 .rcases v with x|x|x|x|x|x
  .exact DM.2 ((oU _ a).mono λ_ h=>DN.2 oa)
  .exact DM.2 ((oV.1 _ a).mono λ_ h=>DN.2 oa)
  .exact DM.2 ((oW _ a).mono λ_ h=>DN.2 oa)
  .exact DM.2 ((oY.1 _ a).mono λ_ h=>DN.2 oa)
  .exact DM.2 ((oZ.1 _ a).mono λ_ h=>DN.2 oa)
  .exact a.elim⟩
instance:t6 gI (λx=>th x.2.2.2 x.2.2.1 x.2.1.length) (λ_ _=>True):=td (λ_ _=>True) (λy=>(y.2.2.1-y.2.2.2).toNat) (by unfold gH;exact ti)
instance:t6 S0 (λx=>x.length<=1048576) (λ_ _=>True):=⟨by unfold S0;exact ti⟩
instance AN2:t6 jY (λ_=>True) (λ_ _=>True):=⟨by unfold jY;exact ti⟩
instance AN3:t6 xJ (λx=>0<=x.2.2.2.2/\x.2.2.2.2<=x.2.2.2.1/\x.2.2.2.1=x.2.2.1.length/\x.2.2.2.1<=281474976710656/\x.2.1.length<=x.2.2.2.2/\(∀m∈x.2.1,m.2.2.1.length<=100)/\(∀v∈x.2.2.1,v.2.length<=1048576/\1<=v.1/\v.1<=3)/\x.2.2.2.1<=100) (λ_ r=>r.length<=100/\∀m∈r,m.2.2.1.length<=100):=td (λ_ _=>True) (λy=>(y.2.2.2.1-y.2.2.2.2).toNat) (by unfold A4r;exact ti)
def AN4(x:DL×Int×JK×(List DL)×(List DL))(h:O8 x/\AfK x):Tot (jZ x) (λr:List DZ=>r.length<=100/\∀m∈r,m.2.2.1.length<=100):=by unfold jZ;obtain⟨h1,e,b,j⟩:=h;refine DM.2 ((AN3.1 _ ⟨AR _,B5 _,rfl,oc,oh,oh,λv a=>⟨h1.2.2.1 v a,b v a⟩,oc⟩).mono λr l=>?_);refine DM.2 ((AMa.1 _ ⟨λc=>clo (AN2.1 c trivial),oc⟩).mono λp d=>DN.2 ?_);grind
instance AN5:t6 xK (λx=>0<=x.2.2.2.2.2/\x.2.2.2.2.2<=x.2.2.2.2.1/\x.2.2.2.2.1=x.2.2.2.1.length/\x.2.2.2.2.1<=281474976710656/\x.1.length<=x.2.2.2.2.2/\(∀s∈x.1,GQ s)/\x.2.2.1.2.2.length<=100/\x.2.2.2.2.1<=100/\∀m∈x.2.2.2.1,m.2.2.1.length<=100) (λ_ r=>r.1.length<=100/\(∀s∈r.1,GQ s)/\r.2.2.2.2.length<=100):=td (λ_ _=>True) (λy=>(y.2.2.2.2.1-y.2.2.2.2.2).toNat) (by unfold A4s;exact ti)
instance AN6:t6 j_ (λx=>x.1.length<=100/\(∀s∈x.1,GQ s)/\x.2.1.2.2.length<=100) (λ_ r=>r.length<=101/\(∀s∈r,GQ s)):=⟨by unfold j_;exact ti⟩
instance AN7:t6 xL (λx=>0<=x.2.2.2.2/\x.2.2.2.2<=x.2.2.2.1/\x.2.2.2.1=x.2.2.1.length/\x.2.2.2.1<=281474976710656/\x.2.1.length<=101+x.2.2.2.2/\(∀s∈x.2.1,GQ s)/\x.2.2.2.1<=500/\∀m∈x.2.2.1,m.length<=1048576) (λ_ r=>r.length<=601/\(∀s∈r,GQ s)):=td (λ_ _=>True) (λy=>(y.2.2.2.1-y.2.2.2.2).toNat) (by unfold A4t;exact ti)
def A7S(x:DL×Int×JK×(List DL)×(List DL))(h:O8 x/\AfK x):Tot (k9 x) (λr:List (GN×GN)=>r.length<=601/\(∀s∈r,GQ s)):=by unfold k9;refine DM.2 ((AN4 _ h).mono λr e=>?_);obtain⟨h1,l,m,p⟩:=h;refine DM.2 ((AN5.1 _ ⟨AR _,B5 _,rfl,oc,oh,oh,oh,oc,e.2⟩).mono λw b=>?_);refine DM.2 ((AN6.1 _ b).mono λy d=>?_);exact DM.2 ((AN7.1 _ ⟨AR _,B5 _,rfl,oc,oc,d.2,oc,h1.2.2.2.2.1⟩).mono λj a=>DN.2 a)
instance A0J:t6 S4 (λx=>x.2.2.2.length<=1048576) (λ_ r=>True):=⟨λx h=>by
 unfold S4;refine DO.2 ⟨λ_=>DO.2 ⟨λ_=>DN.2 trivial,λ_=>DN.2 trivial⟩,λ_=>?_⟩;refine DM.2 ((U9.1 _ h).mono λd h1=>?_);refine DO.2 ⟨λ_=>DN.2 trivial,λb=>?_⟩;have h0:d.2=0:=by rw[DT]at b;simpa using b
 have a:=h1 h0;revert a;generalize d.1=v;intro a;refine DM.2 (Tot.mono (P:=λr:DL=>r.length<=10000000) ?_ λj e=>?_)
 .rcases v with x|x|x|x|x|x
  .exact DM.2 ((A0E _ a).mono λ_ h=>DN.2 oa)
  .exact DM.2 ((A0F.1 _ a).mono λ_ h=>DN.2 oa)
  .exact DM.2 ((A0G.1 _ a).mono λ_ h=>DN.2 oa)
  .exact DM.2 ((A0H _ a).mono λ_ h=>DN.2 oa)
  .simp_all[DM,A0I,trivial,DN]
  .exact a.elim
 refine DO.2 ⟨λ_=>DN.2 trivial,λ_=>?_⟩;refine DM.2 (Tot.mono (P:=λr:DL=>r.length<=10000000) ?_ λj e=>DN.2 trivial)
 .rcases v with x|x|x|x|x|x
  .exact DM.2 ((oU _ a).mono λ_ h=>DN.2 oa)
  .exact DM.2 ((oV.1 _ a).mono λ_ h=>DN.2 oa)
  .exact DM.2 ((oW _ a).mono λ_ h=>DN.2 oa)
  .exact DM.2 ((oY.1 _ a).mono λ_ h=>DN.2 oa)
  .exact DM.2 ((oZ.1 _ a).mono λ_ h=>DN.2 oa)
  .exact a.elim⟩
instance A0K:t6 aK (λx=>x.1.2.2.length<=100) (λ_ r=>r.2.2.2.length<=100):=⟨by unfold aK;exact ti⟩
instance A0L:t6 aL (λx=>x.1.2.2.length<=100) (λ_ r=>r.2.2.2.length<=100):=⟨by unfold aL;exact ti⟩
instance:t6 kA (λx=>x.1.1.2.2.2.length<=100/\x.2.1=0) (λx r=>r.1=x.1/\0<=r.2/\r.2<=1000000000000000000):=⟨by unfold kA;exact ti⟩
instance AN9:t6 kB (λx=>x.1.2.2.2.length<=100/\x.2.2.2.2.length<=100) (λ_ r=>0<=r.1/\r.2.1<=999999999999999999/\(r.2.2=true->r.1<=r.2.1)):=⟨by unfold kB;exact ti⟩
instance ANA:t6 kC (λx=>0<=x.1/\x.1<=999999999999999999/\x.2.1.2.2.2.length<=100) (λ_ r=>r.2.2.2.length<=100):=⟨by unfold kC;exact ti⟩
instance ANB:t6 xM (λx=>0<=x.2.2.2.2/\x.2.2.2.2<=x.2.2.2.1/\x.2.2.2.1=x.2.2.1.length/\x.2.2.2.1<=281474976710656/\x.1.length<=x.2.2.2.2/\(∀s∈x.1,GY s)/\(∀s∈x.2.2.1,GY s)/\x.2.2.2.1<=1048576/\ -2<=x.2.1/\x.2.1<=999999999999999999) (λ_ r=>r.length<=1048576/\∀s∈r,GY s):=⟨λx h=>by
 refine ES (R:=λr:List I9=>r.length<=1048576/\∀s∈r,GY s) (λy:(List I9)×Int×(List I9)×Int×Int=>0<=y.2.2.2.2/\y.2.2.2.2<=y.2.2.2.1/\y.2.2.2.1=y.2.2.1.length/\y.2.2.2.1<=281474976710656/\y.1.length<=y.2.2.2.2/\(∀s∈y.1,GY s)/\(∀s∈y.2.2.1,GY s)/\y.2.2.2.1<=1048576/\ -2<=y.2.1/\y.2.1<=999999999999999999)
  (λy=>(y.2.2.2.1-y.2.2.2.2).toNat) ?_ _ _ h (by exact qP)
 rintro next ⟨out,e,l,n,i⟩ B b
 dsimp only at B b;obtain⟨i0,i1,j,m,T,p,d,w,M,N⟩:=B;unfold A4u;dsimp only;refine DO.2 ⟨λz=>?_,λz=>DN.2 ⟨oa,p⟩⟩;have z:=AB z;rw[EH (n:=i+1) oa oa,EH (n:=e+1) oa oa];refine DM.2 (EI.2 ⟨⟨i0,oa⟩,λv L=>?_⟩);have A:=d v (O9 L);refine DM.2 ((AN9.1 _ A).mono λV D=>?_);obtain⟨C,U,O⟩:=D;refine DO.2 ⟨λ_=>b _ ⟨oc,oc,j,m,oc,p,d,w,M,N⟩ oc,λI=>?_⟩;have K:=O (by simpa using I);refine DM.2 (Tot.mono (P:=λr:Edge=>r.2.2.2.length<=100) ((ANA.1 _ ⟨oa,oa,oh⟩)) λW E=>?_);by_cases J:(0:Int)<out.length
 .rw[EH (n:=(out.length:Int)-1) oa oa];refine DO.2 ⟨λ_=>?_,λ_=>?_⟩
  .refine DM.2 (EV.2 ⟨⟨oa,oa⟩,?_⟩);refine b _ ⟨oc,oc,j,m,oc,λs a=>?_,d,w,oc,oa⟩ oc;dsimp only at a;rcases EA a with a|a
   .exact p s a
   .subst a;exact⟨(p _ (E9 oa)).1,E⟩
  .refine DM.2 ((L9.1 _ ⟨C,oa⟩).mono λQ G=>?_);refine DM.2 ((KF.1 _ trivial).mono λR H=>?_);refine DM.2 (F6.2 ⟨oc,?_⟩);refine b _ ⟨oc,oc,j,m,oc,λs a=>?_,d,w,oc,oa⟩ oc;grind
 .rw[A9 J,D0];simp only[A8];refine DM.2 ((L9.1 _ ⟨C,oa⟩).mono λQ G=>?_);refine DM.2 ((KF.1 _ trivial).mono λR H=>?_);refine DM.2 (F6.2 ⟨oc,?_⟩);refine b _ ⟨oc,oc,j,m,oc,λs a=>?_,d,w,oc,oa⟩ oc;grind⟩
instance:t6 kD (λx=>(∀s∈x,GY s)/\x.length<=1048576) (λ_ r=>r.length<=1048576/\∀s∈r,GY s):=⟨by unfold kD;exact ti⟩
instance A7T:t6 kE (λx=>(∀s∈x.1,GY s)/\x.1.length<=1048576) (λ_ r=>r.length<=1048576/\∀s∈r,GY s):=⟨by unfold kE;exact ti⟩
instance:t6 kF (λx=>GY x.1/\GQ x.2.1) (λx r=>r.1=x.1/\GQ r.2):=⟨by unfold kF;exact ti⟩
instance A7U:t6 xN (λx=>0<=x.2.2.2/\x.2.2.2<=x.2.2.1/\x.2.2.1=x.2.1.length/\x.2.2.1<=281474976710656/\x.1.2.length<=x.2.2.2/\x.2.2.1<=200/\(∀s∈x.2.1,GY s)/\(∀s∈x.1.2,GQ s)) (λx r=>r.1=x.1.1/\r.2.length<=200/\∀s∈r.2,GQ s):=td (λx y=>y.1.1=x.1.1) (λy=>(y.2.2.1-y.2.2.2).toNat) (by unfold A4v;exact ti)
theorem ANE(x:Int×(List FI))(h:(∀s∈x.2,GY s)/\x.2.length<=1048576):Tot (W0 x) (λr:(Int×FD)×Int=>r.1.2.length<=200/\∀s∈r.1.2,GQ s):=by
 obtain⟨a,l⟩:=x;try dsimp only at h ⊢
 unfold W0
 repeat' first
  |(with_reducible first|refine DO.2 ⟨λ_=>?_,λ_=>?_⟩|refine DM.2 ?_|refine DN.2 ?_|refine(A7T.1 _ ?_).mono λ_ _=>?_|refine(A7U.1 _ ?_).mono λ_ _=>?_)
  |dsimp only
 all_goals exact qu
instance ANF:t6 kG (λx=>0<=x.2.2.2.2.2/\x.2.2.2.2.2<=x.2.2.2.2.1/\x.2.2.2.2.1=x.2.2.2.1.length/\x.2.2.2.2.1<=281474976710656/\x.2.2.1.length<=x.2.2.2.2.2/\(∀s∈x.2.2.1,GY s)/\x.2.2.2.2.1<=1048576/\(∀s∈x.2.2.2.1,GQ s)) (λ_ r=>(∀y,r=.inl y->y.2.length<=1048576/\∀s∈y.2,GY s)/\∀y,r=.inr y->y.1.2=[]):=td (λ_ _=>True) (λy=>(y.2.2.2.2.1-y.2.2.2.2.2).toNat) (by unfold xO;exact ti)
def A7V(x:(List FI)×(List FI)×Int×Int)(h:0<=x.2.2.2/\x.2.2.2<=x.2.2.1/\x.2.2.1=x.2.1.length/\x.2.2.1<=281474976710656/\x.1.length<=x.2.2.2/\(∀s∈x.1,GY s)/\x.2.2.1<=1048576/\(∀s∈x.2.1,GY s)):Tot (xP x) (λr:List FI=>r.length<=1048576/\∀s∈r,GY s):=by
 refine ES (R:=λr:List I9=>r.length<=1048576/\∀s∈r,GY s) (λy:(List I9)×(List I9)×Int×Int=>0<=y.2.2.2/\y.2.2.2<=y.2.2.1/\y.2.2.1=y.2.1.length/\y.2.2.1<=281474976710656/\y.1.length<=y.2.2.2/\(∀s∈y.1,GY s)/\y.2.2.1<=1048576/\(∀s∈y.2.1,GY s))
  (λy=>(y.2.2.1-y.2.2.2).toNat) ?_ _ _ h (by exact qP)
 rintro next ⟨out,l,n,i⟩ C j
 dsimp only at C j;obtain⟨i0,i1,z,A,J,d,B,m⟩:=C;unfold A4w;dsimp only;refine DO.2 ⟨λp=>?_,λp=>DN.2 ⟨oa,d⟩⟩;have p:=AB p;rw[EH (n:=i+1) oa oa];refine DM.2 (EV.2 ⟨⟨i0,oa⟩,?_⟩);have E:=m _ (E9 (l:=l) (i:=i.toNat) (d:=((0,(([]:DL),(false,([]:DL)))),(0,(([]:DL),(false,([]:DL)))))) oa);generalize l.getD i.toNat ((0,(([]:DL),(false,([]:DL)))),(0,(([]:DL),(false,([]:DL)))))=v at E;have b:∀(Q:List I9->Prop),Q (out++[v])->Tot (app? 192 out [v]) Q:=λQ G=>F6.2 ⟨oc,G⟩;have w:Tot (next (out++[v],l,n,i+1)) (λr:List I9=>r.length<=1048576/\∀s∈r,GY s):=by
  refine j _ ⟨oc,oc,z,A,oc,λs a=>?_,B,m⟩ oc;dsimp only at a;rcases AZ.1 a with a|a
  .exact d s a
  .grind
 by_cases D:(out.length:Int)=0
 .have e:DP (out.length:Int) 0=true:=by rw[DT];exact A7 D
  rw[e];simp only[BS,A8,Bool.true_or,A6];grind[DM,DN]
 .have e:DP (out.length:Int) 0=false:=by rw[DT];exact A9 D
  rw[e,EH (n:=(out.length:Int)-1) oa oa];simp only[CH,A6,C0];refine DM.2 (EV.2 ⟨⟨oa,oa⟩,?_⟩);refine DM.2 ((SG.1 _ trivial).mono λH _=>?_);refine DO.2 ⟨λ_=>DM.2 (b _ w),λ_=>?_⟩;refine DM.2 (EV.2 ⟨⟨oa,oa⟩,?_⟩);refine DM.2 ((SG.1 _ trivial).mono λI _=>?_);refine DO.2 ⟨λ_=>?_,λ_=>j _ ⟨oc,oc,z,A,oc,d,B,m⟩ oc⟩;refine DM.2 (EV.2 ⟨⟨oa,oa⟩,?_⟩);refine j _ ⟨oc,oc,z,A,oc,λs a=>?_,B,m⟩ oc;dsimp only at a;rcases EA a with a|a
  .exact d s a
  .subst a;exact⟨(d _ (E9 oa)).1,E.2⟩
theorem ANG(x:Int×FD)(h:(∀s∈x.2,GQ s)/\x.2.length<=1048576):Tot (WA x) (λr:(Int×FD)×Int=>r.1.2.length<=200/\∀s∈r.1.2,GQ s):=by
 unfold WA;obtain⟨h1,z⟩:=h;refine DM.2 ((ANF.1 _ ⟨AR _,B5 _,rfl,oc,oh,oh,oc,h1⟩).mono λr b=>?_);rcases r with y|y
 .obtain⟨w,d⟩:=b.1 y rfl;refine DM.2 ((A7C y.2).mono λm a=>?_);have l:=a.1.length_eq;refine DM.2 ((A7V _ ⟨AR _,B5 _,rfl,oc,oh,oh,oc,λs j=>d s (a.1.mem_iff.1 j)⟩).mono λp e=>?_);grind[DM,ANE,DN]
 .have:=b.2 y rfl;grind[DN]
instance A7W:t6 LW (λx=>O8 x) (λ_ r=>r.1.2.length<=200/\(∀s∈r.1.2,GQ s)):=⟨λx h=>by
 unfold LW;refine DM.2 ((A7M _ h).mono λb h1=>?_);refine DO.2 ⟨λ_=>DN.2 oh,λa=>?_⟩;have h0:b=0:=by rw[DT]at a;simpa using a
 refine DM.2 ((A7S _ ⟨h,h1 h0⟩).mono λe d=>?_);grind[DM,ANG,DN]⟩
instance ANH:t6 vE (λx=>0<=x.2.2.2/\x.2.2.2<=x.2.2.1/\x.2.2.1=x.2.1.length/\x.2.2.1<=281474976710656/\(∀s∈x.2.1,s.length<=1048576)/\x.2.1=x.1.2.1) (λ_ r=>True):=⟨λx h=>by
 refine ES (R:=λr:Sum Unit Int=>True)
  (λy:FG×(List DL)×Int×Int=>0<=y.2.2.2/\y.2.2.2<=y.2.2.1/\y.2.2.1=y.2.1.length/\y.2.2.1<=281474976710656/\(∀v∈y.2.1,v.length<=1048576)/\y.2.1=y.1.2.1)
  (λy=>(y.2.2.1-y.2.2.2).toNat) ?_ _ _ h (by exact qP)
 rintro next ⟨a,l,n,i⟩ d j
 dsimp only at d j;obtain⟨i0,i1,z,A,w,B⟩:=d;unfold A3s;dsimp only;refine DO.2 ⟨λb=>?_,λb=>DN.2 trivial⟩;have b:=AB b;rw[EH (n:=i+1) oa oa,EH oa oa];refine DM.2 (EI.2 ⟨⟨i0,oa⟩,λv m=>?_⟩);have p:=w v (O9 m);refine DM.2 ((oG.1 _ oa).mono λr _=>?_);refine DO.2 ⟨λ_=>DN.2 trivial,λ_=>?_⟩;refine DO.2 ⟨λ_=>DN.2 trivial,λ_=>?_⟩;refine DM.2 (Tot.mono (P:=λ_=>True) (DO.2 ⟨λe=>?_,λ_=>DN.2 trivial⟩) λC _=>?_)
 .have e:=AB e;exact EI.2 ⟨⟨oa,oc⟩,λ_ _=>trivial⟩
 .refine DO.2 ⟨λ_=>DN.2 trivial,λ_=>?_⟩;grind⟩
instance A7X:t6 gL (λx=>∀s∈x.2.1,s.length<=1048576) (λ_ _=>True):=⟨by unfold gL;exact ti⟩
instance A7Y:t6 gM (λ_=>True) (λ_ r=>r.length=6):=⟨by unfold gM;exact ti⟩
instance ANI:t6 gN (λx=>0<=x.2.2.2/\x.2.2.2<=6/\x.2.2.1.length=6/\x.1.length=6) (λ_ _=>True):=td (λ_ _=>True) (λy=>(6-y.2.2.2).toNat) (by unfold vF;exact ti)
instance A7Z:t6 S2 (λ_=>True) (λ_ r=>True):=⟨λx h=>by
 unfold S2
 repeat' first
  |(with_reducible first|refine DO.2 ⟨λ_=>?_,λ_=>?_⟩|refine DM.2 ?_|refine DN.2 ?_|refine(A7Y.1 _ ?_).mono λ_ _=>?_|refine(ANI.1 _ ?_).mono λ_ _=>?_|refine oI.2 ⟨?_,?_⟩)
  |split
  |dsimp only
 all_goals exact qu⟩
instance ANJ:t6 TW (λ_=>True) (λx r=>∀y,r=.inl y->y=x.1):=⟨by unfold TW;exact ti⟩
instance ANK:t6 S5 (λx=>0<=x.2.2.2/\x.2.2.2<=x.2.2.1/\x.2.2.1=x.2.1.length/\x.2.2.1<=281474976710656/\x.2.2.1<=50/\x.1.length<=x.2.2.2/\∀z∈x.2.1,O8 z) (λ_ _=>True):=td (λ_ _=>True) (λy=>(y.2.2.1-y.2.2.2).toNat) (by unfold aM;exact ti)
instance ANL:t6 LX (λx=>L8 x) (λ_ r=>True):=⟨λx h=>by
 unfold LX
 repeat' first
  |(with_reducible first|refine DO.2 ⟨λ_=>?_,λ_=>?_⟩|refine DM.2 ?_|refine DN.2 ?_|refine(oG.1 _ ?_).mono λ_ _=>?_|refine(A7X.1 _ ?_).mono λ_ _=>?_|refine(ANJ.1 _ ?_).mono λ_ _=>?_|refine(ANK.1 _ ?_).mono λ_ _=>?_)
  |split
  |dsimp only
 all_goals grind[E5,E4,E8,E0,DT,E7,E6,E3,E9,EA,EK,EJ,EM,EL,EN,EO,EP,L8]⟩
instance ANM:t6 TX (λx=>L8 x) (λ_ _=>True):=⟨by unfold TX;exact ti⟩
def GH{α:Type}{l:List α}{i:Nat}{a:α}(h:l[i]?=some a):l.take (i+1)=l.take i++[a]:=by rw[List.take_add_one,h];rfl
abbrev Rg:=Int×(List SF)
noncomputable def bV(v:Vr):Option DL:=(λz=>Sum.casesOn (motive:=λ_=>Option DL) z (λx=>(NY x).bind λr=>some r) (λz=>Sum.casesOn (motive:=λ_=>Option DL) z (λx=>(NZ x).bind λr=>some r) (λz=>Sum.casesOn (motive:=λ_=>Option DL) z (λx=>(N_ x).bind λr=>some r) (λz=>Sum.casesOn (motive:=λ_=>Option DL) z (λx=>(O0 x).bind λr=>some r) (λz=>Sum.casesOn (motive:=λ_=>Option DL) z (λx=>(O1 x).bind λr=>some r) (λ_=>none)))))) v
def A7_{v:Vr}(a:MI v):Tot (bV v) (λ_=>True):=by
 unfold bV;rcases v with x|x|x|x|x|x
 .exact DM.2 ((oU _ a).mono λ_ h=>DN.2 trivial)
 .exact DM.2 ((oV.1 _ a).mono λ_ h=>DN.2 trivial)
 .exact DM.2 ((oW _ a).mono λ_ h=>DN.2 trivial)
 .exact DM.2 ((oY.1 _ a).mono λ_ h=>DN.2 trivial)
 .exact DM.2 ((oZ.1 _ a).mono λ_ h=>DN.2 trivial)
 .exact a.elim
def Vs(k:Int)(w:DL)(v:Vr)(s:DL):Prop:=KD (k,w)=some (v,0)/\bV v=some s
def ANN{k:Int}{w:DL}{v:Vr}(d:w.length<=1048576)(h:KD (k,w)=some (v,0)):∃s,Vs k w v s:=by have⟨r,h1,a⟩:=U9.1 (k,w) d;rw[h]at h1;cases h1;have⟨s,b,_⟩:=A7_ (a rfl);exact⟨s,h,b⟩
def ANO{k:Int}{w:DL}{v:Vr}{s:DL}(h:Vs k w v s):VZ (k,w)=some (s,0):=by show((KD (k,w)).bind λa=>bif (!(DP a.2 (0:Int)))then some (([]:DL),a.2)else(bV a.1).bind λb=>some (b,(0:Int)))=_;rw[h.1];simp only[A0,DT,decide_true,BS,A8];rw[h.2];rfl
noncomputable def ky(k:Int)(w:DL):DL:=((VZ (k,w)).getD ([],0)).1
def ANP{k:Int}{w:DL}{v:Vr}{s:DL}(h:Vs k w v s):ky k w=s:=by unfold ky;rw[ANO h];rfl
def Ok(k:Int)(w:DL):Prop:=∃v,Vs k w v (ky k w)
def ANQ{k:Int}{w:DL}{v:Vr}{s:DL}(h:Vs k w v s):Ok k w:=⟨v,by rw[ANP h];exact h⟩
def A7a(k:Int)(w:DL)(a:w.length<=1048576):Tot (T_ (k,w)) (λr=>r=0->Ok k w):=by unfold T_;dsimp only;have⟨⟨v,e⟩,h1,d⟩:=U9.1 (k,w) a;rw[h1];refine DM.2 (DN.2 (DN.2 λh=>?_));dsimp only at h;subst h;have⟨s,b⟩:=ANN a h1;exact ANQ b
def ANR(s:SF)(b:List I9)(m:GQ s)(a:∀x∈b,GY x)(j:b.length<=1048576):Tot (lN (s,b)) (λ_=>True):=by unfold lN;dsimp only;refine DO.2 ⟨λ_=>DN.2 trivial,λ_=>DO.2 ⟨λh=>?_,λ_=>DN.2 trivial⟩⟩;have h:=AB h;rw[EH (n:=(b.length:Int)-1) oa oa];refine DM.2 ((M0.1 _ oa).mono λr l=>DM.2 (EI.2 ⟨⟨oa,oa⟩,λy e=>?_⟩));refine DM.2 ((M0.1 _ (by have:=(a y (O9 e)).2;omega)).mono λp d=>?_);simp_all[DO,DN,trivial]
def ANS(l:List I9)(k:DL)(m:l.length<=1048576):Tot (aU (l,k)) (λ_=>True):=by
 unfold aU yF;dsimp only;refine DM.2 (DM.2 (Tot.mono (P:=λ_=>True) ?_ λq _=>by rcases q with y|y<;>exact DN.2 (DN.2 trivial)));generalize b:(λx:I9=>(lO (x,(some ((0:Int),(k,(false,([]:DL))))))).bind λr=>some r)=f
 have d:∀x,Tot (f x) λ_=>True:=by intro x;subst b;unfold lO;dsimp only;refine DM.2 (DM.2 (DN.2 (DM.2 ((SG.1 _ trivial).mono λA _=>?_))));refine DM.2 (Tot.mono (P:=λ_=>True) (DO.2 ⟨λ_=>DN.2 trivial,λ_=>DN.2 trivial⟩) λz _=>?_);exact DM.2 (Tot.mono (P:=λ_=>True) (DO.2 ⟨λ_=>SG.1 _ trivial,λ_=>DN.2 trivial⟩) λB _=>DN.2 (DN.2 trivial))
 clear b
 refine ES (R:=λ_:Sum Unit Int=>True) (λy:(List I9)×(I9->Option Bool)×Int×Int=>y.1=l/\y.2.1=f/\y.2.2.1=l.length/\0<=y.2.2.2/\y.2.2.2<=l.length)
  (λy=>((l.length:Int)-y.2.2.2).toNat) ?_ _ _ ⟨rfl,rfl,rfl,AR _,B5 _⟩ (by exact qP)
 rintro next ⟨w,j,n,i⟩ a e
 dsimp only at a e;obtain⟨rfl,rfl,rfl,i0,i1⟩:=a;unfold A5X;dsimp only;refine DO.2 ⟨λh=>?_,λh=>DN.2 trivial⟩;have h:=AB h;rw[EH (n:=i+1) oa oa];refine DM.2 (EI.2 ⟨⟨i0,h⟩,λs p=>?_⟩);refine DM.2 ((d s).mono λr _=>DO.2 ⟨λ_=>DN.2 trivial,λ_=>?_⟩);grind
noncomputable def inn(L:List I9)(k:Int)(w:DL):Bool:=decide (0<=(aU (L,ky k w)).getD 0)
def ANT(k:Int)(z:Rg)(l:List SF)(H:l.length<=1048576)(p:∀s∈l,GQ s):
 Tot (kG (k,z,([]:List I9),l,(l.length:Int),0)) (λq=>(∀y,q=.inl y->y.2.length<=1048576/\∀s∈y.2,GY s)/\∀y,q=.inr y->y.2≠0):=by
 refine ES (R:=λq:Sum (Rg×(List I9)) (Rg×Int)=>(∀y,q=.inl y->y.2.length<=1048576/\∀s∈y.2,GY s)/\∀y,q=.inr y->y.2≠0)
  (λy:Int×Rg×(List I9)×(List SF)×Int×Int=>y.2.2.2.1=l/\y.2.2.2.2.1=l.length/\0<=y.2.2.2.2.2/\y.2.2.2.2.2<=l.length/\y.2.2.1.length<=y.2.2.2.2.2/\∀s∈y.2.2.1,GY s)
  (λy=>((l.length:Int)-y.2.2.2.2.2).toNat) ?_ _ _ ⟨rfl,rfl,AR _,B5 _,oh,oh⟩ (by exact qP)
 rintro next ⟨I,L,o,J,n,i⟩ a m
 dsimp only at a m;obtain⟨rfl,rfl,i0,i1,E,G⟩:=a;unfold xO;dsimp only;refine DO.2 ⟨λh=>?_,λh=>DN.2 ⟨λy e=>?_,λy e=>(by cases e)⟩⟩
 .have h:=AB h;rw[EH (n:=i+1) oa oa];refine DM.2 (EI.2 ⟨⟨i0,h⟩,λs w=>?_⟩);have⟨s1,x⟩:=p s (O9 w);refine DM.2 ((A0J.1 _ oc).mono λA _=>DO.2 ⟨λb=>DN.2 ⟨λy e=>(by cases e),λy e=>?_⟩,λ_=>?_⟩)
  .grind[DT]
  refine DM.2 ((A0J.1 _ oc).mono λB _=>DO.2 ⟨λb=>DN.2 ⟨λy e=>(by cases e),λy e=>?_⟩,λ_=>?_⟩)
  .grind[DT]
  refine DM.2 ((A0K.1 _ s1).mono λC d=>DM.2 ((A0L.1 _ x).mono λD j=>?_));refine DM.2 ((SG.1 _ trivial).mono λK _=>?_);refine DO.2 ⟨λ_=>DM.2 (F6.2 ⟨oc,?_⟩),λ_=>?_⟩
  .grind
  grind
 grind
theorem ANU(k:Int)(l:List I9)(h:(∀s∈l,GY s)/\l.length<=1048576):Tot (W0 (k,l)) (λr=>r.2=0->r.1.1=k):=by unfold W0;dsimp only;refine DM.2 ((A7T.1 _ h).mono λd b=>DO.2 ⟨λ_=>DN.2 λe=>(by cases e),λa=>?_⟩);have a:=AG a;exact DM.2 ((A7U.1 _ ⟨AR _,B5 _,rfl,oc,oh,oc,b.2,oh⟩).mono λr h=>DN.2 λ_=>h.1)
def ANV(k:Int)(l:List SF)(h:(∀s∈l,GQ s)/\l.length<=1048576):Tot (WA (k,l)) (λr=>r.2=0->r.1.1=k):=by
 unfold WA;refine DM.2 ((ANT k _ l h.2 h.1).mono λr b=>?_);rcases r with y|y
 .obtain⟨z,d⟩:=b.1 y rfl;refine DM.2 ((A7C y.2).mono λw a=>?_);have p:=a.1.length_eq;refine DM.2 ((A7V _ ⟨AR _,B5 _,rfl,oc,oh,oh,oc,λs m=>d s (a.1.mem_iff.1 m)⟩).mono λx j=>?_);grind[DM,ANU,DN]
 .exact DN.2 λe=>absurd e (b.2 y rfl)
def ANW{a:Af}{r:Rg}(h:O8 a)(s:LW a=some (r,0)):r.1=a.2.1:=by
 have:Tot (LW a) (λr=>r.2=0->r.1.1=a.2.1):=by
  unfold LW;refine DM.2 ((A7M _ h).mono λl h1=>?_);refine DO.2 ⟨λb=>DN.2 λe=>?_,λb=>?_⟩
  .grind[DT]
  have h0:l=0:=by rw[DT]at b;simpa using b
  refine DM.2 ((A7S _ ⟨h,h1 h0⟩).mono λm d=>?_);exact DM.2 ((ANV a.2.1 m ⟨d.2,oa⟩).mono λw j=>DN.2 j)
 obtain⟨x,h1,p⟩:=this;grind
abbrev Bs:=Int×(List FG)×(List Int)
abbrev Dl:=Int×Int×(List FG)×(List DL)
noncomputable def MK(a:FG):Int:=(TX a).getD 1
def A7b{a:FG}(h:L8 a):TX a=some (MK a):=by have⟨r,b,_⟩:=ANM.1 a h;grind[MK]
def okR(l:List FG)(i:Nat):Prop:=∀a,l[i]?=some a->MK a=0/\(0<i->∀a',l[i-1]?=some a'->a'.1<a.1)
def X8(b:Bs)(i:Nat):Prop:=okR b.2.1 i/\∀s,b.2.2[i]?=some s->0<=s/\s<=b.1
theorem A0M(a b:DL):(Op.bytesLess a b||DQ a b)= !decide (b<a):=by grind[A77,E0,oP,oQ,MJ]
def ANX(b:Bs)(Z:∀a∈b.2.1,L8 a)(hl:b.2.2.length=b.2.1.length)(hm:b.2.1.length<=2000):
 Tot (xQ (b,b.2.1,(b.2.1.length:Int),0)) (λr=>(∀u,r=.inl u->∀j,j<b.2.1.length->X8 b j)/\∀e,r=.inr e->e≠0/\¬∀j,j<b.2.1.length->X8 b j):=by
 refine ES (R:=λr:Sum Unit Int=>(∀u,r=.inl u->∀j,j<b.2.1.length->X8 b j)/\∀e,r=.inr e->e≠0/\¬∀j,j<b.2.1.length->X8 b j)
  (λy:Bs×(List FG)×Int×Int=>y.1=b/\y.2.1=b.2.1/\y.2.2.1=b.2.1.length/\0<=y.2.2.2/\y.2.2.2<=b.2.1.length/\∀j:Nat,(j:Int)<y.2.2.2->X8 b j)
  (λy=>((b.2.1.length:Int)-y.2.2.2).toNat) ?_ _ _ ⟨rfl,rfl,rfl,AR _,B5 _,λj L=>oc⟩ (by exact qP)
 rintro next ⟨I,l,n,i⟩ R U
 dsimp only at R U;obtain⟨rfl,rfl,rfl,i0,i1,i2⟩:=R;unfold A4x;dsimp only;refine DO.2 ⟨λG=>?_,λG=>DN.2 ⟨λu _ j L=>?_,λe m=>(by cases m)⟩⟩
 .have G:=AB G;rw[EH (n:=i+1) oa oa,EH oa oa];refine DM.2 (EI.2 ⟨⟨i0,G⟩,λa K=>?_⟩);rw[A7b (Z a (O9 K))];refine DM.2 (DN.2 ?_);have A:i.toNat<I.2.1.length:=oa;refine DO.2 ⟨λm=>DN.2 ⟨λu C=>(by cases C),λe d=>?_⟩,λm=>?_⟩
  .cases d;rw[DT]at m;have m:¬MK a=0:=by simpa using m
   exact⟨m,λh=>m ((h i.toNat A).1 a K).1⟩
  have hk:MK a=0:=by rw[DT]at m;simpa using m
  refine DM.2 (Tot.mono (P:=λH:FG=>0<i->I.2.1[i.toNat-1]?=some H) (DO.2 ⟨λx=>?_,λx=>DN.2 λh0=>absurd h0 (AG x)⟩) λH Q=>?_)
  .have x:=AB x;refine EI.2 ⟨⟨oa,oa⟩,λw hw _=>?_⟩;simp_all
  rw[A0M];refine DO.2 ⟨λp=>DN.2 ⟨λu C=>(by cases C),λe d=>?_⟩,λp=>?_⟩
  .cases d;have O:=CW.1 p;have x:=AB O.1;have N:¬H.1<a.1:=by simpa using O.2
   exact⟨oi,λh=>N (((h i.toNat A).1 a K).2 oa H (Q x))⟩
  have T:0<i.toNat->∀E,I.2.1[i.toNat-1]?=some E->E.1<a.1:=by intro x E z;have D:0<i:=oa;rw[Q D]at z;cases z;rw[A7 D,BK]at p;simpa using p
  refine DM.2 (EI.2 ⟨⟨i0,oa⟩,λs hs=>?_⟩);refine DM.2 (Tot.mono (P:=λV:Int=>0<=s->V=s) (DO.2 ⟨λx=>EI.2 ⟨⟨i0,oa⟩,λw hw _=>?_⟩,λx=>DN.2 λh0=>?_⟩) λV Y=>?_)
  .grind
  .grind
  refine DO.2 ⟨λB=>DN.2 ⟨λu C=>(by cases C),λe d=>?_⟩,λB=>?_⟩
  .cases d;refine⟨oi,λh=>?_⟩;have J:=(h i.toNat A).2 s hs;grind
  .have J:=BM.1 B;have h9:=AG J.1;have W:=AG J.2;have X:=Y oa;refine U _ ⟨rfl,rfl,rfl,oc,oc,λj L=>?_⟩ oc;dsimp only at L;by_cases M:(j:Int)<i
   .exact i2 j M
   .have:j=i.toNat:=oa;subst this;refine⟨λE z=>?_,λs' h3=>?_⟩<;>grind
 grind
def BB(b:Bs):Prop:=∀a∈b.2.1,L8 a
def X9(b:Bs):Prop:=(0<=b.1/\b.1<=1000000000)/\b.2.1.length<=2000/\b.2.2.length=b.2.1.length/\∀j,j<b.2.1.length->X8 b j
def A7c(b:Bs)(m:BB b):Tot (WB b) (λr=>r=0<->X9 b):=by
 unfold WB X9;refine DO.2 ⟨λh=>DN.2 ⟨λh0=>absurd h0 oi,λhk=>?_⟩,λh1=>?_⟩
 .simp at h;omega
 have a:=BM.1 h1;have p:=AG a.1;have s:=AG a.2;refine DO.2 ⟨λh=>DN.2 ⟨λh0=>absurd h0 oi,λhk=>?_⟩,λl=>?_⟩
 .grind
 have w:=AG l;refine DO.2 ⟨λh=>DN.2 ⟨λh0=>absurd h0 oi,λhk=>?_⟩,λj=>?_⟩
 .grind[DT]
 have e:b.2.2.length=b.2.1.length:=by
  rw[DT]at j;have:((b.2.2.length:Nat):Int)=b.2.1.length:=by simpa using j
  omega
 refine DM.2 ((ANX b m e oa).mono λr d=>?_);rcases r with r|r
 .exact DN.2 ⟨λ_=>⟨oa,oa,e,d.1 r rfl⟩,λ_=>rfl⟩
 .exact DN.2 ⟨λh0=>absurd h0 (d.2 r rfl).1,λhk=>absurd hk.2.2.2 (d.2 r rfl).2⟩
def DB(d:Dl):Prop:=d.2.2.1.length<=1048576/\∀a∈d.2.2.1,L8 a
end Go.Ev.Pv
